import Derived.Test.YtjokahbkmceocaaDoorZj
import Derived.Test.YtjokahbkmceocaaDoorZi
import Derived.Test.YtjokahbkmceocaaDoorZg
import Derived.Test.YtjokahbkmceocaaDoorZm
set_option linter.unusedVariables false
set_option linter.unusedSimpArgs false
namespace Pv
open Go Go.RowKit Go.Proofs

/-- where row i's part of the rest begins -/
def offs (T : Nat) : Nat → Nat
  | 0 => 0
  | i + 1 => if i = 0 then 0 else offs T i + (T + 1 - i)
/-- the symmetric matrix that is filled from a first row and the rest -/
def symE (first rest : List Nat) (T i j : Nat) : Nat := if min i j = 0 then first.getD (max i j) 0 else rest.getD (offs T (min i j) + (max i j - min i j)) 0
theorem symE_comm (first rest : List Nat) (T i j : Nat) : symE first rest T i j = symE first rest T j i := by
  unfold symE; rw [Nat.min_comm, Nat.max_comm]
theorem offs_lt {T i j : Nat} (hT : T ≤ 5) (h1 : 1 ≤ i) (h2 : i ≤ j) (h3 : j ≤ T) : offs T i + (j - i) < T * (T + 1) / 2 := by
  have key : ∀ T i j : Fin 6, 1 ≤ i.val ∧ i.val ≤ j.val ∧ j.val ≤ T.val → offs T.val i.val + (j.val - i.val) < T.val * (T.val + 1) / 2 := by decide +kernel
  exact key ⟨T, by omega⟩ ⟨i, by omega⟩ ⟨j, by omega⟩ ⟨h1, h2, h3⟩
/-- what is done when a rows are, and b entries of row a -/
def doneE (a b i j : Nat) : Prop := if min i j = 0 then max i j < a + (if b = 0 then 0 else 1) else min i j < a ∨ (min i j = a ∧ max i j < b)
instance (a b i j : Nat) : Decidable (doneE a b i j) := by unfold doneE; infer_instance
def partE (first rest : List Nat) (T a b i j : Nat) : Nat := if doneE a b i j then symE first rest T i j else 0
def rowU (n : Nat) (f : Nat → Nat) : List Nat := (List.range n).map f
theorem rowU_len (n : Nat) (f : Nat → Nat) : (rowU n f).length = n := by simp [rowU]
theorem rowU_at {n : Nat} (f : Nat → Nat) {j : Nat} (h : j < n) : (rowU n f).getD j 0 = f j := by
  rw [List.getD_eq_getElem?_getD]; simp [rowU, h]
theorem rowU_set {n : Nat} (f : Nat → Nat) {j : Nat} (h : j < n) (x : Nat) : (rowU n f).set j x = rowU n (upd f j x) := by
  refine List.ext_getElem? fun i => ?_
  rw [List.getElem?_set, rowU_len]
  unfold rowU
  by_cases e : j = i
  · subst e; simp [h]
  · rw [if_neg e]
    by_cases hi : i < n
    · simp [hi, upd_ne _ _ (fun e' => e e'.symm)]
    · rw [List.getElem?_eq_none (by simp; omega), List.getElem?_eq_none (by simp; omega)]
theorem rowU_congr {n : Nat} {f g : Nat → Nat} (h : ∀ j, j < n → f j = g j) : rowU n f = rowU n g := List.map_congr_left fun j hj => h j (List.mem_range.1 hj)
theorem list_eqU' {a b : List Nat} (hl : a.length = b.length) (h : ∀ i, i < a.length → a.getD i 0 = b.getD i 0) : a = b := by
  refine List.ext_getElem hl fun i h1 h2 => ?_
  have := h i h1
  simpa [List.getD_eq_getElem?_getD, List.getElem?_eq_getElem h1, List.getElem?_eq_getElem h2] using this
theorem list_rep {l : List Nat} {n : Nat} (hl : l.length = n) (h : ∀ j, j < n → l.getD j 0 = 0) : l = List.replicate n 0 := by
  refine list_eqU' (by simpa using hl) fun i hi => ?_
  rw [h i (by omega), getD_rep _ _ _ _ (by omega)]
/-- a new row of zeros is laid -/
theorem Rws.mk0 {wr : World} {F : Nat → Prop} {B g0 N n : Nat} {vs : Nat → Value} {X : Nat → List Nat} (h : Rws kU wr F B g0 N 30 22 vs X) {i : Nat} (hi : i < N) (hn : n ≤ 1000) (hB : B ≤ wr.heap.size) (hF : F wr.heap.size) :
    Rws kU ((wr.setCell ⟨g0, i, none⟩ (.slice (some ⟨wr.heap.size, 0, none⟩) n n)).alloc (.cells (madeCells #[.int .u64 0] n) 22)) F B g0 N 30 22 (upd vs i (.slice (some ⟨wr.heap.size, 0, none⟩) n n)) (upd X i (List.replicate n 0)) := by
  have hg := h.out.lt
  rw [← World.setCell_alloc_past (w := wr) _ g0 i _ hg]
  have hrow : Ow kU (wr.alloc (.cells (madeCells #[.int .u64 0] n) 22)) B 22 (.slice (some ⟨wr.heap.size, 0, none⟩) n n) (List.replicate n 0) := by
    refine row_mk (by simp) (fun x hx => by rw [(List.mem_replicate.1 hx).2]; omega) ?_ (by simp only [maxLen]; omega) hB
    rw [heap_alloc_new]
    have e : (List.replicate n 0).map (fun x : Nat => Value.int .u64 (x : Int)) = (madeCells #[.int .u64 0] n).toList := by
      rw [List.map_replicate]; exact (toList_madeCells_one (.int .u64 0) n).symm
    rw [e, Array.toArray_toList]
  refine Rws.store h hi (World.grownBy_alloc _ _ _) ((Ow.inT (T := Far F g0 N vs) hrow fun u x _ hr => ?_)) (fun b hb => .inr ?_) (fun b hb => ?_)
  · exact hr
  · have hb : some wr.heap.size = some b := hb
    injection hb with hb; omega
  · have hb : some wr.heap.size = some b := hb
    injection hb with hb; rw [← hb]; exact hF
/-- two entries across the diagonal are written -/
def setE (f : Nat → Nat → Nat) (a b x : Nat) : Nat → Nat → Nat := fun i j => if (i = a ∧ j = b) ∨ (i = b ∧ j = a) then x else f i j
theorem Rws.put2 {w : World} {F : Nat → Prop} {B g0 N : Nat} {eo ei : TypeId} {vs : Nat → Value} {f : Nat → Nat → Nat} (h : Rws kU w F B g0 N eo ei vs (fun i => rowU N (f i))) {a b x ra rb na ca nb' cb : Nat} (ha : a < N) (hb : b < N) (h1 : vs a = .slice (some ⟨ra, 0, none⟩) na ca) (h2 : vs b = .slice (some ⟨rb, 0, none⟩) nb' cb) (hx : x < 18446744073709551616) :
    Rws kU ((w.setCell ⟨ra, b, none⟩ (.int .u64 (x : Int))).setCell ⟨rb, a, none⟩ (.int .u64 (x : Int))) F B g0 N eo ei vs (fun i => rowU N (setE f a b x i)) := by
  have p1 := Rws.put rfl h (u := .int .u64 (x : Int)) (x := x) ha h1 (by rw [rowU_len]; exact hb) ⟨rfl, hx⟩
  have p1' := p1.congr (X' := fun i => rowU N (fun j => if i = a ∧ j = b then x else f i j)) fun i hi => by
    by_cases e : i = a
    · subst e
      rw [upd_same, rowU_set _ hb]
      exact rowU_congr fun j _ => by unfold upd; simp
    · rw [upd_ne _ _ e]; exact rowU_congr fun j _ => by simp [e]
  have p2 := Rws.put rfl p1' (u := .int .u64 (x : Int)) (x := x) hb h2 (by rw [rowU_len]; exact ha) ⟨rfl, hx⟩
  refine p2.congr fun i hi => ?_
  by_cases e : i = b
  · subst e
    rw [upd_same, rowU_set _ ha]
    exact rowU_congr fun j _ => by
      unfold upd setE
      by_cases e2 : j = a
      · simp [e2]
      · by_cases e3 : i = a <;> simp [e2, e3]
  · rw [upd_ne _ _ e]
    exact rowU_congr fun j _ => by unfold setE; simp [e]
theorem partE_first {first rest : List Nat} {T a i j : Nat} : setE (partE first rest T a 0) 0 a (first.getD a 0) i j = partE first rest T a 1 i j := by
  unfold setE
  by_cases h : (i = 0 ∧ j = a) ∨ (i = a ∧ j = 0)
  · rw [if_pos h]
    have hd : doneE a 1 i j := by unfold doneE; rw [if_pos (by omega)]; simp; omega
    unfold partE symE
    rw [if_pos hd, if_pos (by omega), show max i j = a by omega]
  · rw [if_neg h]
    unfold partE
    have e : doneE a 0 i j ↔ doneE a 1 i j := by
      unfold doneE
      by_cases hm : min i j = 0
      · rw [if_pos hm, if_pos hm]; simp; omega
      · rw [if_neg hm, if_neg hm]; omega
    simp only [e]
theorem partE_rest {first rest : List Nat} {T a b i j : Nat} (ha : 1 ≤ a) (hab : a ≤ b) : setE (partE first rest T a b) a b (rest.getD (offs T a + (b - a)) 0) i j = partE first rest T a (b + 1) i j := by
  unfold setE
  by_cases h : (i = a ∧ j = b) ∨ (i = b ∧ j = a)
  · rw [if_pos h]
    have hd : doneE a (b + 1) i j := by unfold doneE; rw [if_neg (by omega)]; omega
    unfold partE symE
    rw [if_pos hd, if_neg (by omega), show min i j = a by omega, show max i j = b by omega]
  · rw [if_neg h]
    unfold partE
    have e : doneE a b i j ↔ doneE a (b + 1) i j := by
      unfold doneE
      by_cases hm : min i j = 0
      · rw [if_pos hm, if_pos hm, if_neg (show ¬ b = 0 by omega), if_neg (show ¬ b + 1 = 0 by omega)]
      · rw [if_neg hm, if_neg hm]; omega
    simp only [e]
theorem partE_a {first rest : List Nat} {T a i j : Nat} (ha : 1 ≤ a) : partE first rest T a 1 i j = partE first rest T a a i j := by
  unfold partE
  have e : doneE a 1 i j ↔ doneE a a i j := by
    unfold doneE
    by_cases hm : min i j = 0
    · rw [if_pos hm, if_pos hm, if_neg (show ¬ (1 : Nat) = 0 by omega), if_neg (show ¬ a = 0 by omega)]
    · rw [if_neg hm, if_neg hm]; omega
  simp only [e]
theorem partE_next {first rest : List Nat} {T a n i j : Nat} (hi : i < n) (hj : j < n) (h : 1 ≤ a ∨ n = 1) (hn : 1 ≤ n) : partE first rest T a n i j = partE first rest T (a + 1) 0 i j := by
  unfold partE
  have e : doneE a n i j ↔ doneE (a + 1) 0 i j := by
    unfold doneE
    by_cases hm : min i j = 0
    · rw [if_pos hm, if_pos hm, if_neg (show ¬ n = 0 by omega)]; simp
    · rw [if_neg hm, if_neg hm]; omega
  simp only [e]
theorem partE_next0 {first rest : List Nat} {T i j : Nat} : partE first rest T 0 1 i j = partE first rest T 1 0 i j := by
  unfold partE
  have e : doneE 0 1 i j ↔ doneE 1 0 i j := by
    unfold doneE
    by_cases hm : min i j = 0
    · rw [if_pos hm, if_pos hm]; simp
    · rw [if_neg hm, if_neg hm]; omega
  simp only [e]
theorem partE_done {first rest : List Nat} {T n i j : Nat} (hi : i < n) (hj : j < n) : partE first rest T n 0 i j = symE first rest T i j := by
  unfold partE; rw [if_pos]
  unfold doneE
  by_cases hm : min i j = 0
  · rw [if_pos hm]; simp; omega
  · rw [if_neg hm]; omega
def MatP (T : Nat) (first rest : List Nat) (w : World) (e : Ending) (w' : World) : Prop :=
  Bl w w' ∧ ∃ v', e = .returned (.tuple #[v', .int .i64 0]) ∧ (kS (kS kU)).R w' (fun b => w.heap.size ≤ b) [v'] ((List.range (T + 1)).map fun i => rowU (T + 1) (symE first rest T i))
set_option maxHeartbeats 4000000 in
set_option maxRecDepth 100000 in
theorem rmat_any (T : Nat) (v1 v2 : Value) (first rest : List Nat) (S S' : Nat → Prop) (w : World) (h1 : (kS kU).R w S [v1] first) (h2 : (kS kU).R w S' [v2] rest) (hf : first.length = T + 1) (hr : rest.length = T * (T + 1) / 2) (hT : T ≤ 5) :
    Calls Tryd.prog 49 #[v1, v2] w fun e w' => MatP T first rest w e w' := by
  obtain ⟨A1, c1, rfl, ⟨hl1, hl2⟩, hc1⟩ := rdU ((kS kU).low h1)
  obtain ⟨A2, c2, rfl, ⟨hl3, hl4⟩, hc2⟩ := rdU ((kS kU).low h2)
  obtain ⟨R, hR⟩ : ∃ R, R = T * (T + 1) / 2 := ⟨_, rfl⟩
  rw [hf] at hl1 hc1 ⊢
  rw [hr, ← hR] at hl3 hc2 ⊢
  have hmul : T * (T + 1) ≤ 5 * 6 := Nat.mul_le_mul hT (by omega)
  obtain ⟨z, hz⟩ : ∃ z, z = T * (T + 1) := ⟨_, rfl⟩
  obtain ⟨n, hn⟩ : ∃ n, n = T + 1 := ⟨_, rfl⟩
  have e0 : wrap64 ((T : Int) * (n : Int)) = (z : Int) := by
    rw [hn, ← Int.natCast_mul, ← hz, IntWalk.wrap64_in _ (by omega)]
  have e1 : Int.tdiv (z : Int) 2 = (R : Int) := by rw [hR, ← hz]; rfl
  have hR30 : R ≤ 15 := by rw [hR]; exact Nat.le_trans (Nat.div_le_div_right hmul) (by decide)
  have e2 : wrap64 (R : Int) = (R : Int) := by rw [IntWalk.wrap64_in _ (by omega)]
  have e3 : ((T : Int) + 1) = (n : Int) := by omega
  have hmk := fun W : World => run_make_row' (P := Tryd.prog) 27 30 (.slice none 0 0) 24 Tryd.underlying27 crowinfo rfl .i64 .i64 n (by omega) (by omega) W
  have hmk2 := fun W : World => run_make_row' (P := Tryd.prog) 30 22 (.int .u64 0) 8 Tryd.underlying30 cu64info rfl .i64 .i64 n (by omega) (by omega) W
  rw [← hn] at hl1 hc1 ⊢
  have hTn : (n : Int) - 1 = (T : Int) := by omega
  have HC1 := hide hc1; have HC2 := hide hc2; have HF := hide hf; have HRR := hide hr; have HRE := hide hR; have HN := hide hn; have HT := hide hT
  clear hc1 hc2 h1 h2 hf hr hR hn hmul hz
  have hT0 : ¬ (T : Int) < 0 := by omega
  go_enter Tryd.func49, Tryd.ntmps49
  go_wp2_with fail
  obtain ⟨W0, hW0⟩ : ∃ W0, W0 = w.alloc (.cells (madeCells #[.slice none 0 0] n) 30) := ⟨_, rfl⟩
  rw [← hW0]
  obtain ⟨g0, hg0⟩ : ∃ g0, g0 = w.heap.size := ⟨_, rfl⟩
  rw [← hg0]
  have hB0 : Bl w W0 := by rw [hW0]; exact (Below.refl _ _).alloc (Nat.le_refl _) _
  have hRA : RowAt W0 g0 30 n (fun _ => .slice none 0 0) := by rw [hW0, hg0]; exact RowAt.made _ _ _ _
  have hI0 := Rws.start (F := fun b => w.heap.size ≤ b) (B := w.heap.size) kU 22 hRA (by rw [hg0]; exact Nat.le_refl _) (by rw [hg0]; exact Nat.le_refl _)
  have HB0 := hide hB0; have HI0 := hide hI0; have HG0 := hide hg0
  clear hB0 hRA hI0 hW0 hg0 hmk
  go_loopw [8] (fun ix wr => ∃ i : Nat, i ≤ n ∧ ix = .int .i64 i ∧ Bl w wr ∧ ∃ vs, Rws kU wr (fun b => w.heap.size ≤ b) w.heap.size g0 n 30 22 vs (fun i' => if i' < i then rowU n (partE first rest T 0 0 i') else [])) (fun ix _ => n - (intOf ix).toNat)
  case atStart => exact ⟨0, by omega, rfl, HB0.out, _, HI0.out.congr fun i hi => by simp⟩
  case round =>
    obtain ⟨i, hi, rfl, hB, vs, hI⟩ := hrel
    by_cases hin : i < n
    · as_aux_lemma =>
      have hii : (i : Int) ≤ (T : Int) := by omega
      have hi2 : (i : Int) < (n : Int) := by omega
      have hi0 : (0 : Int) ≤ (i : Int) := by omega
      have hco := hI.out.cell hin
      have hcf := hI.out.free i
      have hg := hI.out.lt
      have hmk0 := hI.mk0 (n := n) hin (by omega) hB.size hB.size
      have hX : rowU n (partE first rest T 0 0 i) = List.replicate n 0 := by
        refine list_rep (rowU_len _ _) fun j hj => ?_
        rw [rowU_at _ hj]
        unfold partE; rw [if_neg]
        unfold doneE; split
        · simp
        · omega
      have hst := hmk0.congr (X' := fun i' => if i' < i + 1 then rowU n (partE first rest T 0 0 i') else []) fun i' hi' => by
        unfold upd
        by_cases e : i' = i
        · subst e; simp [hX]
        · simp only [e, if_false]
          by_cases e2 : i' < i
          · rw [if_pos e2, if_pos (by omega)]
          · rw [if_neg e2, if_neg (by omega)]
      have hBn : Bl w ((wr.setCell ⟨g0, i, none⟩ (.slice (some ⟨wr.heap.size, 0, none⟩) n n)).alloc (.cells (madeCells #[.int .u64 0] n) 22)) := (hB.setCell (by rw [← HG0.out]; exact Nat.le_refl _) _).alloc (by simpa [World.setCell] using hB.size) _
      have HST := hide hst; have HBN := hide hBn
      clear hst hmk0 hX hBn hI hB
      go_wp2_with fail
      go_round
      case rel => exact ⟨i + 1, by omega, by go_num, HBN.out, _, HST.out⟩
      case measure => simp [intOf]; omega
    · as_aux_lemma =>
      have hin' : i = n := by omega
      subst hin'
      have hii : ¬ (i : Int) ≤ (T : Int) := by omega
      have HB := hide hB; have HI := hide hI
      clear hB hI
      have HII := hide hii; clear hii
      have hI0' := HI.out.congr (X' := fun i' => rowU i (partE first rest T 0 0 i')) fun i' hi' => by simp [hi']
      have HI := hide hI0'; clear hI0'
      have hiT : i = T + 1 := HN.out
      have HIT := hide hiT; clear hiT
      go_wp2_with fail
      go_loopw [9, 10] (fun s9 ix wr => ∃ a : Nat, a ≤ i ∧ ix = .int .i64 a ∧ s9 = .int .i64 (offs T a) ∧ Bl w wr ∧ Rws kU wr (fun b => w.heap.size ≤ b) w.heap.size g0 i 30 22 vs (fun i' => rowU i (partE first rest T a 0 i'))) (fun _ ix _ => i - (intOf ix).toNat)
      case atStart => exact ⟨0, by omega, rfl, rfl, HB.out, HI.out⟩
      case round =>
        clear HB HI
        obtain ⟨a, ha, rfl, rfl, hB, hI⟩ := hrel
        by_cases hai : a < i
        · as_aux_lemma =>
          have haT : (a : Int) ≤ (T : Int) := by have := HIT.out; omega
          have hai2 : (a : Int) < (i : Int) := by omega
          have ha0 : (0 : Int) ≤ (a : Int) := by omega
          have h0i : 0 < i := by omega
          have h0ii : (0 : Int) < (i : Int) := by omega
          obtain ⟨r0, q0, hv0, _, hr0⟩ := hI.form h0i (by rw [rowU_len]; exact h0i)
          obtain ⟨ra, qa, hva, _, hra⟩ := hI.form hai (by rw [rowU_len]; exact h0i)
          rw [rowU_len] at hv0 hva
          have hh0 := hI.out.cell h0i
          have hha := hI.out.cell hai
          rw [hv0] at hh0
          rw [hva] at hha
          have hrw0 := hI.row 0 h0i
          have hrwa := hI.row a hai
          rw [hv0] at hrw0
          rw [hva] at hrwa
          obtain ⟨x1, hx1, hf1, _⟩ := hrw0.at_ rfl a _ (show (rowU i (partE first rest T a 0 0))[a]? = some (partE first rest T a 0 0 a) by simp [rowU, hai])
          obtain ⟨x2, hx2, hf2, _⟩ := hrwa.at_ rfl 0 _ (show (rowU i (partE first rest T a 0 a))[0]? = some (partE first rest T a 0 a 0) by simp [rowU, h0i])
          obtain ⟨ad, rfl, _, hcf, hlt⟩ := HC1.out a hai
          have hcf := cell_bl hB hcf
          have hp2 := (Rws.put2 hI h0i hai hv0 hva hlt).congr (X' := fun i' => rowU i (partE first rest T a 1 i')) fun i' _ => rowU_congr fun j' _ => partE_first
          have hB2 : Bl w ((wr.setCell ⟨r0, a, none⟩ (.int .u64 (first.getD a 0 : Nat))).setCell ⟨ra, 0, none⟩ (.int .u64 (first.getD a 0 : Nat))) := (hB.setCell (by assumption) _).setCell (by assumption) _
          obtain ⟨y, hy⟩ : ∃ y, y = first.getD a 0 := ⟨_, rfl⟩
          rw [← hy] at hcf hp2 hB2 hlt
          have hne : (a = 0 ∧ ra = r0) ∨ r0 ≠ ra := by
            by_cases e : a = 0
            · left
              refine ⟨e, ?_⟩
              subst e
              rw [hv0] at hva
              injection hva with e1; injection e1 with e1; injection e1 with e1; exact e1.symm
            · right; intro e2
              exact hI.ap 0 a h0i hai (fun e3 => e e3.symm) r0 (by rw [hv0]; rfl) (by rw [hva, e2]; rfl)
          have HP2 := hide hp2; have HB2 := hide hB2; have HI := hide hI; have HB := hide hB; have HY := hide hy; have HNE := hide hne
          clear hp2 hB2 hI hB hy hrw0 hrwa hne hv0 hva
          go_wp2_with fail
          go_cut [] (fun wx => Bl w wx ∧ Rws kU wx (fun b => w.heap.size ≤ b) w.heap.size g0 i 30 22 vs (fun i' => rowU i (partE first rest T a 1 i')))
          case first => as_aux_lemma =>
            rcases HNE.out with ⟨rfl, rfl⟩ | hne
            · rw [add_zero'] at hcf
              go_region
              go_wp2_with fail
              go_meet
              exact ⟨by first | exact HB2.out | exact HB2.out.drew, by first | exact HP2.out | exact HP2.out.dr (Dr.one (Dr.refl _))⟩
            · have hne2 : ra ≠ r0 := fun e => hne e.symm
              go_region
              go_wp2_with fail
              go_meet
              exact ⟨by first | exact HB2.out | exact HB2.out.drew, by first | exact HP2.out | exact HP2.out.dr (Dr.one (Dr.refl _))⟩
          case rest => as_aux_lemma =>
            clear HP2 HB2 HI HB hh0 hha hx1 hf1 hx2 hf2 hcf
            obtain ⟨hB, hI⟩ := hcut
            have HB := hide hB; have HI := hide hI
            clear hB hI
            by_cases ha1 : a = 0
            · subst ha1
              have hz0 : ¬ ((0 : Int) < (((0 : Nat)) : Int)) := by simp
              go_wp2_with fail
              go_loopw [9, 11] (fun s9 ix wx => wx = wc ∧ s9 = .int .i64 (offs T 0) ∧ ix = .int .i64 ((0 : Nat) : Int)) (fun _ _ _ => 0)
              case atStart => exact ⟨rfl, rfl, rfl⟩
              case round => as_aux_lemma =>
                obtain ⟨rfl, rfl, rfl⟩ := hrel
                go_wp2_with fail
                go_round
                case rel => exact ⟨1, by omega, by go_num, rfl, HB.out, HI.out.congr fun i' _ => rowU_congr fun j' _ => partE_next0⟩
                case measure => simp [intOf]; omega
            · have ha1p : (0 : Int) < (a : Int) := by omega
              have HA1 := hide ha1; clear ha1
              have hIa := HI.out.congr (X' := fun i' => rowU i (partE first rest T a a i')) fun i' _ => rowU_congr fun j' _ => partE_a (by have := HA1.out; omega)
              have HI := hide hIa; clear hIa
              go_wp2_with fail
              go_loopw [9, 11] (fun s9 ix wx => ∃ b : Nat, a ≤ b ∧ b ≤ i ∧ ix = .int .i64 b ∧ s9 = .int .i64 ((offs T a + (b - a) : Nat) : Int) ∧ Bl w wx ∧ Rws kU wx (fun b => w.heap.size ≤ b) w.heap.size g0 i 30 22 vs (fun i' => rowU i (partE first rest T a b i'))) (fun _ ix _ => i - (intOf ix).toNat)
              case atStart => exact ⟨a, by omega, by omega, rfl, by rw [Nat.sub_self, Nat.add_zero], HB.out, HI.out⟩
              case round =>
                clear HB HI
                obtain ⟨b, hab, hbi, rfl, rfl, hB, hI⟩ := hrel
                by_cases hbi2 : b < i
                · as_aux_lemma =>
                  have hbT : (b : Int) ≤ (T : Int) := by have := HIT.out; omega
                  have hbi3 : (b : Int) < (i : Int) := by omega
                  have hb0 : (0 : Int) ≤ (b : Int) := by omega
                  obtain ⟨rb, qb, hvb, _, hrb⟩ := hI.form hbi2 (by rw [rowU_len]; exact h0i)
                  obtain ⟨ra', qa', hva, _, hra'⟩ := hI.form hai (by rw [rowU_len]; exact h0i)
                  rw [rowU_len] at hvb hva
                  have hha := hI.out.cell hai
                  have hhb := hI.out.cell hbi2
                  rw [hva] at hha
                  rw [hvb] at hhb
                  have hrwa := hI.row a hai
                  have hrwb := hI.row b hbi2
                  rw [hva] at hrwa
                  rw [hvb] at hrwb
                  obtain ⟨x1, hx1, hf1, _⟩ := hrwa.at_ rfl b _ (show (rowU i (partE first rest T a b a))[b]? = some (partE first rest T a b a b) by simp [rowU, hbi2])
                  obtain ⟨x2, hx2, hf2, _⟩ := hrwb.at_ rfl a _ (show (rowU i (partE first rest T a b b))[a]? = some (partE first rest T a b b a) by simp [rowU, hai])
                  have hoR : offs T a + (b - a) < R := by rw [HRE.out]; exact offs_lt HT.out (by have := HA1.out; omega) hab (by have := HIT.out; omega)
                  obtain ⟨o, ho⟩ : ∃ o, o = offs T a + (b - a) := ⟨_, rfl⟩
                  have hoS : offs T a + (b + 1 - a) = o + 1 := by omega
                  obtain ⟨ad, rfl, _, hcf, hlt⟩ := HC2.out (offs T a + (b - a)) hoR
                  have hcf := cell_bl hB hcf
                  have hp2 := (Rws.put2 hI hai hbi2 hva hvb hlt).congr (X' := fun i' => rowU i (partE first rest T a (b + 1) i')) fun i' _ => rowU_congr fun j' _ => partE_rest (by have := HA1.out; omega) hab
                  have hB2 : Bl w ((wr.setCell ⟨ra', b, none⟩ (.int .u64 (rest.getD (offs T a + (b - a)) 0 : Nat))).setCell ⟨rb, a, none⟩ (.int .u64 (rest.getD (offs T a + (b - a)) 0 : Nat))) := (hB.setCell (by assumption) _).setCell (by assumption) _
                  rw [← ho] at hcf hp2 hB2 hlt hoR ⊢
                  obtain ⟨y, hy⟩ : ∃ y, y = rest.getD o 0 := ⟨_, rfl⟩
                  rw [← hy] at hcf hp2 hB2 hlt
                  have hoi : (o : Int) < (R : Int) := by omega
                  have hoi0 : (0 : Int) ≤ (o : Int) := by omega
                  have hne : (b = a ∧ rb = ra') ∨ ra' ≠ rb := by
                    by_cases e : b = a
                    · left
                      refine ⟨e, ?_⟩
                      subst e
                      rw [hva] at hvb
                      injection hvb with e1; injection e1 with e1; injection e1 with e1; exact e1.symm
                    · right; intro e2
                      exact hI.ap a b hai hbi2 (fun e3 => e e3.symm) ra' (by rw [hva]; rfl) (by rw [hvb, e2]; rfl)
                  have HP2 := hide hp2; have HB2 := hide hB2; have HY := hide hy; have HNE := hide hne; have HO := hide ho; have HOS := hide hoS
                  clear hp2 hB2 hI hB hy hrwa hrwb hne hva hvb ho hoS hoR
                  go_wp2_with fail
                  go_cut [] (fun wx => Bl w wx ∧ Rws kU wx (fun b => w.heap.size ≤ b) w.heap.size g0 i 30 22 vs (fun i' => rowU i (partE first rest T a (b + 1) i')))
                  case first => as_aux_lemma =>
                    rcases HNE.out with ⟨rfl, rfl⟩ | hne
                    · go_region
                      go_wp2_with fail
                      go_meet
                      exact ⟨by first | exact HB2.out | exact HB2.out.drew, by first | exact HP2.out | exact HP2.out.dr (Dr.one (Dr.refl _))⟩
                    · have hne2 : rb ≠ ra' := fun e => hne e.symm
                      go_region
                      go_wp2_with fail
                      go_meet
                      exact ⟨by first | exact HB2.out | exact HB2.out.drew, by first | exact HP2.out | exact HP2.out.dr (Dr.one (Dr.refl _))⟩
                  case rest => as_aux_lemma =>
                    clear HP2 HB2 hha hhb hx1 hf1 hx2 hf2 hcf
                    obtain ⟨hB, hI⟩ := hcut
                    have HB := hide hB; have HI := hide hI
                    clear hB hI
                    go_wp2_with fail
                    go_round
                    case rel => exact ⟨b + 1, by omega, by omega, by go_num, by rw [HOS.out]; go_num, HB.out, HI.out⟩
                    case measure => simp [intOf]; omega
                · as_aux_lemma =>
                  have hbi' : b = i := by omega
                  subst hbi'
                  have hbT : ¬ (b : Int) ≤ (T : Int) := by have := HIT.out; omega
                  have hof : offs T a + (b - a) = offs T (a + 1) := by
                    show _ = (if a = 0 then 0 else offs T a + (T + 1 - a))
                    rw [if_neg HA1.out, HIT.out]
                  have HOF := hide hof
                  have hIn := hI.congr (X' := fun i' => rowU b (partE first rest T (a + 1) 0 i')) fun i' hi' => rowU_congr fun j' hj' => partE_next hi' hj' (.inl (by have := HA1.out; omega)) (by omega)
                  have HIN := hide hIn; have HB := hide hB
                  clear hIn hI hB hof
                  go_wp2_with fail
                  go_round
                  case rel => exact ⟨a + 1, by omega, by go_num, by rw [HOF.out], HB.out, HIN.out⟩
                  case measure => simp [intOf]; omega
        · as_aux_lemma =>
          have hai' : a = i := by omega
          subst hai'
          have hiT : ¬ (a : Int) ≤ (T : Int) := by have := HIT.out; omega
          have hfin := hI.congr (X' := fun i' => rowU a (symE first rest T i')) fun i' hi' => rowU_congr fun j' hj' => partE_done hi' hj'
          have hrd := hfin.reads (c := a) ⟨Nat.le_refl _, by have := HIT.out; have := HT.out; omega⟩
          rw [show (List.range a).map (fun i' => rowU a (symE first rest T i')) = (List.range (T + 1)).map fun i => rowU (T + 1) (symE first rest T i) by rw [← HIT.out]] at hrd
          have HRD := hide hrd; have HB := hide hB
          clear hrd hfin hI hB
          go_wp2_with fail
          go_ret2
          exact ⟨HB.out, _, rfl, HRD.out⟩
end Pv

set_option linter.unusedVariables false
set_option linter.unusedSimpArgs false
namespace Pv
open Go Go.RowKit Go.Proofs

/-- the coefficients of a new sharing: the first row and the rest -/
def nsFirst (p T secret : Nat) (words : List Nat) (i : Nat) : List Nat := secret % p :: (List.range (min i T)).map fun j => words.getD j 0 % p
def nsRest (p T : Nat) (words : List Nat) (i : Nat) : List Nat := (List.range (i - T)).map fun j => words.getD (T + j) 0 % p
/-- entry i, j of the matrix of a new sharing -/
def nsM (p T secret : Nat) (words : List Nat) (i j : Nat) : Nat := symE (nsFirst p T secret words (T + T * (T + 1) / 2)) (nsRest p T words (T + T * (T + 1) / 2)) T i j
theorem nsM_comm (p T secret : Nat) (words : List Nat) (i j : Nat) : nsM p T secret words i j = nsM p T secret words j i := symE_comm _ _ _ _ _
theorem nsFirst_len (p T secret : Nat) (words : List Nat) {i : Nat} (h : T ≤ i) : (nsFirst p T secret words i).length = T + 1 := by simp [nsFirst]; omega
theorem nsRest_len (p T : Nat) (words : List Nat) (i : Nat) : (nsRest p T words i).length = i - T := by simp [nsRest]
theorem nsFirst_lt {p T secret : Nat} (hp : 0 < p) (words : List Nat) (i : Nat) : ∀ c, c ∈ nsFirst p T secret words i → c < p := fun c hc => by
  unfold nsFirst at hc
  rcases List.mem_cons.1 hc with rfl | h
  · exact Nat.mod_lt _ hp
  · obtain ⟨j, _, rfl⟩ := List.mem_map.1 h
    exact Nat.mod_lt _ hp
theorem nsRest_lt {p T : Nat} (hp : 0 < p) (words : List Nat) (i : Nat) : ∀ c, c ∈ nsRest p T words i → c < p := fun c hc => by
  obtain ⟨j, _, rfl⟩ := List.mem_map.1 hc
  exact Nat.mod_lt _ hp
theorem nsM_lt {p T secret : Nat} (hp : 0 < p) (words : List Nat) (i j : Nat) : nsM p T secret words i j < p := by
  unfold nsM symE
  split
  · exact getD_ltp hp (nsFirst_lt hp _ _) _
  · exact getD_ltp hp (nsRest_lt hp _ _) _
theorem nsFirst_succ {p T secret : Nat} {words : List Nat} {i : Nat} (h : i < T) : nsFirst p T secret words (i + 1) = nsFirst p T secret words i ++ [words.getD i 0 % p] := by
  unfold nsFirst
  rw [show min (i + 1) T = i + 1 by omega, show min i T = i by omega, List.range_succ, List.map_append]; rfl
theorem nsFirst_same {p T secret : Nat} {words : List Nat} {i : Nat} (h : ¬ i < T) : nsFirst p T secret words (i + 1) = nsFirst p T secret words i := by
  unfold nsFirst
  rw [show min (i + 1) T = T by omega, show min i T = T by omega]
theorem nsRest_succ {p T : Nat} {words : List Nat} {i : Nat} (h : ¬ i < T) : nsRest p T words (i + 1) = nsRest p T words i ++ [words.getD i 0 % p] := by
  unfold nsRest
  rw [show i + 1 - T = (i - T) + 1 by omega, List.range_succ, List.map_append, List.map_cons, List.map_nil, show T + (i - T) = i by omega]
theorem nsRest_same {p T : Nat} {words : List Nat} {i : Nat} (h : i < T) : nsRest p T words (i + 1) = nsRest p T words i := by
  unfold nsRest
  rw [show i + 1 - T = 0 by omega, show i - T = 0 by omega]
end Pv

set_option linter.unusedVariables false
set_option linter.unusedSimpArgs false
namespace Pv
open Go Go.RowKit Go.Proofs
/-! plain laws of the recovery -/
/-- the words that a party hears in a round -/
def evs (round j n : Nat) (f : Nat → List Nat) : List Ev := (List.range n).filterMap fun i => if j ≠ i ∧ 0 < (f i).length then some ⟨round, i + 1, f i⟩ else none
theorem evs_succ (round j n : Nat) (f : Nat → List Nat) : evs round j (n + 1) f = evs round j n f ++ (if j ≠ n ∧ 0 < (f n).length then [⟨round, n + 1, f n⟩] else []) := by
  unfold evs
  rw [List.range_succ, List.filterMap_append]
  congr 1
  simp only [List.filterMap_cons, List.filterMap_nil]
  split <;> (rename_i h; split at h <;> simp_all)
theorem hearV_at (round j : Nat) (f : Nat → List Nat) (V : Nat → List Ev) (j' : Nat) : ∀ k : Nat, hearV round j k f V j' = if j' = j then V j ++ evs round j k f else V j'
  | 0 => by
    show V j' = _
    split
    · subst_vars; simp [evs]
    · rfl
  | k + 1 => by
    rw [hearV_succ]
    have ih := fun j' => hearV_at round j f V j' k
    unfold noteV
    rw [evs_succ]
    split
    · rename_i h
      unfold upd
      by_cases e : j' = j
      · rw [if_pos e, if_pos e, ih j, if_pos rfl, List.append_assoc]
      · rw [if_neg e, if_neg e, ih j', if_neg e]
    · rename_i h
      rw [ih j', List.append_nil]
/-- what a party has heard after a round -/
theorem sendV_at (round n : Nat) (said : Nat → Nat → List Nat) (V : Nat → List Ev) (j : Nat) : ∀ k : Nat, sendV round n k said V j = if j < k then V j ++ evs round j n (fun i => said i j) else V j
  | 0 => by rw [if_neg (by omega)]; rfl
  | k + 1 => by
    rw [sendV_succ, hearV_at]
    have ih := fun j => sendV_at round n said V j k
    by_cases e : j = k
    · subst e
      rw [if_pos rfl, if_pos (by omega), ih j, if_neg (by omega)]
    · rw [if_neg e, ih j]
      by_cases h : j < k
      · rw [if_pos h, if_pos (by omega)]
      · rw [if_neg h, if_neg (by omega)]
theorem evs_congr {round j n : Nat} {f g : Nat → List Nat} (h : ∀ i, i < n → i ≠ j → f i = g i) : evs round j n f = evs round j n g := by
  induction n with
  | zero => rfl
  | succ n ih =>
    rw [evs_succ, evs_succ, ih fun i hi => h i (by omega)]
    by_cases e : j = n
    · subst e; simp
    · rw [h n (by omega) (Ne.symm e)]
theorem evs_nil {round j n : Nat} {f : Nat → List Nat} (h : ∀ i, i < n → f i = []) : evs round j n f = [] := by
  induction n with
  | zero => rfl
  | succ n ih => rw [evs_succ, ih fun i hi => h i (by omega), h n (by omega)]; simp

/-- an Ask's value: the scenario, the recovering party, the sharings' coefficients, the words that replace rows -/
def askVal (p : Nat) (n t : Int) (vc vd vt : Value) (wh : Nat) (vl vs : Value) : Value := .agg #[.int .u64 p, .int .i64 n, .int .i64 t, vc, vd, vt, .int .u8 wh, vl, vs]
/-- the secret and the other coefficients of sharing k -/
def secK (L : List (List Nat)) (k : Nat) : Nat := (L.getD k []).getD 0 0
def wrdK (L : List (List Nat)) (k : Nat) : List Nat := (L.getD k []).drop 1
/-- the row of a party in a sharing; that of a corrupted one may be replaced -/
def numRow (p T : Nat) (corrupt : List Int) (spoil : List Nat) (L : List (List Nat)) (k i : Nat) : List Nat :=
  if ((i : Int) + 1) ∈ corrupt ∧ 0 < spoil.length then (spoil.getD ((i + 1 + k) % spoil.length) 0 % p) :: List.replicate T 0 else rowB p (T + 1) (nsM p T (secK L k) (wrdK L k)) (i + 1)
def numSh (p N T : Nat) (corrupt : List Int) (spoil : List Nat) (L : List (List Nat)) (k : Nat) : List (List Nat) := (List.range N).map fun i => numRow p T corrupt spoil L k i
def numL (p N T : Nat) (corrupt : List Int) (spoil : List Nat) (L : List (List Nat)) : List (List (List Nat)) := (List.range L.length).map fun k => numSh p N T corrupt spoil L k
theorem numL_len (p N T : Nat) (corrupt : List Int) (spoil : List Nat) (L : List (List Nat)) : (numL p N T corrupt spoil L).length = L.length := by simp [numL]
theorem numRow_lt {p T : Nat} (hp : 0 < p) (corrupt : List Int) (spoil : List Nat) (L : List (List Nat)) (k i : Nat) : ∀ c, c ∈ numRow p T corrupt spoil L k i → c < p := fun c hc => by
  unfold numRow at hc
  split at hc
  · rcases List.mem_cons.1 hc with h | h
    · rw [h]; exact Nat.mod_lt _ hp
    · rw [(List.mem_replicate.1 h).2]; exact hp
  · exact rowB_lt hp _ _ _ c hc
theorem numL_ok {p N T : Nat} (hp : 0 < p) (corrupt : List Int) (spoil : List Nat) (L : List (List Nat)) : ∀ l, l ∈ numL p N T corrupt spoil L → l.length = N ∧ ∀ r, r ∈ l → ∀ c, c ∈ r → c < p := fun l hl => by
  obtain ⟨k, _, rfl⟩ := List.mem_map.1 hl
  refine ⟨by simp [numSh], fun r hr => ?_⟩
  obtain ⟨i, _, rfl⟩ := List.mem_map.1 hr
  exact numRow_lt hp _ _ _ _ _
theorem numL_at {p N T : Nat} {corrupt : List Int} {spoil : List Nat} {L : List (List Nat)} {k i : Nat} (hk : k < L.length) (hi : i < N) : rw2 (numL p N T corrupt spoil L) k i = numRow p T corrupt spoil L k i := by
  unfold rw2
  have e : (numL p N T corrupt spoil L).getD k [] = numSh p N T corrupt spoil L k := by
    unfold numL; rw [List.getD_eq_getElem?_getD, List.getElem?_map, List.getElem?_range hk]; rfl
  rw [e]
  unfold numSh; rw [List.getD_eq_getElem?_getD, List.getElem?_map, List.getElem?_range hi]; rfl
/-- what the recovering party hears -/
def rcHeard (p : Nat) (corrupt : List Int) (devs : List Dev) (who K : Nat) (rows : Nat → Nat → List Nat) : Nat → List Nat := fun i => applyM p corrupt 0 devs (recOut p who K rows) i (who - 1)
theorem recOut_ok {p who K : Nat} (hp : 0 < p) (hK : K ≤ 1000000) (rows : Nat → Nat → List Nat) (i j : Nat) : OkM p 1000000 (recOut p who K rows i j) := by
  unfold recOut
  split
  · refine ⟨fun c hc => ?_, by simp; exact hK⟩
    obtain ⟨k, _, rfl⟩ := List.mem_map.1 hc
    exact hor_lt p who hp _
  · exact ⟨fun c hc => by simp at hc, by simp⟩
theorem recOut_congr {p who K : Nat} {rows rows' : Nat → Nat → List Nat} (h : ∀ k i, k < K → i + 1 ≠ who → hor p (rows k i) who = hor p (rows' k i) who) : recOut p who K rows = recOut p who K rows' := by
  funext i j
  unfold recOut
  split
  · rename_i hc
    exact List.map_congr_left fun k hk => h k i (List.mem_range.1 hk) hc.1
  · rfl
/-- .. of messages outside of 1 .. N nothing is asked -/
theorem recOut_at {p who K i : Nat} {rows : Nat → Nat → List Nat} (hw : 1 ≤ who) (h : i + 1 ≠ who) : recOut p who K rows i (who - 1) = (List.range K).map fun k => hor p (rows k i) who := by
  unfold recOut; rw [if_pos ⟨h, by omega⟩]
/-- the corrupted parties other than who -/
def othN (N who : Nat) (corrupt : List Int) : Nat := ((List.range N).filter fun i => decide (i + 1 ≠ who) && decide (((i : Int) + 1) ∈ corrupt)).length
/-- what is recovered is right, if few others are corrupted and the honest rows are a symmetric polynomial's -/
theorem rec_right {p N T who K k : Nat} (hp : IsP p) (hN : N < p) (hT : 3 * T < N) (hT1 : 1 ≤ T) (hw : 1 ≤ who) (hw2 : who ≤ N) (hk : k < K) (hK : K ≤ 1000000) (M : Nat → Nat → Nat → Nat) (hM : ∀ i j, M k i j = M k j i) (corrupt : List Int) (devs : List Dev) (rows : Nat → Nat → List Nat)
    (hh : ∀ i, i < N → i + 1 ≠ who → ((i : Int) + 1) ∉ corrupt → rows k i = rowB p (T + 1) (M k) (i + 1)) (hb : othN N who corrupt ≤ (N - 2 - T) / 2) :
    recRow p N T who K (rcHeard p corrupt devs who K rows) k = rowB p (T + 1) (M k) who := by
  have hlo := hp.lo
  refine recRow_right hp hN hT hT1 hw hw2 hk M hM _ (fun i _ c hc => (applyM_ok (by omega) devs (recOut_ok (by omega) hK rows i (who - 1))).1 c hc) (fun i => decide (((i : Int) + 1) ∈ corrupt)) (fun i hi hne hbad => ?_) hb
  have hc := of_decide_eq_false hbad
  unfold rcHeard
  rw [applyM_honest hc, recOut_at hw hne, resz_self (by simp), List.getD_eq_getElem?_getD, List.getElem?_map, List.getElem?_range hk]
  show hor p (rows k i) who = _
  rw [hh i hi hne hc]
theorem nsM_row_right {p N T who K : Nat} (hp : IsP p) (hN : N < p) (hT : 3 * T < N) (hT1 : 1 ≤ T) (hw : 1 ≤ who) (hw2 : who ≤ N) (corrupt : List Int) (devs : List Dev) (spoil : List Nat) (L : List (List Nat)) (hK : L.length ≤ 1000000) (k : Nat) (hk : k < L.length) (hb : othN N who corrupt ≤ (N - 2 - T) / 2) :
    recRow p N T who L.length (rcHeard p corrupt devs who L.length (rw2 (numL p N T corrupt spoil L))) k = rowB p (T + 1) (nsM p T (secK L k) (wrdK L k)) who :=
  rec_right hp hN hT hT1 hw hw2 hk hK (fun k => nsM p T (secK L k) (wrdK L k)) (fun i j => nsM_comm _ _ _ _ _ _) corrupt devs _ (fun i hi hne hc => by
    rw [numL_at hk hi]; unfold numRow; rw [if_neg fun h => hc h.1]) hb
/-- no other party hears anything -/
theorem rec_views {p N who K j : Nat} {corrupt : List Int} {devs : List Dev} {rows : Nat → Nat → List Nat} (hd : ∀ d, d ∈ devs → 0 ≤ d.at_) (h : j + 1 ≠ who) : sendV 0 N N (applyM p corrupt 0 devs (recOut p who K rows)) (fun _ => []) j = [] := by
  rw [sendV_at]
  split
  · rw [evs_nil fun i _ => applyM_nil hd (by unfold recOut; rw [if_neg fun h' => h h'.2])]; rfl
  · rfl
/-- the rows of a sum -/
theorem rowB_add {p : Nat} (hp : 0 < p) (n : Nat) (M M' : Nat → Nat → Nat) (x : Nat) : rowB p n (fun i j => fadd p (M i j) (M' i j)) x = (List.range n).map fun j => fadd p ((rowB p n M x).getD j 0) ((rowB p n M' x).getD j 0) := by
  haveI : NeZero p := ⟨by omega⟩
  unfold rowB
  refine List.map_congr_left fun j hj => ?_
  have hj := List.mem_range.1 hj
  have e : ∀ M : Nat → Nat → Nat, ((List.range n).map fun j => hor p ((List.range n).map fun i => M i j) x).getD j 0 = hor p ((List.range n).map fun i => M i j) x := fun M => by
    rw [List.getD_eq_getElem?_getD, List.getElem?_map, List.getElem?_range hj]; rfl
  rw [e, e]
  refine K_inj (p := p) (hor_lt p x hp _) (fadd_lt hp _ _) ?_
  rw [E_hor, E_range, K_fadd, E_hor, E_hor, E_range, E_range, ← Sm_add]
  refine Sm_congr n fun i _ => ?_
  rw [K_fadd]; grind
/-- a row of degree 1 -/
theorem rowB2 {p : Nat} (M : Nat → Nat → Nat) (x : Nat) : rowB p 2 M x = [hor p [M 0 0, M 1 0] x, hor p [M 0 1, M 1 1] x] := rfl
theorem nsM1 (p s a b : Nat) : nsM p 1 s [a, b] 0 0 = s % p ∧ nsM p 1 s [a, b] 0 1 = a % p ∧ nsM p 1 s [a, b] 1 0 = a % p ∧ nsM p 1 s [a, b] 1 1 = b % p := ⟨rfl, rfl, rfl, rfl⟩
/-- the second polynomial's coefficients -/
def pvK (p a : Nat) : Nat := 1 + a % (p - 1)
def pvS (p a x : Nat) : Nat := (a + fmul p (pvK p a) (fmul p x x)) % p
def pvW (p a b x : Nat) : Nat := (b + p - fmul p (pvK p a) x) % p
def pvB (p a : Nat) : Nat := (a + pvK p a) % p
section
variable {p : Nat} [NeZero p]
theorem K_pvS (a x : Nat) : (K (pvS p a x) : Fin p) = K a + K (pvK p a) * (K x * K x) := by unfold pvS; rw [K_mod, K_add, K_fmul, K_fmul]
theorem K_pvW (hp : 0 < p) (a b x : Nat) : (K (pvW p a b x) : Fin p) = K b - K (pvK p a) * K x := by
  unfold pvW
  have hlt := fmul_lt hp (pvK p a) x
  rw [K_mod]
  have : (K (b + p - fmul p (pvK p a) x) : Fin p) + K (fmul p (pvK p a) x) = K b := by
    rw [← K_add, show b + p - fmul p (pvK p a) x + fmul p (pvK p a) x = b + p by omega]
    exact K_eq (by simp)
  rw [← K_fmul]; grind
theorem K_pvB (a : Nat) : (K (pvB p a) : Fin p) = K a + K (pvK p a) := by unfold pvB; rw [K_mod, K_add]
end
/-- the messages to the recovering party are the same -/
theorem pv_same {p : Nat} (hp : 0 < p) (a b x y : Nat) :
    hor p (rowB p 2 (nsM p 1 a [b, a]) y) x = hor p (rowB p 2 (nsM p 1 (pvS p a x) [pvW p a b x, pvB p a]) y) x := by
  haveI : NeZero p := ⟨by omega⟩
  refine K_inj (p := p) (hor_lt p x hp _) (hor_lt p x hp _) ?_
  obtain ⟨h1, h2, h3, h4⟩ := nsM1 p a b a
  obtain ⟨g1, g2, g3, g4⟩ := nsM1 p (pvS p a x) (pvW p a b x) (pvB p a)
  rw [rowB2, rowB2, h1, h2, h3, h4, g1, g2, g3, g4]
  simp only [E_hor, E_cons, E_nil, K_mod, K_pvS, K_pvW hp, K_pvB]
  grind
/-- .. and the polynomials are not: at any other party's row -/
theorem pv_other {p : Nat} (hp : IsP p) (a b x y : Nat) (hx : x < p) (hy : y < p) (hne : x ≠ y) :
    rowB p 2 (nsM p 1 a [b, a]) y ≠ rowB p 2 (nsM p 1 (pvS p a x) [pvW p a b x, pvB p a]) y := by
  have hlo := hp.lo
  haveI : NeZero p := ⟨by omega⟩
  intro h
  obtain ⟨h1, h2, h3, h4⟩ := nsM1 p a b a
  obtain ⟨g1, g2, g3, g4⟩ := nsM1 p (pvS p a x) (pvW p a b x) (pvB p a)
  rw [rowB2, rowB2, h1, h2, h3, h4, g1, g2, g3, g4] at h
  simp only [List.cons.injEq, and_true] at h
  have h := congrArg (K (p := p)) h.2
  simp only [E_hor, E_cons, E_nil, K_mod, K_pvS, K_pvW (show 0 < p by omega), K_pvB] at h
  have hk : (K (pvK p a) : Fin p) * (K y - K x) = 0 := by grind
  have hkl : pvK p a < p := by
    unfold pvK
    have := Nat.mod_lt a (show 0 < p - 1 by omega)
    omega
  rcases (fld hp).mul_zero hk with h0 | h0
  · exact K_ne hkl (by unfold pvK; omega) h0
  · refine hne (K_inj (p := p) hx hy ?_)
    grind
end Pv
