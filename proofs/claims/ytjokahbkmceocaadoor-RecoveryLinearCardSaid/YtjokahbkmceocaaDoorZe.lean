import Derived.Test.YtjokahbkmceocaaDoorZa
import Derived.Test.YtjokahbkmceocaaDoorProg
import Derived.Test.YtjokahbkmceocaaDoorZc
import Derived.Test.YtjokahbkmceocaaDoorZd
import Derived.Laws.CopyOwn
import Derived.Handy
import Derived.Deep.DeepCutAuto
import Derived.Deep.CutBlock
import Derived.Deep.RegionHeld3
set_option linter.unusedVariables false
set_option linter.unusedSimpArgs false
namespace Pv
open Go Go.RowKit Go.Proofs

/-- a slice of int -/
theorem rdI {w : World} {S : Nat → Prop} {v : Value} {xs : List Int} (h : (kS kI).R w S [v] xs) :
    ∃ A c, v = .slice A xs.length c ∧ (xs.length ≤ c ∧ c ≤ 9223372036854775807) ∧
      ∀ j, j < xs.length → ∃ ad, A = some ad ∧ S ad.block ∧ w.cell? (ad.add j) = some (.int .i64 (xs.getD j 0)) := by
  obtain ⟨A, c, e, h1, h⟩ := rd_open rfl h
  refine ⟨A, c, e, h1, fun j hj => ?_⟩
  obtain ⟨ad, u, e1, e2, e3, e4⟩ := h j _ (List.getElem?_eq_getElem hj)
  have e3 := e3.1
  simp at e3; subst e3
  rw [List.getD_eq_getElem?_getD, List.getElem?_eq_getElem hj]
  exact ⟨ad, e1, e2, e4⟩
def idxI (xs : List Int) (a : Int) : Int := match xs.findIdx? (fun x => a == x) with | some i => i | none => -1
def IdxP (xs : List Int) (a : Int) (w : World) (e : Ending) (w' : World) : Prop := w' = w ∧ ∃ i : Int, e = .returned (.int .i64 i) ∧ -1 ≤ i ∧ i ≤ 9223372036854775807 ∧ (0 ≤ i ↔ a ∈ xs)
set_option maxHeartbeats 1000000 in
theorem indexI_any (v : Value) (xs : List Int) (a : Int) (S : Nat → Prop) (w : World) (hr : (kS kI).R w S [v] xs) :
    Calls Tryd.prog 112 #[v, .int .i64 a] w fun e w' => IdxP xs a w e w' := by
  obtain ⟨A, c, rfl, ⟨hn2, hc2⟩, hc⟩ := rdI hr
  have HC := hide hc; clear hc hr
  obtain ⟨n, hn⟩ : ∃ n, n = xs.length := ⟨_, rfl⟩
  rw [← hn] at hn2 ⊢
  have HN := hide hn; clear hn
  go_enter Tryd.func112, Tryd.ntmps112
  go_wp2_with fail
  go_loopw [8] (fun i wr => wr = w ∧ ∃ k : Nat, k ≤ n ∧ i = .int .i64 k ∧ ∀ j, j < k → a ≠ xs.getD j 0) (fun i _ => n - (intOf i).toNat)
  case atStart => exact ⟨rfl, 0, by omega, rfl, fun j h => by omega⟩
  case round =>
    obtain ⟨rfl, k, hk, rfl, hz⟩ := hrel
    by_cases hkn : k < n
    · obtain ⟨ad, rfl, _, hcell⟩ := HC.out k (by rw [← HN.out]; exact hkn)
      have hki : (k : Int) < (n : Int) := by omega
      have hk0 : (0 : Int) ≤ (k : Int) := by omega
      have HZ := hide hz; clear hz
      obtain ⟨x, hx⟩ : ∃ x, x = xs.getD k 0 := ⟨_, rfl⟩
      rw [← hx] at hcell
      have HX := hide hx; clear hx
      by_cases e : a = x
      · have hyes : a ∈ xs := by
          rw [e, HX.out, List.getD_eq_getElem?_getD, List.getElem?_eq_getElem (by rw [← HN.out]; exact hkn)]
          exact List.getElem_mem _
        have HYES := hide hyes; clear hyes
        have eb : (a == x) = true := by simpa using e
        go_wp2_with fail
        go_ret
        exact ⟨rfl, _, rfl, by omega, by omega, fun _ => HYES.out, fun _ => by omega⟩
      · have eb : (a == x) = false := by simpa using e
        have HE := hide e; clear e
        go_wp2_with fail
        go_round
        case rel => exact ⟨by first | trivial | rfl, k + 1, by omega, by go_num, fun j hj => by
          by_cases e2 : j = k
          · rw [e2, ← HX.out]; exact HE.out
          · exact HZ.out j (by omega)⟩
        case measure => simp [intOf]; omega
    · obtain rfl : k = n := by omega
      have hno : a ∉ xs := fun h => by
        obtain ⟨j, hj, e⟩ := List.getElem_of_mem h
        refine hz j (by rw [HN.out]; exact hj) ?_
        rw [List.getD_eq_getElem?_getD, List.getElem?_eq_getElem hj]; exact e.symm
      have HNO := hide hno; clear hno hz
      go_wp2_with fail
      go_ret
      exact ⟨rfl, _, rfl, by omega, by omega, fun h => by omega, fun h => absurd h HNO.out⟩
set_option maxHeartbeats 400000 in
theorem containsI_any (v : Value) (xs : List Int) (a : Int) (S : Nat → Prop) (w : World) (hr : (kS kI).R w S [v] xs) :
    Calls Tryd.prog 101 #[v, .int .i64 a] w fun e w' => e = .returned (.bool (decide (a ∈ xs))) ∧ w' = w := by
  have hi := indexI_any v xs a S w hr
  have HI := hide hi; clear hi hr
  go_enter Tryd.func101, Tryd.ntmps101
  go_wp2_with fail
  refine HI.out.mono ?_
  rintro e w1 ⟨rfl, i, rfl, h1, h2, h3⟩
  have H3 := hide h3; clear h3
  by_cases h : 0 ≤ i
  · have hm : decide (a ∈ xs) = true := decide_eq_true (H3.out.1 h)
    have HM := hide hm; clear hm
    go_wp2_with fail
    go_ret
    exact ⟨by rw [HM.out]; rfl, rfl⟩
  · have hm : decide (a ∈ xs) = false := decide_eq_false fun e => h (H3.out.2 e)
    have HM := hide hm; clear hm
    have HD := hide (decide_eq_false h)
    go_wp2_with fail
    go_ret
    exact ⟨by rw [HM.out, ← HD.out]; rfl, rfl⟩
end Pv

set_option linter.unusedVariables false
set_option linter.unusedSimpArgs false
namespace Pv
open Go Go.RowKit Go.Proofs

/-- the word at place i, 0 where there is none -/
def wordAt (xs : List Nat) (i : Int) : Nat := if i < 0 then 0 else xs.getD i.toNat 0
theorem wordAt_lt {xs : List Nat} (h : ∀ x, x ∈ xs → x < 18446744073709551616) (i : Int) : wordAt xs i < 18446744073709551616 := by
  unfold wordAt; split
  · omega
  · rw [List.getD_eq_getElem?_getD]
    cases e : xs[i.toNat]? with
    | none => simp
    | some c => exact h c (List.mem_of_getElem? e)
set_option maxHeartbeats 400000 in
theorem word_any (v : Value) (xs : List Nat) (i : Int) (S : Nat → Prop) (w : World) (hr : (kS kU).R w S [v] xs) :
    Calls Tryd.prog 104 #[v, .int .i64 i] w fun e w' => e = .returned (.int .u64 (wordAt xs i : Nat)) ∧ w' = w := by
  obtain ⟨A, c, rfl, ⟨hn2, hc2⟩, hc⟩ := rdU hr
  have HC := hide hc; clear hc hr
  obtain ⟨n, hn⟩ : ∃ n, n = xs.length := ⟨_, rfl⟩
  rw [← hn] at hn2 ⊢
  have HN := hide hn; clear hn
  by_cases h0 : i < 0
  · have hv : wordAt xs i = 0 := by unfold wordAt; rw [if_pos h0]
    have HV := hide hv; clear hv
    go_enter Tryd.func104, Tryd.ntmps104
    go_wp2_with fail
    go_ret
    exact ⟨by rw [HV.out]; rfl, rfl⟩
  · obtain ⟨k, rfl⟩ : ∃ k : Nat, i = (k : Int) := ⟨i.toNat, by omega⟩
    have hv : wordAt xs k = xs.getD k 0 := by unfold wordAt; rw [if_neg h0]; rfl
    by_cases hk : k < n
    · obtain ⟨ad, rfl, _, hcell, _⟩ := HC.out k (by rw [← HN.out]; exact hk)
      rw [← hv] at hcell
      have HV := hide hv; clear hv
      have hki : ¬ ((n : Int) ≤ (k : Int)) := by omega
      have hki2 : (k : Int) < (n : Int) := by omega
      go_enter Tryd.func104, Tryd.ntmps104
      go_wp2_with fail
      go_ret
      exact ⟨rfl, rfl⟩
    · have hki : ((n : Int) ≤ (k : Int)) := by omega
      rw [List.getD_eq_getElem?_getD, List.getElem?_eq_none (by rw [← HN.out]; omega)] at hv
      have HV := hide hv; clear hv
      go_enter Tryd.func104, Tryd.ntmps104
      go_wp2_with fail
      go_ret
      exact ⟨by rw [HV.out]; rfl, rfl⟩
end Pv

set_option linter.unusedVariables false
set_option linter.unusedSimpArgs false
namespace Pv
open Go Go.RowKit Go.Proofs

/-- a deviation -/
structure Dev where
  round : Int
  src : Int
  dst : Int
  at_ : Int
  kind : Int
  k : Nat
  of : Int
  idx : Int
/-- .. as a value -/
def Dev.val (d : Dev) : Value := .agg #[.int .i64 d.round, .int .i64 d.src, .int .i64 d.dst, .int .i64 d.at_, .int .i64 d.kind, .int .u64 d.k, .int .i64 d.of, .int .i64 d.idx]
/-- a scenario's value -/
def scVal (p : Nat) (n t : Int) (vc vd vt : Value) : Value := .agg #[.int .u64 p, .int .i64 n, .int .i64 t, vc, vd, vt]
set_option maxHeartbeats 1000000 in
theorem done_any (p : Nat) (n t : Int) (vc vd vt : Value) (corrupt : List Int) (d : Dev) (round : Int) (S : Nat → Prop) (w : World) (hc : (kS kI).R w S [vc] corrupt) :
    Calls Tryd.prog 87 #[scVal p n t vc vd vt, d.val, .int .i64 round] w fun e w' => e = .returned (.bool (decide (d.round = round) && decide (d.src ∈ corrupt))) ∧ Bl w w' := by
  have hlow := (kS kI).low hc
  obtain ⟨A, c, rfl, hl⟩ := kS_len hc
  have HLOW := hide hlow; clear hlow hc
  obtain ⟨r, s, dd, a, k, kk, o, ii⟩ := d
  simp only [Dev.val, scVal]
  have hB : Bl w ((w.alloc (.cells #[.int .u64 p, .int .i64 n, .int .i64 t, .slice A corrupt.length c, vd, vt] 29)).alloc (.cells #[.int .i64 r, .int .i64 s, .int .i64 dd, .int .i64 a, .int .i64 k, .int .u64 kk, .int .i64 o, .int .i64 ii] 99)) :=
    ((Below.refl _ _).alloc (Nat.le_refl _) _).alloc (((Below.refl _ _).alloc (Nat.le_refl _) _).size) _
  have HB := hide hB; clear hB
  have hct := fun W (h : Bl w W) => containsI_any (.slice A corrupt.length c) corrupt s _ W ((kS kI).bl HLOW.out h)
  have HCT := hide hct; clear hct
  by_cases hrr : r = round
  · have e1 : (r == round) = true := by simpa using hrr
    have e2 : decide (r = round) = true := decide_eq_true hrr
    have HE2 := hide e2; clear e2 hrr
    go_enter Tryd.func87, Tryd.ntmps87
    go_wp2_with fail
    refine (HCT.out _ HB.out).mono ?_
    rintro e w2 ⟨rfl, rfl⟩
    go_wp2_with fail
    go_ret
    exact ⟨by rw [HE2.out]; rfl, HB.out⟩
  · have e1 : (r == round) = false := by simpa using hrr
    have e2 : decide (r = round) = false := decide_eq_false hrr
    have HE2 := hide e2; clear e2 hrr
    go_enter Tryd.func87, Tryd.ntmps87
    go_wp2_with fail
    go_ret
    exact ⟨by rw [HE2.out]; rfl, HB.out⟩
end Pv

set_option linter.unusedVariables false
set_option linter.unusedSimpArgs false
namespace Pv
open Go Go.RowKit Go.Proofs

/-- only blocks of F were changed -/
structure Fp (F : Nat → Prop) (w w' : World) : Prop where
  os : w'.os = w.os
  tape : w'.tape = w.tape
  output : w'.output = w.output
  size : w.heap.size ≤ w'.heap.size
  block : ∀ b, b < w.heap.size → ¬ F b → w'.heap[b]? = w.heap[b]?
theorem Fp.refl (F : Nat → Prop) (w : World) : Fp F w w := ⟨rfl, rfl, rfl, Nat.le_refl _, fun _ _ _ => rfl⟩
theorem Fp.trans {F F' : Nat → Prop} {w w' w'' : World} (h : Fp F w w') (k : Fp F' w' w'') (hF : ∀ b, b < w.heap.size → F' b → F b) : Fp F w w'' :=
  ⟨k.os.trans h.os, k.tape.trans h.tape, k.output.trans h.output, Nat.le_trans h.size k.size, fun b hb hn => (k.block b (Nat.lt_of_lt_of_le hb h.size) (fun e => hn (hF b hb e))).trans (h.block b hb hn)⟩
theorem Fp.of_bl {w w' : World} (h : Bl w w') (F : Nat → Prop) : Fp F w w' := ⟨h.os, h.tape, h.output, h.size, fun b hb _ => h.block b hb⟩
theorem Fp.of_grown {w w' : World} {row : Option Nat} (h : w.grownBy w' row) (F : Nat → Prop) (hF : ∀ g, row = some g → F g) : Fp F w w' := ⟨h.os, h.tape, h.output, h.size, fun b hb hn => h.block b hb fun e => hn (hF b e.symm)⟩
theorem Fp.bl {F : Nat → Prop} {w w' w'' : World} (h : Fp F w w') (k : Bl w' w'') : Fp F w w'' := h.trans (Fp.of_bl k F) fun _ _ h => h
theorem Fp.dr {F : Nat → Prop} {w w' w'' : World} (h : Fp F w w') (k : Dr w' w'') : Fp F w w'' := h.bl (k.below _)
theorem Fp.set {F : Nat → Prop} {w w' : World} (h : Fp F w w') {a : Addr} (v : Value) (ha : F a.block ∨ w.heap.size ≤ a.block) : Fp F w (w'.setCell a v) :=
  ⟨h.os, h.tape, h.output, by simpa [World.setCell] using h.size, fun b hb hn => (Below.heap_setCell _ _ _ _ (fun e => by subst e; rcases ha with ha | ha; exact hn ha; omega)).trans (h.block b hb hn)⟩
theorem Fp.set1 {F : Nat → Prop} {w : World} {a : Addr} (v : Value) (ha : F a.block) : Fp F w (w.setCell a v) := (Fp.refl F w).set v (.inl ha)
theorem Fp.alloc {F : Nat → Prop} {w w' : World} (h : Fp F w w') (o : Obj) : Fp F w (w'.alloc o) := h.bl ((Below.refl _ _).alloc (Nat.le_refl _) _)
theorem Fp.kp {F S : Nat → Prop} {w w' : World} (h : Fp F w w') (hS : ∀ b, b < w.heap.size → S b → ¬ F b) : Kp S w w' := fun b hb hs => h.block b hb (hS b hb hs)
theorem Fp.below {F : Nat → Prop} {w w' : World} (h : Fp F w w') {B : Nat} (hB : B ≤ w.heap.size) (hF : ∀ b, b < B → ¬ F b) : Below B w w' := ⟨h.os, h.tape, h.output, h.size, fun b hb => h.block b (by omega) (hF b hb)⟩
theorem Fp.wide {F F' : Nat → Prop} {w w' : World} (h : Fp F w w') (hF : ∀ b, b < w.heap.size → F b → F' b) : Fp F' w w' := ⟨h.os, h.tape, h.output, h.size, fun b hb hn => h.block b hb fun e => hn (hF b hb e)⟩

/-- a value itself -/
def kV : Kn Value where
  sz := 1
  pos := by decide
  R := fun _ _ us x => us = [x] ∧ x.oneCell' = true
  len := fun h => by rw [h.1]; rfl
  kp := fun h _ => h
  sub := fun h _ => h
  one := fun h u hu => by rw [h.1] at hu; simp at hu; subst hu; exact h.2
theorem Ow.atV {w : World} {base : Nat} {e : TypeId} {g n c : Nat} {xs : List Value} (h : Ow kV w base e (.slice (some ⟨g, 0, none⟩) n c) xs) (i : Nat) (hi : i < xs.length) :
    w.cell? ⟨g, i, none⟩ = some (xs.getD i undef) ∧ w.frozen? ⟨g, i, none⟩ = false := by
  have e : xs[i]? = some (xs.getD i undef) := by rw [List.getD_eq_getElem?_getD, List.getElem?_eq_getElem hi]; rfl
  obtain ⟨u, h1, h2, h3, h4⟩ := h.at_ rfl i _ e
  simp only [List.cons.injEq, and_true] at h3
  subst h3
  exact ⟨h1, h2⟩
theorem Ow.rowAtV {w : World} {base : Nat} {e : TypeId} {g n c : Nat} {xs : List Value} (h : Ow kV w base e (.slice (some ⟨g, 0, none⟩) n c) xs) : RowAt w g e n (fun j => xs.getD j undef) := by
  have hl := h.len_eq
  obtain ⟨us, hul, ho, hr⟩ := id h
  rcases ho.2 with ⟨h', _⟩ | ⟨g', cap, cur, h', hb, hg, hn, hm, hc, ht⟩
  · cases h'
  · injection h' with h1 h2 h3; injection h1 with h1; injection h1 with h1
    subst h1
    refine ⟨cur, hg, by rw [hc]; show n ≤ cap * 1; omega, fun i hi => ?_⟩
    have := (h.atV i (by omega)).1
    simpa [World.cell?, hg] using this
theorem getD_rep {α : Type} (x d : α) (n i : Nat) (h : i < n) : (List.replicate n x).getD i d = x := by
  rw [List.getD_eq_getElem?_getD, List.getElem?_eq_getElem (by simpa using h)]; simp

theorem Ow.kpF {α : Type} {K : Kn α} {T F : Nat → Prop} {w w' : World} {base : Nat} {e : TypeId} {v : Value} {xs : List α} (h : Ow (kT K T) w base e v xs) (hk : Kp F w w') (hv : ∀ g, v.ownBlock = some g → F g) (hT : ∀ b, b < w.heap.size → Ne v.ownBlock b → T b → F b) : Ow (kT K T) w' base e v xs := by
  obtain ⟨us, hl, ho, hr⟩ := h
  refine ⟨us, hl, ⟨ho.1, ?_⟩, fun j u x h1 h2 => K.kp (hr j u x h1 h2) fun b hb hs => hk b hb (hT b hb hs.1 hs.2)⟩
  rcases ho.2 with hn | ⟨g, cap, cur, rfl, hb, hg, rest⟩
  · exact .inl hn
  · exact .inr ⟨g, cap, cur, rfl, hb, by rw [hk g (Array.getElem?_eq_some_iff.1 hg).1 (hv g rfl)]; exact hg, rest⟩
theorem Ow.monoT' {α : Type} {K : Kn α} {T T' : Nat → Prop} {w : World} {base : Nat} {e : TypeId} {v : Value} {xs : List α} (h : Ow (kT K T) w base e v xs) (hT : ∀ b, b < w.heap.size → Ne v.ownBlock b → T b → T' b) : Ow (kT K T') w base e v xs := by
  obtain ⟨us, hl, ho, hr⟩ := h
  exact ⟨us, hl, ho, fun j u x h1 h2 => K.sub (hr j u x h1 h2) fun b hb hs => ⟨hs.1, hT b hb hs.1 hs.2⟩⟩
/-- a new row, its elements in T -/
theorem Ow.inT {α : Type} {K : Kn α} {T : Nat → Prop} {w : World} {base : Nat} {e : TypeId} {v : Value} {xs : List α} (h : Ow K w base e v xs) (hT : ∀ u x, x ∈ xs → K.R w (Ne v.ownBlock) u x → K.R w (fun b => Ne v.ownBlock b ∧ T b) u x) : Ow (kT K T) w base e v xs := by
  obtain ⟨us, hl, ho, hr⟩ := h
  exact ⟨us, hl, ho, fun j u x h1 h2 => hT u x (List.mem_of_getElem? h2) (hr j u x h1 h2)⟩

theorem kS_unT {α : Type} {K : Kn α} {w : World} {S T : Nat → Prop} {us : List Value} {xs : List α} (h : (kS (kT K T)).R w S us xs) : (kS K).R w S us xs := by
  obtain ⟨A, n, c, e, h1, h2, h⟩ := h
  exact ⟨A, n, c, e, h1, h2, fun j x hx => by
    obtain ⟨ad, vs, e1, e2, e3, e4⟩ := h j x hx
    exact ⟨ad, vs, e1, e2, K.sub e3 (fun b _ hb => hb.1), e4⟩⟩
def upd {β : Type} (f : Nat → β) (i : Nat) (x : β) : Nat → β := fun k => if k = i then x else f k
@[simp] theorem upd_same {β : Type} (f : Nat → β) (i : Nat) (x : β) : upd f i x i = x := by simp [upd]
theorem upd_ne {β : Type} (f : Nat → β) {i k : Nat} (x : β) (h : k ≠ i) : upd f i x k = f k := by simp [upd, h]

/-- blocks of F that are no row's and not the outer one -/
def Far (F : Nat → Prop) (g0 N : Nat) (vs : Nat → Value) : Nat → Prop := fun b => F b ∧ b ≠ g0 ∧ ∀ i, i < N → (vs i).ownBlock ≠ some b
theorem hat_of {v v1 : Value} {n : Nat} (h : v1.ownBlock = v.ownBlock ∨ ∃ b, v1.ownBlock = some b ∧ n ≤ b) : ∀ b, v1.ownBlock = some b → v.ownBlock = some b ∨ n ≤ b := fun b e => by
  rcases h with h | ⟨c, h, hc⟩
  · exact .inl (h ▸ e)
  · rw [e] at h; injection h with h; subst h; exact .inr hc
/-- a row of rows, all of it in F: the outer row in block g0, row i owned, apart, its elements elsewhere in F -/
structure Rws {α : Type} (K : Kn α) (w : World) (F : Nat → Prop) (B g0 N : Nat) (eo ei : TypeId) (vs : Nat → Value) (X : Nat → List α) : Prop where
  out : RowAt w g0 eo N vs
  row : ∀ i, i < N → Ow (kT K (Far F g0 N vs)) w B ei (vs i) (X i)
  ap : ∀ i k, i < N → k < N → i ≠ k → Ap (vs i) (vs k)
  sep : ∀ i g, i < N → (vs i).ownBlock = some g → g ≠ g0 ∧ F g
  f0 : F g0
  b0 : B ≤ g0
section
variable {α : Type} {K : Kn α} {w : World} {F : Nat → Prop} {B g0 N : Nat} {eo ei : TypeId} {vs : Nat → Value} {X : Nat → List α}
theorem Rws.frame (h : Rws K w F B g0 N eo ei vs X) {w' : World} (hk : Kp F w w') : Rws K w' F B g0 N eo ei vs X where
  out := h.out.same (hk _ h.out.lt h.f0)
  row := fun i hi => (h.row i hi).kpF hk (fun g hg => (h.sep i g hi hg).2) fun b _ _ hT => hT.1
  ap := h.ap
  sep := h.sep
  f0 := h.f0
  b0 := h.b0
theorem Rws.bl (h : Rws K w F B g0 N eo ei vs X) {w' : World} (hk : Bl w w') : Rws K w' F B g0 N eo ei vs X := h.frame (hk.kp F)
theorem Rws.dr (h : Rws K w F B g0 N eo ei vs X) {w' : World} (hk : Dr w w') : Rws K w' F B g0 N eo ei vs X := h.frame (hk.kp F)
theorem Rws.wide {F' : Nat → Prop} (h : Rws K w F B g0 N eo ei vs X) (hF : ∀ b, b < w.heap.size → F b → F' b) : Rws K w F' B g0 N eo ei vs X where
  out := h.out
  row := fun i hi => (h.row i hi).monoT fun b hb hT => ⟨hF b hb hT.1, hT.2⟩
  ap := h.ap
  sep := fun i g hi hg => ⟨(h.sep i g hi hg).1, hF g (((h.row i hi).base g hg).2) (h.sep i g hi hg).2⟩
  f0 := hF _ h.out.lt h.f0
  b0 := h.b0
theorem Rws.congr {X' : Nat → List α} (h : Rws K w F B g0 N eo ei vs X) (e : ∀ i, i < N → X i = X' i) : Rws K w F B g0 N eo ei vs X' :=
  { h with row := fun i hi => by rw [← e i hi]; exact h.row i hi }
theorem Rws.start (K : Kn α) (ei : TypeId) (h : RowAt w g0 eo N (fun _ => .slice none 0 0)) (hF : F g0) (hB : B ≤ g0) : Rws K w F B g0 N eo ei (fun _ => .slice none 0 0) (fun _ => []) where
  out := h
  row := fun i hi => Ow.nil _ _ _ _
  ap := fun i k _ _ _ g h => by cases h
  sep := fun i g _ h => by cases h
  f0 := hF
  b0 := hB
theorem Rws.lt (h : Rws K w F B g0 N eo ei vs X) {i g : Nat} (hi : i < N) (hg : (vs i).ownBlock = some g) : B ≤ g ∧ g < w.heap.size := (h.row i hi).base g hg
/-- a row is replaced, by one that grew out of it or a new one -/
theorem Rws.store (h : Rws K w F B g0 N eo ei vs X) {w1 : World} {i : Nat} {v1 : Value} {ys : List α} (hi : i < N) (hg : w.grownBy w1 (vs i).ownBlock) (hO : Ow (kT K (Far F g0 N vs)) w1 B ei v1 ys)
    (hat : ∀ b, v1.ownBlock = some b → (vs i).ownBlock = some b ∨ w.heap.size ≤ b) (hF : ∀ g, v1.ownBlock = some g → F g) : Rws K (w1.setCell ⟨g0, i, none⟩ v1) F B g0 N eo ei (upd vs i v1) (upd X i ys) := by
  have hlt := h.out.lt
  have h1 : ∀ g, v1.ownBlock = some g → g ≠ g0 := fun g e => by
    rcases hat g e with e' | hb
    · exact (h.sep i g hi e').1
    · omega
  have hap : ∀ k, k < N → k ≠ i → Ap (vs k) v1 := fun k hk hne g e1 e2 => by
    rcases hat g e2 with e' | hb
    · exact h.ap k i hk hi hne g e1 e'
    · have := (h.lt hk e1).2; omega
  have hfar : ∀ b, b < w.heap.size → Far F g0 N vs b → Ne v1.ownBlock b := fun b hb hT e => by
    rcases hat b e.symm with e' | hc
    · exact hT.2.2 i hi e'
    · omega
  have hF2 : ∀ b, Far F g0 N vs b → Ne v1.ownBlock b → Far F g0 N (upd vs i v1) b := fun b hT hne => ⟨hT.1, hT.2.1, fun k hk => by
    by_cases e : k = i
    · subst e; rw [upd_same]; exact fun e => hne e.symm
    · rw [upd_ne _ _ e]; exact hT.2.2 k hk⟩
  have hs : Kp (fun b => b ≠ g0) w1 (w1.setCell ⟨g0, i, none⟩ v1) := fun b _ hb => heap_setCell_ne _ _ _ _ hb
  exact {
    out := ((h.out.same (w' := w1) (hg.block g0 hlt fun e => (h.sep i g0 hi e.symm).1 rfl)).set i v1).congr fun j _ => by unfold upd; rfl
    row := fun k hk => by
      by_cases e : k = i
      · subst e
        simp only [upd_same]
        exact (hO.kpF hs h1 fun b _ _ hT => hT.2.1).monoT' fun b _ hne hT => hF2 b hT hne
      · rw [upd_ne _ _ e, upd_ne _ _ e]
        have r1 : Ow (kT K (fun b => Far F g0 N vs b ∧ b < w.heap.size)) w B ei (vs k) (X k) := (h.row k hk).monoT fun b hb hT => ⟨hT, hb⟩
        have r2 : Ow (kT K (fun b => Far F g0 N vs b ∧ b < w.heap.size)) w1 B ei (vs k) (X k) := r1.kpF (F := fun b => some b ≠ (vs i).ownBlock) (fun b hb hn => hg.block b hb hn)
          (fun g hg' e' => h.ap k i hk hi e g hg' e'.symm) fun b _ _ hT e' => hT.1.2.2 i hi e'.symm
        exact (r2.kpF hs (fun g hg' => (h.sep k g hk hg').1) fun b _ _ hT => hT.1.2.1).monoT fun b _ hT => hF2 b hT.1 (hfar b hT.2 hT.1)
    ap := fun k l hk hl hne => by
      by_cases e : k = i
      · subst e
        rw [upd_same, upd_ne _ _ (fun e => hne e.symm)]
        exact (hap l hl fun e => hne e.symm).symm
      · by_cases e2 : l = i
        · subst e2; rw [upd_same, upd_ne _ _ e]; exact hap k hk e
        · rw [upd_ne _ _ e, upd_ne _ _ e2]; exact h.ap k l hk hl hne
    sep := fun k g hk hg' => by
      by_cases e : k = i
      · subst e; rw [upd_same] at hg'; exact ⟨h1 g hg', hF g hg'⟩
      · rw [upd_ne _ _ e] at hg'; exact h.sep k g hk hg'
    f0 := h.f0
    b0 := h.b0 }
/-- an element of a row is replaced -/
theorem Rws.put (hK : K.sz = 1) (h : Rws K w F B g0 N eo ei vs X) {i j g n c : Nat} {u : Value} {x : α} (hi : i < N) (hv : vs i = .slice (some ⟨g, 0, none⟩) n c) (hj : j < (X i).length) (hx : K.R w (Far F g0 N vs) [u] x) :
    Rws K (w.setCell ⟨g, j, none⟩ u) F B g0 N eo ei vs (upd X i ((X i).set j x)) := by
  have hgi : (vs i).ownBlock = some g := by rw [hv]; rfl
  have hr := h.row i hi
  rw [hv] at hr
  have hx' : (kT K (Far F g0 N vs)).R w (Ne (some g)) [u] x := K.sub hx fun b _ hT => ⟨fun e => hT.2.2 i hi (hgi.trans e.symm), hT⟩
  have hst := hr.stored (K := kT K (Far F g0 N vs)) hK j hj u x hx'
  have hk : Kp (fun b => b ≠ g) w (w.setCell ⟨g, j, none⟩ u) := fun b _ hb => heap_setCell_ne _ _ _ _ hb
  exact {
    out := h.out.same (hk _ h.out.lt fun e => (h.sep i g hi hgi).1 e.symm)
    row := fun k hk' => by
      by_cases e : k = i
      · subst e
        rw [upd_same, hv]
        exact hst.1
      · rw [upd_ne _ _ e]
        exact (h.row k hk').kpF hk (fun g' hg' e' => by subst e'; exact h.ap k i hk' hi e g' hg' hgi) fun b _ _ hT e' => by subst e'; exact hT.2.2 i hi hgi
    ap := h.ap
    sep := h.sep
    f0 := h.f0
    b0 := h.b0 }
/-- the header of a row -/
theorem Rws.head (h : Rws K w F B g0 N eo ei vs X) {i : Nat} (hi : i < N) : ∃ A c, vs i = .slice A (X i).length c ∧ (X i).length ≤ c ∧ c ≤ 9223372036854775807 := (h.row i hi).slice
/-- .. of a row with something in it -/
theorem Rws.form (h : Rws K w F B g0 N eo ei vs X) {i : Nat} (hi : i < N) (hx : 0 < (X i).length) : ∃ g c, vs i = .slice (some ⟨g, 0, none⟩) (X i).length c ∧ B ≤ g ∧ g < w.heap.size := (h.row i hi).form hx
theorem Rws.rowR (h : Rws K w F B g0 N eo ei vs X) {i : Nat} (hi : i < N) : (kS K).R w F [vs i] (X i) :=
  kS_unT ((h.row i hi).readsIn F (fun b hb => (h.sep i b hi hb).2) fun u x _ hr => K.sub hr fun b _ hT => ⟨hT.2.1, hT.2⟩)
/-- the whole of it -/
theorem Rws.reads (h : Rws K w F B g0 N eo ei vs X) {c : Nat} (hc : N ≤ c ∧ c ≤ 9223372036854775807) : (kS (kS K)).R w F [.slice (some ⟨g0, 0, none⟩) N c] ((List.range N).map X) :=
  rd_mk (K := kS K) rfl (by simp) hc fun j x hx => by
    have hj : j < N := by have := (List.getElem?_eq_some_iff.1 hx).1; simpa using this
    have hx' : x = X j := by simp [hj] at hx; exact hx.symm
    subst hx'
    refine ⟨⟨g0, 0, none⟩, vs j, rfl, h.f0, h.rowR hj, ?_⟩
    have : (⟨g0, 0, none⟩ : Addr).add j = ⟨g0, j, none⟩ := by unfold Addr.add; split <;> simp_all
    rw [this]; exact h.out.cell hj
end

/-- a kind read in F stays so -/
theorem Kn.fp {α : Type} (K : Kn α) {w w' : World} {S F : Nat → Prop} {us : List Value} {x : α} (h : K.R w S us x) (k : Fp F w w') (hS : ∀ b, b < w.heap.size → S b → ¬ F b) : K.R w' S us x := K.kp h (k.kp hS)

/-! ## deviations, events, scenarios -/
def Dev.cells (d : Dev) : List Value := [.int .i64 d.round, .int .i64 d.src, .int .i64 d.dst, .int .i64 d.at_, .int .i64 d.kind, .int .u64 d.k, .int .i64 d.of, .int .i64 d.idx]
def i64r (x : Int) : Prop := -9223372036854775808 ≤ x ∧ x ≤ 9223372036854775807
structure Dev.ok (d : Dev) : Prop where
  r : i64r d.round
  s : i64r d.src
  ds : i64r d.dst
  a : i64r d.at_
  kd : i64r d.kind
  k : d.k < 18446744073709551616
  o : i64r d.of
  i : i64r d.idx
def kDev : Kn Dev where
  sz := 8
  pos := by decide
  R := fun _ _ us d => us = d.cells ∧ d.ok
  len := fun h => by rw [h.1]; rfl
  kp := fun h _ => h
  sub := fun h _ => h
  one := fun {w S us d} h u hu => by
    rw [h.1] at hu
    simp only [Dev.cells, List.mem_cons, List.not_mem_nil, or_false] at hu
    rcases hu with rfl | rfl | rfl | rfl | rfl | rfl | rfl | rfl <;> rfl
theorem add_zero' (a : Addr) : a.add 0 = a := by unfold Addr.add; simp
theorem add_at (a : Addr) (n t : Nat) (ht : 0 < t) : a.add (n + t) = ⟨(a.add n).block, (a.add n).off + t, none⟩ := by
  unfold Addr.add
  by_cases e : n = 0
  · subst e; simp; omega
  · simp [e]; omega
/-- a slice of deviations -/
theorem rdDev {w : World} {S : Nat → Prop} {v : Value} {xs : List Dev} (h : (kS kDev).R w S [v] xs) :
    ∃ A c, v = .slice A xs.length c ∧ (xs.length ≤ c ∧ c ≤ 9223372036854775807) ∧
      ∀ (j : Nat) d, xs[j]? = some d → ∃ ad, A = some ad ∧ S ad.block ∧ d.ok ∧ ∀ t u, d.cells[t]? = some u → w.cell? (ad.add (j * 8 + t)) = some u := by
  obtain ⟨A, n, c, e, h1, h2, h⟩ := h
  simp at e; subst e; subst h1
  refine ⟨A, c, rfl, h2, fun j d hd => ?_⟩
  obtain ⟨ad, vs, e1, e2, ⟨e3, e5⟩, e4⟩ := h j d hd
  subst e3
  exact ⟨ad, e1, e2, e5, e4⟩

/-- an event -/
structure Ev where
  round : Nat
  src : Nat
  words : List Nat
def kN : Kn Nat where
  sz := 1
  pos := by decide
  R := fun _ _ us x => us = [.int .i64 (x : Int)] ∧ x ≤ 9223372036854775807
  len := fun h => by rw [h.1]; rfl
  kp := fun h _ => h
  sub := fun h _ => h
  one := fun h u hu => by rw [h.1] at hu; simp at hu; subst hu; rfl
def kEv : Kn Ev := kM (fun e : Ev => ((e.round, e.src), e.words)) (kP (kP kN kN) (kS kU))
theorem kEv_mk {w : World} {S : Nat → Prop} {r s : Nat} {v : Value} {l : List Nat} (hr : r ≤ 9223372036854775807) (hs : s ≤ 9223372036854775807) (hl : (kS kU).R w S [v] l) :
    kEv.R w S [.int .i64 (r : Int), .int .i64 (s : Int), v] ⟨r, s, l⟩ := ⟨_, _, rfl, ⟨_, _, rfl, ⟨rfl, hr⟩, ⟨rfl, hs⟩⟩, hl⟩
theorem kEv_open {w : World} {S : Nat → Prop} {us : List Value} {e : Ev} (h : kEv.R w S us e) : ∃ v, us = [.int .i64 (e.round : Int), .int .i64 (e.src : Int), v] ∧ e.round ≤ 9223372036854775807 ∧ e.src ≤ 9223372036854775807 ∧ (kS kU).R w S [v] e.words := by
  obtain ⟨u, v, rfl, ⟨u1, u2, rfl, ⟨rfl, h1⟩, ⟨rfl, h2⟩⟩, hl⟩ := h
  obtain ⟨A, n, c, e, _⟩ := id hl
  subst e
  exact ⟨_, rfl, h1, h2, hl⟩

/-- a scenario without its tapes -/
structure Sc where
  p : Nat
  n : Nat
  t : Nat
  corrupt : List Int
  devs : List Dev
end Pv

set_option linter.unusedVariables false
set_option linter.unusedSimpArgs false
namespace Pv
open Go Go.RowKit Go.Proofs

theorem kS_T {α : Type} {K : Kn α} {w : World} {S T : Nat → Prop} {us : List Value} {xs : List α} (h : (kS K).R w S us xs) (hT : ∀ b, S b → T b) : (kS (kT K T)).R w S us xs := by
  obtain ⟨A, n, c, e, h1, h2, h⟩ := h
  exact ⟨A, n, c, e, h1, h2, fun j x hx => by
    obtain ⟨ad, vs, e1, e2, e3, e4⟩ := h j x hx
    exact ⟨ad, vs, e1, e2, K.sub e3 (fun b _ hb => ⟨hb, hT b hb⟩), e4⟩⟩
set_option maxHeartbeats 400000 in
theorem clone_rowsT (T : Nat → Prop) (v : Value) (xs : List (List Nat)) (S : Nat → Prop) (w : World) (hr : (kS (kT (kS kU) T)).R w S [v] xs) (hlen : xs.length * 24 ≤ 140737488355328) :
    Calls Tryd.prog 86 #[v] w fun e w' => ∃ v', e = .returned v' ∧ Ow (kT (kS kU) T) w' w.heap.size 30 v' xs ∧ Bl w w' := by
  have hlow := (kS (kT (kS kU) T)).low hr
  obtain ⟨A, c, rfl, hn2, hc2⟩ := kS_len hr
  rcases A with _ | ad
  · obtain ⟨rfl, _⟩ := kS_nil0 hr
    have hq := fun W => Lib.run_eql_slice_nil (P := Tryd.prog) W 27 30 none 0 c 0 0 Tryd.underlying27
    clear hlow hr
    show Calls _ _ #[.slice none 0 c] _ _
    go_enter Tryd.func86, Tryd.ntmps86
    go_wp2
    go_ret
    exact ⟨_, rfl, Ow.nil _ _ _ _, Below.refl _ _⟩
  · have hq := fun W => Lib.run_eql_slice_nil (P := Tryd.prog) W 27 30 (some ad) xs.length c 0 0 Tryd.underlying27
    have HR : Hid ((kS (kT (kS kU) T)).R (w.alloc (.cells #[] 30)) (Ne (some w.heap.size)) [.slice (some ad) xs.length c] xs) :=
      (kS (kT (kS kU) T)).sub ((kS (kT (kS kU) T)).kp hlow (Bl.kp ((Below.refl _ _).alloc (Nat.le_refl _) _) _)) fun b _ hb => by intro e; injection e with e; omega
    have hB : Bl w (w.alloc (.cells #[] 30)) := (Below.refl _ _).alloc (Nat.le_refl _) _
    have hO : Ow (kT (kS kU) T) (w.alloc (.cells #[] 30)) w.heap.size 30 (.slice (some ⟨w.heap.size, 0, none⟩) 0 0) ([] : List (List Nat)) := Ow.lit0 _ _ _ _ (Nat.le_refl _)
    clear hlow hr
    go_enter Tryd.func86, Tryd.ntmps86
    go_wp2_with (at_builtin; refine Ow.append_row (kT (kS kU) T) (w0 := w) w.heap.size rfl _ _ 27 30 (.slice none 0 0) 24 rfl Tryd.underlying27 crowinfo rfl _ _ [] xs rfl rfl hO hB (by simp) HR.out (by simpa using hlen) (by decide) ?_)
    intro v1 w2 hO2 hB2 _ _
    go_wp2
    go_ret
    exact ⟨v1, rfl, hO2, hB2⟩
end Pv

set_option linter.unusedVariables false
set_option linter.unusedSimpArgs false
namespace Pv
open Go Go.RowKit Go.Proofs

def resz (l : List Nat) (n : Nat) : List Nat := l.take n ++ List.replicate (n - l.length) 0
theorem resz_len (l : List Nat) (n : Nat) : (resz l n).length = n := by simp [resz]; omega
theorem flat_one (f : Nat → Value) : ∀ l : List Nat, (l.map fun x => [f x]).flatten = l.map f
  | [] => rfl
  | a :: l => by simp [flat_one f l]
theorem row_mk {w : World} {g n base : Nat} {e : TypeId} {xs : List Nat} (hx : xs.length = n) (hl : ∀ x, x ∈ xs → x < 18446744073709551616) (hg : w.heap[g]? = some (.cells (xs.map fun x : Nat => Value.int .u64 (x : Int)).toArray e (0, 0))) (hn : n ≤ maxLen) (hb : base ≤ g) :
    Ow kU w base e (.slice (some ⟨g, 0, none⟩) n n) xs := by
  subst hx
  have e1 : kU.sz = 1 := rfl
  refine ⟨xs.map fun x : Nat => [Value.int .u64 (x : Int)], by simp, ⟨by rw [flat_one, e1]; simp, .inr ⟨g, xs.length, _, rfl, hb, hg, Nat.le_refl _, hn, by rw [e1]; simp, ?_⟩⟩, fun j u x h1 h2 => ?_⟩
  · rw [flat_one, e1, Nat.mul_one]; simp [List.take_of_length_le]
  · rw [List.getElem?_map, h2] at h1
    simp at h1; subst h1
    exact ⟨rfl, hl x (List.mem_of_getElem? h2)⟩
theorem rsu64info : (Tryd.prog.info? 22).map (·.size) = some 1 := by kernel_rfl
set_option maxHeartbeats 1000000 in
set_option maxRecDepth 100000 in
theorem resize_any (v : Value) (l : List Nat) (n : Nat) (S : Nat → Prop) (w : World) (hr : (kS kU).R w S [v] l) (hn : n * 8 ≤ 140737488355328) :
    Calls Tryd.prog 47 #[v, .int .i64 n] w fun e w' => ∃ v', e = .returned v' ∧ Ow kU w' w.heap.size 22 v' (resz l n) ∧ Bl w w' := by
  have hlow := (kS kU).low hr
  obtain ⟨A, c, rfl, hl1, hl2⟩ := kS_len hr
  have HLOW := hide hlow; clear hlow hr
  go_enter Tryd.func47, Tryd.ntmps47
  go_wp2_with (at_make; refine Ow.make kU (w0 := w) w.heap.size rfl _ _ 30 22 (.int .u64 0) 8 rfl Tryd.underlying30 cu64info rfl rfl n rfl rfl (by omega) (by decide) 0 (fun _ _ => ⟨rfl, by omega⟩) (Below.refl _ _) (Nat.le_refl _) ?_)
  intro w1 hO hB
  obtain ⟨us, hul, ho, hrd⟩ := hO
  have hus : us.flatten = List.replicate n (.int .u64 0) := by
    have e : us = List.replicate n [Value.int .u64 0] := by
      refine List.ext_getElem (by simpa using hul) fun i h1 h2 => ?_
      have h3 : i < n := by simpa using h2
      have := hrd i us[i] 0 (List.getElem?_eq_getElem h1) (by simp [h3])
      simpa using this.1
    rw [e, rep_one]
  rcases ho.2 with ⟨h', _⟩ | ⟨g, cap, cur, h', hbg, hg, hnc, hm, hcs, ht⟩
  · cases h'
  injection h' with h1 h2 h3; injection h1 with h1; injection h1 with h1
  subst h1; subst h3
  have hcur : cur = (List.replicate n (Value.int .u64 0)).toArray := by
    have e1 : kU.sz = 1 := rfl
    rw [hus, e1, Nat.mul_one] at ht
    rw [e1, Nat.mul_one] at hcs
    have e2 : (List.replicate n (0 : Nat)).length = n := List.length_replicate
    rw [e2] at ht
    rw [List.take_of_length_le (by rw [Array.length_toList]; omega)] at ht
    rw [← ht]
  subst hcur
  have hcells := HLOW.out
  obtain ⟨A2, c2, h9, _, hc⟩ := rdU ((kS kU).bl hcells hB)
  injection h9 with h91 h92 h93
  subst h91; subst h93
  have HG := hide hg; clear hg
  have HC := hide hc; clear hc hcells
  clear hul h2 hnc h92 hbg hm
  have HB := hide hB; clear hB ho hrd hus ht hcs
  have hpos : 0 < ((l.take n).map fun x : Nat => Value.int .u64 (x : Int)).length → some (⟨w.heap.size, 0, none⟩ : Addr) = some ⟨w.heap.size, 0, none⟩ ∧ ∃ ad, A = some ad ∧ ∀ j v, ((l.take n).map fun x : Nat => Value.int .u64 (x : Int))[j]? = some v → w1.cell? (ad.add j) = some v := fun h => by
    rw [List.length_map, List.length_take] at h
    obtain ⟨ad, hA, _, _⟩ := HC.out 0 (by omega)
    refine ⟨rfl, ad, hA, fun j v hv => ?_⟩
    rw [List.getElem?_map, Option.map_eq_some_iff] at hv
    obtain ⟨x, hx, rfl⟩ := hv
    have hj : j < l.length := by have := (List.getElem?_eq_some_iff.1 hx).1; rw [List.length_take] at this; omega
    obtain ⟨ad', hA', _, hc, _⟩ := HC.out j hj
    rw [hA] at hA'; injection hA' with hA'; subst hA'
    rw [hc]
    rw [List.getElem?_take] at hx
    split at hx
    · rw [List.getD_eq_getElem?_getD, hx]; rfl
    · cases hx
  have HPOS := hide hpos; clear hpos
  obtain ⟨X1, hX1⟩ : ∃ X1, X1 = (l.take n).map fun x : Nat => Value.int .u64 (x : Int) := ⟨_, rfl⟩
  rw [← hX1] at HPOS
  have hXl : X1.length = Nat.min l.length n := by rw [hX1, List.length_map, List.length_take]; exact Nat.min_comm _ _
  have hXc : ∀ v ∈ X1, v.oneCell' = true := by rw [hX1]; intro v hv; obtain ⟨x, _, rfl⟩ := List.mem_map.1 hv; rfl
  have hXf : 0 + X1.length ≤ (List.replicate n (Value.int .u64 0)).length := by rw [hXl, List.length_replicate, Nat.zero_add]; exact Nat.min_le_right _ _
  have HX1 := hide hX1; clear hX1
  have HXL := hide hXl; clear hXl
  have HXC := hide hXc; clear hXc
  have HXF := hide hXf; clear hXf
  have HLT := hide (rdU_lt HLOW.out)
  go_wp2_with (refine wpList_copy_splice rfl (.tmp 8) (.tmp 9) 30 30 rfl 22 Tryd.underlying30 rsu64info (some ⟨w.heap.size, 0, none⟩) A n n l.length c rfl rfl w.heap.size 0 (List.replicate n (Value.int .u64 0)) 22 HG.out X1 HXL.out HPOS.out HXF.out HXC.out w.heap.size w HB.out (Nat.le_refl _) ?_)
  intro w2 HG2 hB2
  have HB2 := hide hB2; clear hB2
  go_wp2
  go_ret
  have hsp : splice (List.replicate n (Value.int .u64 0)) 0 X1 = (resz l n).map fun x : Nat => Value.int .u64 (x : Int) := by
    have h1 := HXL.out
    rw [splice, HX1.out, resz, List.map_append, List.map_replicate, List.take_zero, List.nil_append, Nat.zero_add, List.drop_replicate, List.length_map, List.length_take]
    congr 2
    omega
  have hG2 := HG2.out
  rw [hsp] at hG2
  exact ⟨_, rfl, row_mk (resz_len l n) (fun x hx => by
    rcases List.mem_append.1 hx with h | h
    · exact HLT.out x (List.mem_of_mem_take h)
    · rw [(List.mem_replicate.1 h).2]; omega) hG2 (by simp only [maxLen]; omega) (Nat.le_refl _), HB2.out⟩
end Pv

set_option linter.unusedVariables false
set_option linter.unusedSimpArgs false
namespace Pv
open Go Go.RowKit Go.Proofs

/-- the network in block nb: its scenario below B0, its own blocks in F -/
def NetR (w : World) (B0 : Nat) (F : Nat → Prop) (nb : Nat) (sc : Sc) (vt vtp : Value) (round : Nat) (views : Nat → List Ev) : Prop :=
  ∃ vc vd vb vws, w.heap[nb]? = some (.cells #[.int .u64 sc.p, .int .i64 sc.n, .int .i64 sc.t, vc, vd, vt, .int .i64 round, .slice (some ⟨vb, 0, none⟩) sc.n sc.n, vtp] 93 (0, 0)) ∧
    (kS kI).R w (fun b => b < B0) [vc] sc.corrupt ∧ (kS kDev).R w (fun b => b < B0) [vd] sc.devs ∧
    Rws kEv w (fun b => F b ∧ b ≠ nb) B0 vb sc.n 46 67 vws views ∧ F nb ∧ (∀ b, F b → B0 ≤ b) ∧ sc.n ≤ 1000 ∧ round ≤ 1000000 ∧ ∃ A n c, vt = .slice A n c
theorem NetR.frame {w w' : World} {B0 : Nat} {F : Nat → Prop} {nb : Nat} {sc : Sc} {vt vtp : Value} {round : Nat} {views : Nat → List Ev} (h : NetR w B0 F nb sc vt vtp round views)
    (hk : ∀ b, b < w.heap.size → F b ∨ b < B0 → w'.heap[b]? = w.heap[b]?) : NetR w' B0 F nb sc vt vtp round views := by
  obtain ⟨vc, vd, vb, vws, h1, h2, h3, h4, h5, h6, h7⟩ := h
  refine ⟨vc, vd, vb, vws, ?_, (kS kI).kp h2 fun b hb hs => hk b hb (.inr hs), (kS kDev).kp h3 fun b hb hs => hk b hb (.inr hs), h4.frame fun b hb hs => hk b hb (.inl hs.1), h5, h6, h7⟩
  rw [hk nb (Array.getElem?_eq_some_iff.1 h1).1 (.inl h5)]; exact h1
theorem NetR.bl {w w' : World} {B0 : Nat} {F : Nat → Prop} {nb : Nat} {sc : Sc} {vt vtp : Value} {round : Nat} {views : Nat → List Ev} (h : NetR w B0 F nb sc vt vtp round views) (hk : Bl w w') : NetR w' B0 F nb sc vt vtp round views := h.frame fun b hb _ => hk.block b hb
theorem NetR.dr {w w' : World} {B0 : Nat} {F : Nat → Prop} {nb : Nat} {sc : Sc} {vt vtp : Value} {round : Nat} {views : Nat → List Ev} (h : NetR w B0 F nb sc vt vtp round views) (hk : Dr w w') : NetR w' B0 F nb sc vt vtp round views := h.bl (hk.below _)
theorem NetR.wide {w : World} {B0 : Nat} {F F' : Nat → Prop} {nb : Nat} {sc : Sc} {vt vtp : Value} {round : Nat} {views : Nat → List Ev} (h : NetR w B0 F nb sc vt vtp round views) (hF : ∀ b, b < w.heap.size → F b → F' b) (hF' : ∀ b, F' b → B0 ≤ b) : NetR w B0 F' nb sc vt vtp round views := by
  obtain ⟨vc, vd, vb, vws, h1, h2, h3, h4, h5, h6, h7⟩ := h
  exact ⟨vc, vd, vb, vws, h1, h2, h3, h4.wide fun b hb hs => ⟨hF b hb hs.1, hs.2⟩, hF _ (Array.getElem?_eq_some_iff.1 h1).1 h5, hF', h7⟩

set_option maxHeartbeats 400000 in
theorem rounds_any (w : World) (B0 : Nat) (F : Nat → Prop) (nb : Nat) (sc : Sc) (vt vtp : Value) (round : Nat) (views : Nat → List Ev) (hn : NetR w B0 F nb sc vt vtp round views) :
    Calls Tryd.prog 22 #[.pointer (some ⟨nb, 0, none⟩)] w fun e w' => e = .returned (.int .i64 (round : Nat)) ∧ w' = w := by
  obtain ⟨vc, vd, vb, vws, h1, _⟩ := hn
  have c6 : w.cell? ⟨nb, 6, none⟩ = some (.int .i64 round) := by simp [World.cell?, h1]
  clear h1
  go_enter Tryd.func22, Tryd.ntmps22
  go_wp2
  go_ret
  exact ⟨rfl, rfl⟩

def ScenP (w : World) (B0 : Nat) (sc : Sc) (vt : Value) (e : Ending) (w' : World) : Prop :=
  Bl w w' ∧ ∃ vc vd, e = .returned (scVal sc.p sc.n sc.t vc vd vt) ∧ (kS kI).R w (fun b => b < B0) [vc] sc.corrupt ∧ (kS kDev).R w (fun b => b < B0) [vd] sc.devs
set_option maxHeartbeats 400000 in
theorem scenario_any (w : World) (B0 : Nat) (F : Nat → Prop) (nb : Nat) (sc : Sc) (vt vtp : Value) (round : Nat) (views : Nat → List Ev) (hn : NetR w B0 F nb sc vt vtp round views) :
    Calls Tryd.prog 44 #[.pointer (some ⟨nb, 0, none⟩)] w fun e w' => ScenP w B0 sc vt e w' := by
  obtain ⟨vc, vd, vb, vws, h1, h2, h3, _, _, _, _, _, At, nt, ct, rfl⟩ := hn
  obtain ⟨Ac, cc, rfl, _⟩ := kS_len h2
  obtain ⟨Ad, cd, rfl, _⟩ := kS_len h3
  have hlt := (Array.getElem?_eq_some_iff.1 h1).1
  have c0 : w.cell? ⟨nb, 0, none⟩ = some (.int .u64 sc.p) := by simp [World.cell?, h1]
  have c1 : w.cell? ⟨nb, 1, none⟩ = some (.int .i64 sc.n) := by simp [World.cell?, h1]
  have c2 : w.cell? ⟨nb, 2, none⟩ = some (.int .i64 sc.t) := by simp [World.cell?, h1]
  have c3 : w.cell? ⟨nb, 3, none⟩ = some (.slice Ac sc.corrupt.length cc) := by simp [World.cell?, h1]
  have c4 : w.cell? ⟨nb, 4, none⟩ = some (.slice Ad sc.devs.length cd) := by simp [World.cell?, h1]
  have c5 : w.cell? ⟨nb, 5, none⟩ = some (.slice At nt ct) := by simp [World.cell?, h1]
  have H2 := hide h2; clear h2
  have H3 := hide h3; clear h3 h1
  go_enter Tryd.func44, Tryd.ntmps44
  go_wp2
  go_returns
  exact ⟨(Below.refl _ _).alloc (Nat.le_refl _) _, _, _, rfl, H2.out, H3.out⟩

theorem evinfo : (Tryd.prog.info? 67).map (fun i => (i.zero, i.size, i.bytes)) = some (some (.agg #[.int .i64 0, .int .i64 0, .slice none 0 0]), 3, 40) := by kernel_rfl
def ViewP (w : World) (l : List Ev) (e : Ending) (w' : World) : Prop := Bl w w' ∧ ∃ v', e = .returned v' ∧ Ow kEv w' w.heap.size 67 v' l
set_option maxHeartbeats 400000 in
theorem view_any (w : World) (B0 : Nat) (F : Nat → Prop) (nb : Nat) (sc : Sc) (vt vtp : Value) (round : Nat) (views : Nat → List Ev) (i : Nat) (hn : NetR w B0 F nb sc vt vtp round views) (hi : 1 ≤ i) (hi2 : i ≤ sc.n) (hl : (views (i - 1)).length ≤ 1000000) :
    Calls Tryd.prog 21 #[.pointer (some ⟨nb, 0, none⟩), .int .i64 i] w fun e w' => ViewP w (views (i - 1)) e w' := by
  obtain ⟨vc, vd, vb, vws, h1, h2, h3, h4, h5, h6, h7, h8⟩ := hn
  obtain ⟨k, rfl⟩ : ∃ k, i = k + 1 := ⟨i - 1, by omega⟩
  simp only [Nat.add_sub_cancel] at hl ⊢
  have hk : k < sc.n := by omega
  have c7 : w.cell? ⟨nb, 7, none⟩ = some (.slice (some ⟨vb, 0, none⟩) sc.n sc.n) := by simp [World.cell?, h1]
  have cv := h4.out.cell hk
  have hrd := (kS kEv).low (h4.rowR hk)
  obtain ⟨A, c, hv, hl1, hl2⟩ := h4.head hk
  rw [hv] at cv hrd
  have e1 : ((k + 1 : Nat) : Int) - 1 = (k : Int) := by omega
  have hki : (k : Int) < (sc.n : Int) := by omega
  have hk0 : (0 : Int) ≤ (k : Int) := by omega
  have HRD := hide hrd; clear hrd
  have HL := hide hl; clear hl
  clear h1 h2 h3 h4 h5 h6 hv
  go_enter Tryd.func21, Tryd.ntmps21
  go_wp2_with (at_builtin; refine Ow.append_row kEv (w0 := w) w.heap.size rfl _ _ 46 67 (.agg #[.int .i64 0, .int .i64 0, .slice none 0 0]) 40 rfl Tryd.underlying46 evinfo rfl (.slice none 0 0) _ [] (views k) rfl rfl (Ow.nil _ _ _ _) (Below.refl _ _) (Nat.le_refl _) ((kS kEv).sub HRD.out fun b hb hs => by intro e; cases e) (by have := HL.out; simp; omega) (by decide) ?_)
  intro v1 w1 hO hB _ _
  go_wp2
  go_ret
  exact ⟨hB, _, rfl, hO⟩
end Pv
