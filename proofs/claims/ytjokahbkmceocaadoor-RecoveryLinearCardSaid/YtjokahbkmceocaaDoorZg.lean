import Derived.Test.YtjokahbkmceocaaDoorZe
import Derived.StillTailTactics
import Derived.Test.YtjokahbkmceocaaDoorZa
import Derived.Deep.DeepCutAuto
import Derived.Deep.CutBlock
import Derived.Deep.RegionHeld3
import Derived.Test.YtjokahbkmceocaaDoorZb
set_option linter.unusedVariables false
set_option linter.unusedSimpArgs false
namespace Pv
open Go Go.RowKit Go.Proofs

/-- what a deviation makes of a message; ys: the message that it looks at -/
def uponL (p : Nat) (corrupt : List Int) (d : Dev) (xs ys : List Nat) : List Nat :=
  if d.kind = 4 then [] else if (xs.length : Int) ≤ d.at_ then xs else
  if d.kind = 1 then xs.set d.at_.toNat (d.k % p) else
  if d.kind = 2 then xs.set d.at_.toNat (fadd p (xs.getD d.at_.toNat 0) (d.k % p)) else
  if d.kind = 3 then xs.set d.at_.toNat (fadd p (xs.getD d.at_.toNat 0) (fmul p (d.k % p) (if d.of ∈ corrupt then 0 else wordAt ys d.idx))) else xs
def UponP (p : Nat) (corrupt : List Int) (d : Dev) (xs ys : List Nat) (S : Nat → Prop) (w : World) (e : Ending) (w' : World) : Prop :=
  Bl w w' ∧ ∃ v', e = .returned v' ∧ (kS kU).R w' (fun b => S b ∨ w.heap.size ≤ b) [v'] (uponL p corrupt d xs ys)
set_option maxHeartbeats 1000000 in
set_option maxRecDepth 100000 in
theorem upon_any (p : Nat) (n t : Int) (vc vd vt v vs : Value) (corrupt : List Int) (d : Dev) (xs ys : List Nat) (S S' S'' : Nat → Prop) (w : World) (hp : IsP p) (hc : (kS kI).R w S [vc] corrupt) (hx : (kS kU).R w S' [v] xs) (hy : (kS kU).R w S'' [vs] ys)
    (hxp : ∀ x, x ∈ xs → x < p) (hyp : ∀ x, x ∈ ys → x < p) (hat : 0 ≤ d.at_) (hk : d.k < 18446744073709551616) (hx8 : xs.length * 8 ≤ 140737488355328) :
    Calls Tryd.prog 88 #[scVal p n t vc vd vt, d.val, v, vs] w fun e w' => UponP p corrupt d xs ys S' w e w' := by
  obtain ⟨r, s, dd, a, k, kk, o, ii⟩ := d
  simp only [Dev.val, scVal]
  simp only at hat hk
  have hB : Bl w ((w.alloc (.cells #[.int .u64 p, .int .i64 n, .int .i64 t, vc, vd, vt] 29)).alloc (.cells #[.int .i64 r, .int .i64 s, .int .i64 dd, .int .i64 a, .int .i64 k, .int .u64 kk, .int .i64 o, .int .i64 ii] 99)) :=
    ((Below.refl _ _).alloc (Nat.le_refl _) _).alloc (((Below.refl _ _).alloc (Nat.le_refl _) _).size) _
  have HB := hide hB; clear hB
  by_cases hk4 : k = 4
  · subst hk4
    clear hc hx hy
    go_enter Tryd.func88, Tryd.ntmps88
    go_wp2_with fail
    go_ret
    exact ⟨HB.out, _, rfl, by simp only [uponL, if_true]; exact kS_nil _ _ _⟩
  · have hk4b : (k == 4) = false := by simpa using hk4
    have hlx := hx
    obtain ⟨A, c, rfl, hl⟩ := kS_len hx
    have HX := hide hx; clear hx hlx
    by_cases hal : (xs.length : Int) ≤ a
    · have hal' := hal
      clear hc hy
      have hr : (kS kU).R ((w.alloc (.cells #[.int .u64 p, .int .i64 n, .int .i64 t, vc, vd, vt] 29)).alloc (.cells #[.int .i64 r, .int .i64 s, .int .i64 dd, .int .i64 a, .int .i64 k, .int .u64 kk, .int .i64 o, .int .i64 ii] 99)) (fun b => S' b ∨ w.heap.size ≤ b) [.slice A xs.length c] (uponL p corrupt ⟨r, s, dd, a, k, kk, o, ii⟩ xs ys) := by
        simp only [uponL, if_neg hk4, if_pos hal]
        exact (kS kU).sub ((kS kU).kp HX.out (HB.out.kp _)) fun b _ h => .inl h
      have HR := hide hr; clear hr
      go_enter Tryd.func88, Tryd.ntmps88
      go_wp2_with fail
      go_ret
      exact ⟨HB.out, _, rfl, HR.out⟩
    · obtain ⟨q, rfl⟩ : ∃ q : Nat, a = (q : Int) := ⟨a.toNat, by omega⟩
      have hq : q < xs.length := by omega
      have hlow := (kS kU).low HX.out
      have hcln := fun W (h : Bl w W) => clone_u64 (.slice A xs.length c) xs _ W ((kS kU).bl hlow h) hx8
      have hred := fun W => reduce_any p kk W hp hk
      have hrl : kk % p < p := Nat.mod_lt _ (by have := hp.lo; omega)
      have hu : uponL p corrupt ⟨r, s, dd, q, k, kk, o, ii⟩ xs ys = if k = 1 then xs.set q (kk % p) else if k = 2 then xs.set q (fadd p (xs.getD q 0) (kk % p)) else
          if k = 3 then xs.set q (fadd p (xs.getD q 0) (fmul p (kk % p) (if o ∈ corrupt then 0 else wordAt ys ii))) else xs := by
        simp only [uponL, if_neg hk4, if_neg hal, Int.toNat_natCast]
      have HU := hide hu; clear hu
      have HCL := hide hcln; clear hcln hlow
      have HRED := hide hred; clear hred
      obtain ⟨m, hm⟩ : ∃ m, m = kk % p := ⟨_, rfl⟩
      rw [← hm] at hrl HRED HU
      have HM := hide hm; clear hm
      by_cases hk1 : k = 1
      · subst hk1
        clear hc hy
        go_enter Tryd.func88, Tryd.ntmps88
        go_wp2_with fail
        refine (HRED.out _).mono ?_
        rintro e w2 ⟨rfl, rfl⟩
        go_wp2_with fail
        refine (HCL.out _ HB.out).mono ?_
        rintro e w3 ⟨v3, rfl, hO3, hB3⟩
        obtain ⟨g3, c3, rfl, hg31, hg32⟩ := hO3.form (by omega)
        have hb1 : ∀ i : Nat, ∀ u, (#[Value.int .i64 r, .int .i64 s, .int .i64 dd, .int .i64 q, .int .i64 1, .int .u64 kk, .int .i64 o, .int .i64 ii] : Array Value)[i]? = some u → w3.cell? ⟨w.heap.size + 1, i, none⟩ = some u := fun i u hu => by
          refine cell_bl hB3 ?_
          rw [World.cell?_alloc_at _ _ _ _ (by show w.heap.size + 1 = (w.heap.push _).size; rw [Array.size_push])]
          exact hu
        have hc3 := hb1 3 _ rfl
        have hc4 := hb1 4 _ rfl
        have hst := hO3.storedU q (by omega) m (by have := hp.hi; omega)
        have hfr := (hO3.atU q (by omega)).2.1
        have hcx := (hO3.atU q (by omega)).1
        have hB4 := Bl.then HB.out HB.out.size hB3
        have hqn : (q : Int) < (xs.length : Int) := by omega
        have HST := hide hst; clear hst
        have HB4 := hide hB4; clear hB4 hb1
        have HO3 := hide hO3; clear hO3
        have HSZ := hide (HB.out.size); clear hg32
        have HB3 := hide hB3; clear hB3
        go_wp2_with fail
        go_ret
        refine ⟨HB4.out.setCell (by have := HSZ.out; show w.heap.size ≤ g3; omega) _, _, rfl, ?_⟩
        have hu1 := HU.out
        simp only [if_true] at hu1
        rw [hu1]
        exact HST.out.1.readsU _ fun b hb => .inr (by have hb : some g3 = some b := hb; injection hb with hb; have := HSZ.out; omega)
      · have hk1b : (k == 1) = false := by simpa using hk1
        by_cases hk23 : k ≠ 2 ∧ k ≠ 3
        · have hk2b : (k == 2) = false := by simpa using hk23.1
          have hk3b : (k == 3) = false := by simpa using hk23.2
          clear hc hy
          go_enter Tryd.func88, Tryd.ntmps88
          go_wp2_with fail
          refine (HRED.out _).mono ?_
          rintro e w2 ⟨rfl, rfl⟩
          go_wp2_with fail
          refine (HCL.out _ HB.out).mono ?_
          rintro e w3 ⟨v3, rfl, hO3, hB3⟩
          obtain ⟨g3, c3, rfl, hg31, hg32⟩ := hO3.form (by omega)
          have hc4 : w3.cell? ⟨w.heap.size + 1, 4, none⟩ = some (.int .i64 k) := by
            refine cell_bl hB3 ?_
            rw [World.cell?_alloc_at _ _ _ _ (by show w.heap.size + 1 = (w.heap.push _).size; rw [Array.size_push])]
            rfl
          have hB4 := Bl.then HB.out HB.out.size hB3
          have HB4 := hide hB4; clear hB4
          have HO3 := hide hO3; clear hO3
          have HSZ := hide (HB.out.size); clear hg32
          have HB3 := hide hB3; clear hB3
          have hu1 := HU.out
          rw [if_neg hk1, if_neg hk23.1, if_neg hk23.2] at hu1
          have HU1 := hide hu1; clear hu1
          go_wp2_with fail
          go_ret
          refine ⟨HB4.out, _, rfl, ?_⟩
          rw [HU1.out]
          exact HO3.out.readsU _ fun b hb => .inr (by have hb : some g3 = some b := hb; injection hb with hb; have := HSZ.out; omega)
        · have hk23' : k = 2 ∨ k = 3 := by omega
          rcases hk23' with rfl | rfl
          · as_aux_lemma =>
            clear hc hy
            go_enter Tryd.func88, Tryd.ntmps88
            go_wp2_with fail
            refine (HRED.out _).mono ?_
            rintro e w2 ⟨rfl, rfl⟩
            go_wp2_with fail
            refine (HCL.out _ HB.out).mono ?_
            rintro e w3 ⟨v3, rfl, hO3, hB3⟩
            obtain ⟨g3, c3, rfl, hg31, hg32⟩ := hO3.form (by omega)
            have hb1 : ∀ i : Nat, ∀ u, (#[Value.int .i64 r, .int .i64 s, .int .i64 dd, .int .i64 q, .int .i64 2, .int .u64 kk, .int .i64 o, .int .i64 ii] : Array Value)[i]? = some u → w3.cell? ⟨w.heap.size + 1, i, none⟩ = some u := fun i u hu => by
              refine cell_bl hB3 ?_
              rw [World.cell?_alloc_at _ _ _ _ (by show w.heap.size + 1 = (w.heap.push _).size; rw [Array.size_push])]
              exact hu
            have hc3 := hb1 3 _ rfl
            have hc4 := hb1 4 _ rfl
            have hyq : xs.getD q 0 < p := getD_lt hxp hq
            have hst := (hO3.dr (Dr.one (Dr.refl _))).storedU q (by omega) (fadd p (xs.getD q 0) m) (by have := fadd_lt (p := p) (by omega) (xs.getD q 0) m; have := hp.hi; omega)
            have hfr := (hO3.atU q (by omega)).2.1
            have hcx := (hO3.atU q (by omega)).1
            have hB4 := Bl.then HB.out HB.out.size hB3
            have hqn : (q : Int) < (xs.length : Int) := by omega
            have hu2 := HU.out
            simp only [if_neg (show ¬ (2 : Int) = 1 by decide), if_true] at hu2
            have HU2 := hide hu2; clear hu2
            obtain ⟨y, hy⟩ : ∃ y, y = xs.getD q 0 := ⟨_, rfl⟩
            rw [← hy] at hyq hst hcx HU2
            have HY := hide hy; clear hy
            have had := fun W => add_any p y m W hp hyq hrl
            have HAD := hide had; clear had
            obtain ⟨z, hz⟩ : ∃ z, z = fadd p y m := ⟨_, rfl⟩
            rw [← hz] at hst HAD HU2
            have HZ := hide hz; clear hz
            have HST := hide hst; clear hst
            have HB4 := hide hB4; clear hB4 hb1
            have HO3 := hide hO3; clear hO3
            have HSZ := hide (HB.out.size); clear hg32
            have HB3 := hide hB3; clear hB3
            go_wp2_with fail
            refine wp_region_still_tail 12 (by kernel_rfl) (by kernel_rfl) ?_
            simp only [List.take_succ_cons, List.take_zero, List.drop_succ_cons, List.drop_zero]
            repeat still_step
            still_call (HAD.out _)
            repeat still_step
            refine wpStill_nil ?_
            change wpList _ _ _ _ _ (World.drew _)
            go_wp2_with fail
            go_ret
            refine ⟨(Bl.dr HB4.out (Dr.one (Dr.refl _))).setCell (by have := HSZ.out; show w.heap.size ≤ g3; omega) _, _, rfl, ?_⟩
            rw [HU2.out]
            exact HST.out.1.readsU _ fun b hb => .inr (by have hb : some g3 = some b := hb; injection hb with hb; have := HSZ.out; omega)
          · as_aux_lemma =>
            have hclow := (kS kI).low hc
            have hylow := (kS kU).low hy
            have hyw : wordAt ys ii < p := by
              unfold wordAt; split
              · have := hp.lo; omega
              · rw [List.getD_eq_getElem?_getD]
                cases e : ys[ii.toNat]? with
                | none => have := hp.lo; simpa using (by omega : 0 < p)
                | some c => exact hyp c (List.mem_of_getElem? e)
            have HCLOW := hide hclow; clear hclow hc
            have HYLOW := hide hylow; clear hylow hy
            obtain ⟨hv, hhv⟩ : ∃ hv, hv = (if o ∈ corrupt then 0 else wordAt ys ii) := ⟨_, rfl⟩
            have hvp : hv < p := by rw [hhv]; split; have := hp.lo; omega; exact hyw
            rw [← hhv] at HU
            have HHV := hide hhv; clear hhv
            go_enter Tryd.func88, Tryd.ntmps88
            go_wp2_with fail
            refine (HRED.out _).mono ?_
            rintro e w2 ⟨rfl, rfl⟩
            go_wp2_with fail
            refine (HCL.out _ HB.out).mono ?_
            rintro e w3 ⟨v3, rfl, hO3, hB3⟩
            obtain ⟨g3, c3, rfl, hg31, hg32⟩ := hO3.form (by omega)
            have hb1 : ∀ i : Nat, ∀ u, (#[Value.int .i64 r, .int .i64 s, .int .i64 dd, .int .i64 q, .int .i64 3, .int .u64 kk, .int .i64 o, .int .i64 ii] : Array Value)[i]? = some u → w3.cell? ⟨w.heap.size + 1, i, none⟩ = some u := fun i u hu => by
              refine cell_bl hB3 ?_
              rw [World.cell?_alloc_at _ _ _ _ (by show w.heap.size + 1 = (w.heap.push _).size; rw [Array.size_push])]
              exact hu
            have hc3 := hb1 3 _ rfl
            have hc4 := hb1 4 _ rfl
            have hc6 := hb1 6 _ rfl
            have hc7 := hb1 7 _ rfl
            have hs3 : w3.cell? ⟨w.heap.size, 3, none⟩ = some vc := by
              refine cell_bl hB3 ?_
              rw [show (⟨w.heap.size, 3, none⟩ : Addr) = ⟨w.heap.size, 3, none⟩ from rfl, cell_bl ((Below.refl _ _).alloc (Nat.le_refl _) _) (World.cell?_alloc_at _ _ _ _ rfl)]
              rfl
            have hyq : xs.getD q 0 < p := getD_lt hxp hq
            have hst := (hO3.dr (Dr.one (Dr.refl _))).storedU q (by omega) (fadd p (xs.getD q 0) (fmul p m hv)) (by have := fadd_lt (p := p) (by omega) (xs.getD q 0) (fmul p m hv); have := hp.hi; omega)
            have hfr := (hO3.atU q (by omega)).2.1
            have hcx := (hO3.atU q (by omega)).1
            have hB4 := Bl.then HB.out HB.out.size hB3
            have hqn : (q : Int) < (xs.length : Int) := by omega
            have hu2 := HU.out
            simp only [if_neg (show ¬ (3 : Int) = 1 by decide), if_neg (show ¬ (3 : Int) = 2 by decide), if_true] at hu2
            have HU2 := hide hu2; clear hu2
            obtain ⟨y, hy⟩ : ∃ y, y = xs.getD q 0 := ⟨_, rfl⟩
            rw [← hy] at hyq hst hcx HU2
            have HY := hide hy; clear hy
            have hml := fun W => mul_any p m hv W hp hrl hvp
            have HML := hide hml; clear hml
            have hfl := fmul_lt (p := p) (by omega) m hv
            obtain ⟨x, hx⟩ : ∃ x, x = fmul p m hv := ⟨_, rfl⟩
            rw [← hx] at hst HU2 HML hfl
            have HXX := hide hx; clear hx
            have had := fun W => add_any p y x W hp hyq hfl
            have HAD := hide had; clear had
            obtain ⟨z, hz⟩ : ∃ z, z = fadd p y x := ⟨_, rfl⟩
            rw [← hz] at hst HAD HU2
            have HZ := hide hz; clear hz
            have HST := hide hst; clear hst
            have HCT := hide (containsI_any vc corrupt o _ w3 ((kS kI).bl HCLOW.out hB4))
            have HWD := hide (word_any vs ys ii _ w3 ((kS kU).bl HYLOW.out hB4))
            have HB4 := hide hB4; clear hB4 hb1
            have HO3 := hide hO3; clear hO3
            have HSZ := hide (HB.out.size); clear hg32
            have HB3 := hide hB3; clear hB3 hyw hvp
            go_wp2_with fail
            refine HCT.out.mono ?_
            rintro e w4 ⟨rfl, rfl⟩
            by_cases hoc : o ∈ corrupt
            · have hd : decide (o ∈ corrupt) = true := decide_eq_true hoc
              have hv0 : hv = 0 := by rw [HHV.out, if_pos hoc]
              subst hv0
              rw [hd]
              clear hd hoc HCT HHV
              go_wp2_with fail
              refine wp_region_still_tail 15 (by kernel_rfl) (by kernel_rfl) ?_
              simp only [List.take_succ_cons, List.take_zero, List.drop_succ_cons, List.drop_zero]
              repeat still_step
              still_call (HML.out _)
              repeat still_step
              still_call (HAD.out _)
              repeat still_step
              refine wpStill_nil ?_
              change wpList _ _ _ _ _ (World.drew _)
              go_wp2_with fail
              go_ret
              refine ⟨(Bl.dr HB4.out (Dr.one (Dr.refl _))).setCell (by have := HSZ.out; show w.heap.size ≤ g3; omega) _, _, rfl, ?_⟩
              rw [HU2.out]
              exact HST.out.1.readsU _ fun b hb => .inr (by have hb : some g3 = some b := hb; injection hb with hb; have := HSZ.out; omega)
            · have hd : decide (o ∈ corrupt) = false := decide_eq_false hoc
              have hv0 : hv = wordAt ys ii := by rw [HHV.out, if_neg hoc]
              rw [hd]
              rw [← hv0] at HWD
              clear hd hoc HCT HHV hv0
              go_wp2_with fail
              refine HWD.out.mono ?_
              rintro e w5 ⟨rfl, rfl⟩
              go_wp2_with fail
              refine wp_region_still_tail 15 (by kernel_rfl) (by kernel_rfl) ?_
              simp only [List.take_succ_cons, List.take_zero, List.drop_succ_cons, List.drop_zero]
              repeat still_step
              still_call (HML.out _)
              repeat still_step
              still_call (HAD.out _)
              repeat still_step
              refine wpStill_nil ?_
              change wpList _ _ _ _ _ (World.drew _)
              go_wp2_with fail
              go_ret
              refine ⟨(Bl.dr HB4.out (Dr.one (Dr.refl _))).setCell (by have := HSZ.out; show w.heap.size ≤ g3; omega) _, _, rfl, ?_⟩
              rw [HU2.out]
              exact HST.out.1.readsU _ fun b hb => .inr (by have hb : some g3 = some b := hb; injection hb with hb; have := HSZ.out; omega)
end Pv

set_option linter.unusedVariables false
set_option linter.unusedSimpArgs false
namespace Pv
open Go Go.RowKit Go.Proofs

/-- a deviation applied to a round's messages -/
def stepM (p : Nat) (corrupt : List Int) (round : Int) (out all : Nat → Nat → List Nat) (d : Dev) : Nat → Nat → List Nat :=
  if d.round = round ∧ d.src ∈ corrupt then
    fun i j => if (i : Int) + 1 = d.src ∧ (j : Int) + 1 ≠ d.src ∧ (d.dst = 0 ∨ d.dst = (j : Int) + 1) then uponL p corrupt d (all i j) (if d.kind = 3 then out (d.of - 1).toNat i else []) else all i j
  else all
def applyM (p : Nat) (corrupt : List Int) (round : Int) (devs : List Dev) (out : Nat → Nat → List Nat) : Nat → Nat → List Nat := devs.foldl (stepM p corrupt round out) out
def row1 (N : Nat) (f : Nat → List Nat) : List (List Nat) := (List.range N).map f
def mat (N : Nat) (f : Nat → Nat → List Nat) : List (List (List Nat)) := (List.range N).map fun i => row1 N (f i)
theorem row1_len (N : Nat) (f : Nat → List Nat) : (row1 N f).length = N := by simp [row1]
theorem row1_at {N : Nat} (f : Nat → List Nat) {j : Nat} (h : j < N) : (row1 N f)[j]? = some (f j) := by simp [row1, h]
theorem mat_len (N : Nat) (f : Nat → Nat → List Nat) : (mat N f).length = N := by simp [mat]
theorem mat_at {N : Nat} (f : Nat → Nat → List Nat) {j : Nat} (h : j < N) : (mat N f)[j]? = some (row1 N (f j)) := by simp [mat, h]
theorem row1_set {N : Nat} (f : Nat → List Nat) {j : Nat} (h : j < N) (x : List Nat) : (row1 N f).set j x = row1 N (upd f j x) := by
  refine List.ext_getElem? fun i => ?_
  rw [List.getElem?_set, row1_len]
  by_cases e : j = i
  · subst e; rw [if_pos rfl, if_pos h, row1_at _ h, upd_same]
  · rw [if_neg e]
    by_cases hi : i < N
    · rw [row1_at _ hi, row1_at _ hi, upd_ne _ _ (fun e' => e e'.symm)]
    · rw [List.getElem?_eq_none (by rw [row1_len]; omega), List.getElem?_eq_none (by rw [row1_len]; omega)]
theorem row1_congr {N : Nat} {f g : Nat → List Nat} (h : ∀ j, j < N → f j = g j) : row1 N f = row1 N g := List.map_congr_left fun j hj => h j (List.mem_range.1 hj)
theorem mat_congr {N : Nat} {f g : Nat → Nat → List Nat} (h : ∀ i j, i < N → j < N → f i j = g i j) : mat N f = mat N g := List.map_congr_left fun i hi => row1_congr fun j hj => h i j (List.mem_range.1 hi) hj
/-- words < p, messages of at most L words -/
def OkM (p L : Nat) (l : List Nat) : Prop := (∀ x, x ∈ l → x < p) ∧ l.length ≤ L
theorem uponL_ok {p L : Nat} (hp : 0 < p) {corrupt : List Int} {d : Dev} {xs ys : List Nat} (h : OkM p L xs) : OkM p L (uponL p corrupt d xs ys) := by
  have hs : ∀ (i z : Nat), z < p → OkM p L (xs.set i z) := fun i z hz => ⟨fun x hx => by
    rcases List.mem_or_eq_of_mem_set hx with h' | h'
    · exact h.1 x h'
    · subst h'; exact hz, by simpa using h.2⟩
  unfold uponL
  split
  · exact ⟨fun x hx => by simp at hx, by simp⟩
  split
  · exact h
  split
  · exact hs _ _ (Nat.mod_lt _ hp)
  split
  · exact hs _ _ (fadd_lt hp _ _)
  split
  · exact hs _ _ (fadd_lt hp _ _)
  · exact h
theorem stepM_ok {p L : Nat} (hp : 0 < p) {corrupt : List Int} {round : Int} {out all : Nat → Nat → List Nat} {d : Dev} {i j : Nat} (h : OkM p L (all i j)) : OkM p L (stepM p corrupt round out all d i j) := by
  unfold stepM
  by_cases hd : d.round = round ∧ d.src ∈ corrupt
  · rw [if_pos hd]
    by_cases hi : (i : Int) + 1 = d.src ∧ (j : Int) + 1 ≠ d.src ∧ (d.dst = 0 ∨ d.dst = (j : Int) + 1)
    · rw [if_pos hi]; exact uponL_ok hp h
    · rw [if_neg hi]; exact h
  · rw [if_neg hd]; exact h
theorem applyM_ok {p L : Nat} (hp : 0 < p) {corrupt : List Int} {round : Int} {out : Nat → Nat → List Nat} (devs : List Dev) {i j : Nat} (h : OkM p L (out i j)) : OkM p L (applyM p corrupt round devs out i j) := by
  unfold applyM
  have key : ∀ (devs : List Dev) (all : Nat → Nat → List Nat), OkM p L (all i j) → OkM p L (devs.foldl (stepM p corrupt round out) all i j) := by
    intro devs
    induction devs with
    | nil => exact fun all h => h
    | cons d ds ih => exact fun all h => ih _ (stepM_ok hp h)
  exact key devs out h
/-- a deviation that may stand in a scenario of N parties -/
structure DevV (N : Nat) (d : Dev) : Prop where
  s1 : 1 ≤ d.src
  s2 : d.src ≤ N
  at0 : 0 ≤ d.at_
  o : d.kind = 3 → 1 ≤ d.of ∧ d.of ≤ N
/-- one row under way: the first j messages are done -/
def stepJ (p : Nat) (corrupt : List Int) (d : Dev) (said : List Nat) (i0 j : Nat) (all : Nat → Nat → List Nat) : Nat → Nat → List Nat :=
  fun i' j' => if i' = i0 ∧ j' < j ∧ (j' : Int) + 1 ≠ d.src ∧ (d.dst = 0 ∨ d.dst = (j' : Int) + 1) then uponL p corrupt d (all i' j') said else all i' j'
theorem stepJ_0 (p : Nat) (corrupt : List Int) (d : Dev) (said : List Nat) (i0 : Nat) (all : Nat → Nat → List Nat) : stepJ p corrupt d said i0 0 all = all := by
  funext i j; simp [stepJ]
theorem stepJ_skip {p : Nat} {corrupt : List Int} {d : Dev} {said : List Nat} {i0 j : Nat} {all : Nat → Nat → List Nat} (h : ¬ ((j : Int) + 1 ≠ d.src ∧ (d.dst = 0 ∨ d.dst = (j : Int) + 1))) : stepJ p corrupt d said i0 (j + 1) all = stepJ p corrupt d said i0 j all := by
  funext i' j'
  unfold stepJ
  by_cases e : j' = j
  · subst e
    rw [if_neg (fun h' => h h'.2.2), if_neg (fun h' => h h'.2.2)]
  · by_cases e2 : j' < j
    · simp [e2, show j' < j + 1 by omega]
    · simp [e2, show ¬ j' < j + 1 by omega]
theorem stepJ_do {p : Nat} {corrupt : List Int} {d : Dev} {said : List Nat} {i0 j : Nat} {all : Nat → Nat → List Nat} (h : (j : Int) + 1 ≠ d.src ∧ (d.dst = 0 ∨ d.dst = (j : Int) + 1)) :
    stepJ p corrupt d said i0 (j + 1) all = upd (stepJ p corrupt d said i0 j all) i0 (upd (stepJ p corrupt d said i0 j all i0) j (uponL p corrupt d (stepJ p corrupt d said i0 j all i0 j) said)) := by
  have hj : stepJ p corrupt d said i0 j all i0 j = all i0 j := by unfold stepJ; rw [if_neg (fun h' => by omega)]
  rw [hj]
  funext i' j'
  by_cases e0 : i' = i0
  · subst e0
    rw [upd_same]
    by_cases e : j' = j
    · subst e
      rw [upd_same]; unfold stepJ; rw [if_pos ⟨rfl, by omega, h⟩]
    · rw [upd_ne _ _ e]
      unfold stepJ
      by_cases e2 : j' < j
      · simp [e2, show j' < j + 1 by omega]
      · simp [e2, show ¬ j' < j + 1 by omega]
  · rw [upd_ne _ _ e0]; unfold stepJ; rw [if_neg (fun h' => e0 h'.1), if_neg (fun h' => e0 h'.1)]
theorem stepJ_N {p N : Nat} {corrupt : List Int} {round : Int} {d : Dev} {out all : Nat → Nat → List Nat} (hd : d.round = round ∧ d.src ∈ corrupt) {i0 : Nat} (hi : (i0 : Int) + 1 = d.src) :
    ∀ i j, i < N → j < N → stepJ p corrupt d (if d.kind = 3 then out (d.of - 1).toNat i0 else []) i0 N all i j = stepM p corrupt round out all d i j := fun i j hiN hj => by
  unfold stepJ stepM
  rw [if_pos hd]
  by_cases e : i = i0
  · subst e
    simp only [hj, true_and, hi]
  · rw [if_neg (fun h => e h.1)]
    rw [if_neg (fun h => by have := h.1; omega)]
theorem stepJ_ok {p L : Nat} (hp : 0 < p) {corrupt : List Int} {d : Dev} {said : List Nat} {i0 j : Nat} {all : Nat → Nat → List Nat} {i' j' : Nat} (h : OkM p L (all i' j')) : OkM p L (stepJ p corrupt d said i0 j all i' j') := by
  unfold stepJ
  split
  · exact uponL_ok hp h
  · exact h
theorem crrinfo : (Tryd.prog.info? 27).map (fun i => (i.zero, i.size, i.bytes)) = some (some (.slice none 0 0), 1, 24) := by kernel_rfl
theorem Bl.grown {w w' : World} (h : Bl w w') (row : Option Nat) : w.grownBy w' row := ⟨h.os, h.tape, h.output, h.size, fun b hb _ => h.block b hb⟩

theorem applyM_succ (p : Nat) (corrupt : List Int) (round : Int) (devs : List Dev) (out : Nat → Nat → List Nat) {k : Nat} {d : Dev} (h : devs[k]? = some d) : applyM p corrupt round (devs.take (k + 1)) out = stepM p corrupt round out (applyM p corrupt round (devs.take k) out) d := by
  unfold applyM
  rw [List.take_add_one, h]; simp
def ApplyP (p N : Nat) (corrupt : List Int) (round : Int) (devs : List Dev) (out : Nat → Nat → List Nat) (S : Nat → Prop) (w : World) (e : Ending) (w' : World) : Prop :=
  Bl w w' ∧ ∃ v', e = .returned v' ∧ (kS (kS (kS kU))).R w' (fun b => S b ∨ w.heap.size ≤ b) [v'] (mat N (applyM p corrupt round devs out))
set_option maxHeartbeats 4000000 in
set_option maxRecDepth 100000 in
theorem apply_any (p N : Nat) (t : Int) (vc vd vt v : Value) (corrupt : List Int) (devs : List Dev) (round : Int) (out : Nat → Nat → List Nat) (S S' S'' : Nat → Prop) (w : World) (hp : IsP p) (hc : (kS kI).R w S [vc] corrupt) (hd : (kS kDev).R w S' [vd] devs)
    (hr : (kS (kS (kS kU))).R w S'' [v] (mat N out)) (hN : N ≤ 1000) (hdv : ∀ d, d ∈ devs → DevV N d) (hok : ∀ i j, i < N → j < N → OkM p 1000000 (out i j)) :
    Calls Tryd.prog 63 #[scVal p N t vc vd vt, .int .i64 round, v] w fun e w' => ApplyP p N corrupt round devs out S'' w e w' := by
  have hclow := (kS kI).low hc
  have hdlow := (kS kDev).low hd
  have hr2 : (kS (kS (kS kU))).R w (fun b => S'' b ∧ b < w.heap.size) [v] (mat N out) := (kS (kS (kS kU))).sub hr fun b hb hs => ⟨hs, hb⟩
  obtain ⟨A, c, rfl, ⟨hl1, hl2⟩, hrow⟩ := rd_open rfl hr2
  rw [mat_len] at hl1
  have hrow' : ∀ k, k < N → ∃ ad u, A = some ad ∧ (kS (kS kU)).R w (fun b => S'' b ∧ b < w.heap.size) [u] (row1 N (out k)) ∧ w.cell? (ad.add k) = some u := fun k hk => by
    obtain ⟨ad, u, h1, _, h3, h4⟩ := hrow k _ (mat_at out hk)
    exact ⟨ad, u, h1, h3, h4⟩
  have HROW := hide hrow'; clear hrow hrow' hr hr2
  obtain ⟨Ad, cd, rfl, ⟨hd1, hd2⟩, hdc⟩ := rdDev hdlow
  obtain ⟨D, hD⟩ : ∃ D, D = devs.length := ⟨_, rfl⟩
  rw [← hD] at hd1 ⊢
  rw [mat_len]
  have HD := hide hD; clear hD
  have HDC := hide hdc; clear hdc hd hdlow
  have HCL := hide hclow; clear hclow hc
  have HDV := hide hdv; clear hdv
  have HOK := hide hok; clear hok
  simp only [scVal]
  go_enter Tryd.func63, Tryd.ntmps63
  go_wp2_with (at_make; refine Ow.make kV (w0 := w.alloc (.cells #[.int .u64 p, .int .i64 N, .int .i64 t, vc, .slice Ad D cd, vt] 29)) (w.heap.size + 1) rfl _ _ 75 27 (.slice none 0 0) 24 rfl Tryd.underlying75 crrinfo rfl rfl N rfl rfl (by omega) (by decide) (.slice none 0 0) (fun _ _ => ⟨rfl, rfl⟩) (Below.refl _ _) (by rw [Dr.alloc_heap, Array.size_push]; exact Nat.le_refl _) ?_)
  intro w1 hO hB1 hBl1
  obtain ⟨g0, hg0⟩ : ∃ g0, g0 = w.heap.size + 1 := ⟨_, rfl⟩
  have hO' : Ow kV w1 g0 27 (.slice (some ⟨g0, 0, none⟩) N N) (List.replicate N (.slice none 0 0)) := by
    rw [hg0]; exact hO
  rw [← hg0] at hB1 ⊢
  have hBw : Bl w w1 := ((Below.refl w.heap.size w).alloc (Nat.le_refl _) _).trans (hB1.mono (by omega))
  have hbx : ∀ i u, (#[.int .u64 p, .int .i64 N, .int .i64 t, vc, .slice Ad D cd, vt] : Array Value)[i]? = some u → w1.cell? ⟨w.heap.size, i, none⟩ = some u := fun i u hu => by
    rw [hB1.cell (by show w.heap.size < g0; omega), World.cell?_alloc_at _ _ _ _ rfl]; exact hu
  have hRA : RowAt w1 g0 27 N (fun _ => .slice none 0 0) := hO'.rowAtV.congr fun i hi => getD_rep _ _ _ _ hi
  have hI0 := Rws.start (F := fun b => S'' b ∨ w.heap.size ≤ b) (B := g0) (kS kU) 30 hRA (.inr (by omega)) (Nat.le_refl _)
  have HBX := hide hbx; clear hbx
  have HG0 := hide hg0; clear hg0
  have HI0 := hide hI0; clear hI0
  clear hO hO' hRA hBl1 hB1
  have HBW := hide hBw; clear hBw
  go_wp2_with fail
  go_loopw [19] (fun i wr => ∃ k : Nat, k ≤ N ∧ i = .int .i64 k ∧ Below g0 w1 wr ∧ ∃ vs, Rws (kS kU) wr (fun b => S'' b ∨ w.heap.size ≤ b) g0 g0 N 27 30 vs (fun i => if i < k then row1 N (out i) else [])) (fun i _ => N - (intOf i).toNat)
  case atStart => exact ⟨0, by omega, rfl, Below.refl _ _, _, HI0.out.congr fun i hi => by simp⟩
  case round =>
    obtain ⟨k, hk, rfl, hB, vs, hI⟩ := hrel
    by_cases hkN : k < N
    · as_aux_lemma =>
      have hBwr : Bl w wr := HBW.out.trans (hB.mono (by have := HG0.out; omega))
      obtain ⟨ad, u, rfl, hu, hcell⟩ := HROW.out k hkN
      have hcell := cell_bl hBwr hcell
      obtain ⟨Au, cu, rfl, hlu⟩ := kS_len hu
      rw [row1_len] at hlu hu hcell
      have hu' : (kS (kT (kS kU) (fun b => S'' b ∧ b < w.heap.size))).R wr (fun b => S'' b ∧ b < w.heap.size) [.slice Au N cu] (row1 N (out k)) := kS_T ((kS (kS kU)).kp hu fun b hb hs => hBwr.block b hs.2) fun b hb => hb
      have hcl := clone_rowsT (fun b => S'' b ∧ b < w.heap.size) (.slice Au N cu) (row1 N (out k)) _ wr hu' (by rw [row1_len]; omega)
      have hki : (k : Int) < (N : Int) := by omega
      have hk0 : (0 : Int) ≤ (k : Int) := by omega
      have hco := hI.out.cell hkN
      have hfo := hI.out.free k
      have hlt := hI.out.lt
      have HCLN := hide hcl; clear hcl hu hu'
      have HI := hide hI; clear hI
      have HB := hide hB; clear hB
      go_wp2_with fail
      refine HCLN.out.mono ?_
      rintro e w2 ⟨v2, rfl, hO2, hB2⟩
      obtain ⟨A2, c2, rfl, hl2, _⟩ := hO2.slice
      simp only [row1_len] at hO2 hl2 ⊢
      have hco2 := cell_bl hB2 hco
      have hfo2 := free_bl hB2 hco hfo
      have hO3 : Ow (kT (kS kU) (Far (fun b => S'' b ∨ w.heap.size ≤ b) g0 N vs)) w2 g0 30 (.slice A2 N c2) (row1 N (out k)) := (hO2.mono (Nat.le_trans (Nat.le_of_lt hlt) (by omega))).monoT fun b hb hT => ⟨.inl hT.1, by have := HG0.out; omega, fun i hi e => by have := (HI.out.lt hi e).1; have := HG0.out; omega⟩
      have hst := Rws.store HI.out hkN (hB2.grown _) hO3 (fun b hb => .inr (hO2.base b hb).1) (fun g hg => .inr (by have := (hO3.base g hg).1; have := HG0.out; omega))
      have hst' := hst.congr (X' := fun i => if i < k + 1 then row1 N (out i) else []) fun i hi => by
        unfold upd
        by_cases e : i = k
        · subst e; simp
        · dsimp only
          rw [if_neg e]
          by_cases e2 : i < k
          · rw [if_pos e2, if_pos (by omega)]
          · rw [if_neg e2, if_neg (by omega)]
      have hB3 : Below g0 w1 (w2.setCell ⟨g0, k, none⟩ (.slice A2 N c2)) := (HB.out.trans (hB2.mono (Nat.le_of_lt hlt))).setCell (Nat.le_refl _) _
      have HST := hide hst'; clear hst hst'
      have HB3 := hide hB3; clear hB3 hO2 hO3 hB2
      go_wp2_with fail
      go_round
      case rel => exact ⟨k + 1, by omega, by go_num, HB3.out, _, HST.out⟩
      case measure => simp [intOf]; omega
    · obtain rfl : N = k := by omega
      have hI := hI.congr (X' := fun i => row1 N (applyM p corrupt round (devs.take 0) out i)) fun i hi => by simp [hi, applyM]
      have hg0l := HI0.out.out.lt
      have HG0L := hide hg0l; clear hg0l
      clear HI0
      have b4 : wr.cell? ⟨w.heap.size, 4, none⟩ = some (.slice Ad D cd) := (hB.cell (by have := HG0.out; show w.heap.size < g0; omega)).trans (HBX.out 4 _ rfl)
      have HI := hide hI; clear hI
      have HB := hide hB; clear hB
      go_wp2_with fail
      clear b4
      go_loopw [33] (fun i wr => ∃ k : Nat, k ≤ D ∧ i = .int .i64 k ∧ Below g0 w1 wr ∧ Rws (kS kU) wr (fun b => S'' b ∨ w.heap.size ≤ b) g0 g0 N 27 30 vs (fun i => row1 N (applyM p corrupt round (devs.take k) out i))) (fun i _ => D - (intOf i).toNat)
      case atStart => exact ⟨0, by omega, rfl, HB.out, HI.out⟩
      case round => as_aux_lemma =>
        clear HI HB
        obtain ⟨k, hk, rfl, hB, hI⟩ := hrel
        have hBwr : Bl w wr := HBW.out.trans (hB.mono (by have := HG0.out; omega))
        by_cases hkD : k < D
        · have hkd : k < devs.length := by rw [← HD.out]; exact hkD
          obtain ⟨ad, rfl, _, hok, hdc⟩ := HDC.out k devs[k] (List.getElem?_eq_getElem hkd)
          have hsu := applyM_succ p corrupt round devs out (List.getElem?_eq_getElem hkd)
          have hDV := HDV.out devs[k] (List.getElem_mem hkd)
          obtain ⟨d, hd⟩ : ∃ d, d = devs[k] := ⟨_, rfl⟩
          rw [← hd] at hok hdc hsu hDV
          clear hd
          have HSU := hide hsu; clear hsu
          have hdw : ∀ t u, d.cells[t]? = some u → wr.cell? (ad.add (k * 8 + t)) = some u := fun t u hu => cell_bl hBwr (hdc t u hu)
          clear hdc
          have hki : (k : Int) < (D : Int) := by omega
          have hk0 : (0 : Int) ≤ (k : Int) := by omega
          have hs : ∀ i u, (#[.int .u64 p, .int .i64 N, .int .i64 t, vc, .slice (some ad) D cd, vt] : Array Value)[i]? = some u → wr.cell? ⟨w.heap.size, i, none⟩ = some u := fun i u hu => (hB.cell (by have := HG0.out; show w.heap.size < g0; omega)).trans (HBX.out i u hu)
          have hdn := fun W (h : Bl w W) => done_any p N t vc (.slice (some ad) D cd) vt corrupt d round _ W ((kS kI).bl HCL.out h)
          obtain ⟨r, s, dd, a, kd, kk, o, ii⟩ := d
          have d0 := hdw 0 _ rfl
          have d1 := hdw 1 _ rfl
          have d2 := hdw 2 _ rfl
          have d3 := hdw 3 _ rfl
          have d4 := hdw 4 _ rfl
          have d5 := hdw 5 _ rfl
          have d6 := hdw 6 _ rfl
          have d7 := hdw 7 _ rfl
          rw [add_at _ _ _ (by omega)] at d1 d2 d3 d4 d5 d6 d7
          rw [Nat.add_zero] at d0
          have s0 := hs 0 _ rfl
          have s1 := hs 1 _ rfl
          have s2 := hs 2 _ rfl
          have s3 := hs 3 _ rfl
          have s4 := hs 4 _ rfl
          have s5 := hs 5 _ rfl
          have hwne : w.heap.size < wr.heap.size := World.block_lt_of_cell? _ _ s0
          clear hdw hs
          simp only [Dev.val, scVal] at hdn
          have HDN := hide hdn; clear hdn
          have hBd : Bl w (wr.alloc (.cells #[.int .i64 r, .int .i64 s, .int .i64 dd, .int .i64 a, .int .i64 kd, .int .u64 kk, .int .i64 o, .int .i64 ii] 99)) := hBwr.alloc hBwr.size _
          have HBD := hide hBd; clear hBd
          have HI := hide hI; clear hI
          have HB := hide hB; clear hB
          have HDV1 := hide hDV; clear hDV
          have HOK1 := hide hok; clear hok
          by_cases hdo : r = round ∧ s ∈ corrupt
          · have hb : (decide (r = round) && decide (s ∈ corrupt)) = true := by simp [hdo]
            rw [hb] at HDN
            have HDO := hide hdo; clear hb hdo
            go_wp2_with fail
            refine (HDN.out _ HBD.out).mono ?_
            rintro e w2 ⟨rfl, hB2⟩
            obtain ⟨i0, rfl⟩ : ∃ i0 : Nat, s = (i0 : Int) + 1 := ⟨(s - 1).toNat, by have := HDV1.out.s1; simp only at this; omega⟩
            have hi0N : i0 < N := by have := HDV1.out.s2; simp only at this; omega
            have hal : Bl wr (wr.alloc (.cells #[.int .i64 r, .int .i64 ((i0 : Int) + 1), .int .i64 dd, .int .i64 a, .int .i64 kd, .int .u64 kk, .int .i64 o, .int .i64 ii] 99)) := (Below.refl _ _).alloc (Nat.le_refl _) _
            have hg0r := HI.out.out.lt
            have hBr2 : Bl wr w2 := Bl.then hal hal.size hB2
            have hI2 := HI.out.bl hBr2
            have hB3 : Below g0 w1 w2 := HB.out.trans (hBr2.mono (Nat.le_of_lt hg0r))
            have hBw2 : Bl w w2 := hBwr.trans (hBr2.mono hBwr.size)
            have t0 := cell_bl hBr2 s0
            have t1 := cell_bl hBr2 s1
            have t2 := cell_bl hBr2 s2
            have t3 := cell_bl hBr2 s3
            have t4 := cell_bl hBr2 s4
            have t5 := cell_bl hBr2 s5
            have hev : ∀ i u, (#[.int .i64 r, .int .i64 ((i0 : Int) + 1), .int .i64 dd, .int .i64 a, .int .i64 kd, .int .u64 kk, .int .i64 o, .int .i64 ii] : Array Value)[i]? = some u → w2.cell? ⟨wr.heap.size, i, none⟩ = some u := fun i u hu => cell_bl hB2 (by rw [World.cell?_alloc_at _ _ _ _ rfl]; exact hu)
            have e0 := hev 0 _ rfl
            have e1 := hev 1 _ rfl
            have e2 := hev 2 _ rfl
            have e3 := hev 3 _ rfl
            have e4 := hev 4 _ rfl
            have e5 := hev 5 _ rfl
            have e6 := hev 6 _ rfl
            have e7 := hev 7 _ rfl
            clear hev d0 d1 d2 d3 d4 d5 d6 d7 s0 s1 s2 s3 s4 s5 hwne
            obtain ⟨bd, hbd⟩ : ∃ bd, bd = wr.heap.size := ⟨_, rfl⟩
            rw [← hbd] at e0 e1 e2 e3 e4 e5 e6 e7 ⊢
            have hbdl : bd < w2.heap.size := World.block_lt_of_cell? _ _ e0
            obtain ⟨rb, cr, hvi, hrb1, hrb2⟩ := HI.out.form hi0N (by rw [row1_len]; omega)
            rw [row1_len] at hvi
            have hc0 := hI2.out.cell hi0N
            rw [hvi] at hc0
            have hrbd : rb ≠ bd := by omega
            have hgbd : g0 ≠ bd := by omega
            have HBD2 := hide hbd; clear hbd
            have HBR := hide hBr2; clear hBr2 hal hB2
            have HI2 := hide hI2; clear hI2
            have HB3 := hide hB3; clear hB3
            have HBW2 := hide hBw2; clear hBw2
            have HVI := hide hvi; clear hvi
            have HRB := hide (And.intro hrb1 hrb2); clear hrb1 hrb2
            have HI0 := hide hi0N; clear hi0N
            have HNE := hide (And.intro hrbd hgbd); clear hrbd hgbd
            have HBDL := hide hbdl; clear hbdl hg0r
            have hi0i : (i0 : Int) < (N : Int) := by have := HI0.out; omega
            have hi00 : (0 : Int) ≤ (i0 : Int) := by omega
            clear HBD HDN HI
            go_upto_if 44 with fail
            go_cut [12] (fun s12 wx => Dr w2 wx ∧ (kS kU).R w2 (fun b => b < w.heap.size) [s12] (if kd = 3 then out (o - 1).toNat i0 else []))
            case first => as_aux_lemma =>
              by_cases hk3 : kd = 3
              · subst hk3
                obtain ⟨o0, rfl⟩ : ∃ o0 : Nat, o = (o0 : Int) + 1 := ⟨(o - 1).toNat, by have := (HDV1.out.o rfl).1; simp only at this; omega⟩
                have ho0 : o0 < N := by have := (HDV1.out.o rfl).2; simp only at this; omega
                obtain ⟨ad', u, rfl, hu, hcell⟩ := HROW.out o0 ho0
                have hcell := cell_bl HBW2.out hcell
                have hu2 := (kS (kS kU)).kp hu fun b hb hs => HBW2.out.block b hs.2
                obtain ⟨Au, cu, rfl, hlu, hcu⟩ := rd_open rfl hu2
                simp only [row1_len] at hcell hlu
                obtain ⟨adu, x, rfl, _, hx, hcx⟩ := hcu i0 _ (row1_at (out o0) HI0.out)
                have hx2 : (kS kU).R w2 (fun b => b < w.heap.size) [x] (if (3 : Int) = 3 then out ((o0 : Int) + 1 - 1).toNat i0 else []) := by
                  rw [if_pos rfl, show ((o0 : Int) + 1 - 1).toNat = o0 by omega]
                  exact (kS kU).sub hx fun b _ hb => hb.2
                have HX2 := hide hx2; clear hx2 hx hu hu2 hcu
                have hoi : (o0 : Int) < (N : Int) := by omega
                have hoi0 : (0 : Int) ≤ (o0 : Int) := by omega
                go_wp2_with fail
                go_quiet (fail)
                go_wp2_with fail
                go_meet
                exact ⟨⟨_, rfl⟩, HX2.out⟩
              · have hk3b : (kd == 3) = false := by simpa using hk3
                have HK3 := hide hk3; clear hk3
                go_wp2_with fail
                go_meet
                exact ⟨Dr.refl _, by rw [if_neg HK3.out]; exact kS_nil _ _ _⟩
            case rest => as_aux_lemma =>
              obtain ⟨hDr, hsd⟩ := hcut
              obtain ⟨said, hsaid⟩ : ∃ said, said = (if kd = 3 then out (o - 1).toNat i0 else []) := ⟨_, rfl⟩
              rw [← hsaid] at hsd
              have hspn : ∀ x, x ∈ said → x < p := by
                rw [hsaid]; split
                · rename_i h3
                  have h1 := (HDV1.out.o h3).1
                  have h2 := (HDV1.out.o h3).2
                  simp only at h1 h2
                  exact (HOK.out _ _ (by omega) HI0.out).1
                · intro x hx; simp at hx
              have HSAID := hide hsaid; clear hsaid
              obtain ⟨As, cs, rfl, _, _⟩ := kS_len hsd
              have hIc := HI2.out.dr hDr
              have hstart : Rws (kS kU) wc (fun b => S'' b ∨ w.heap.size ≤ b) g0 g0 N 27 30 vs (fun i => row1 N (stepJ p corrupt ⟨r, (i0 : Int) + 1, dd, a, kd, kk, o, ii⟩ said i0 0 (applyM p corrupt round (devs.take k) out) i)) := by rw [stepJ_0]; exact hIc
              have hc0c := (hDr.cell _).trans hc0
              have HSD := hide hsd; clear hsd
              have HST := hide hstart; clear hstart
              have HSPN := hide hspn; clear hspn
              have HDR := hide hDr; clear hDr hIc
              have e1c := (HDR.out.cell _).trans e1
              clear hc0
              have E0 := hide e0; have E1 := hide e1; have E2 := hide e2; have E3 := hide e3; have E4 := hide e4; have E5 := hide e5; have E6 := hide e6; have E7 := hide e7
              have T0 := hide t0; have T1 := hide t1; have T2 := hide t2; have T3 := hide t3; have T4 := hide t4; have T5 := hide t5
              clear e0 e1 e2 e3 e4 e5 e6 e7 t0 t1 t2 t3 t4 t5
              go_wp2_with fail
              go_loopw [63] (fun i wx => ∃ j : Nat, j ≤ N ∧ i = .int .i64 j ∧ Fp (fun b => b = rb) wc wx ∧ Rws (kS kU) wx (fun b => S'' b ∨ w.heap.size ≤ b) g0 g0 N 27 30 vs (fun i => row1 N (stepJ p corrupt ⟨r, (i0 : Int) + 1, dd, a, kd, kk, o, ii⟩ said i0 j (applyM p corrupt round (devs.take k) out) i))) (fun i _ => N - (intOf i).toNat)
              case atStart => exact ⟨0, by omega, rfl, Fp.refl _ _, HST.out⟩
              case round => as_aux_lemma =>
                clear HST
                obtain ⟨j, hj, rfl, hF, hI⟩ := hrel
                have hFc : ∀ {b i : Nat} {u : Value}, w2.cell? ⟨b, i, none⟩ = some u → b ≠ rb → wr.cell? ⟨b, i, none⟩ = some u := fun {b i u} h hne => by
                  have h1 := (HDR.out.cell _).trans h
                  rw [World.cell?_of_block (w := wc) (hF.block b (World.block_lt_of_cell? _ _ h1) hne)]; exact h1
                have hBx : Bl w wr := (Bl.dr HBW2.out HDR.out).trans (hF.below (Nat.le_trans HBW2.out.size (by rw [HDR.out.heap]; exact Nat.le_refl _)) fun b hb e => by have := HRB.out; have := HG0.out; omega)
                have hbn : bd ≠ rb := fun e => HNE.out.1 e.symm
                have hwn : w.heap.size ≠ rb := by have := HRB.out; have := HG0.out; omega
                have f0 := hFc E0.out hbn
                have f1 := hFc E1.out hbn
                have f2 := hFc E2.out hbn
                have f3 := hFc E3.out hbn
                have f4 := hFc E4.out hbn
                have f5 := hFc E5.out hbn
                have f6 := hFc E6.out hbn
                have f7 := hFc E7.out hbn
                have q0 := hFc T0.out hwn
                have q1 := hFc T1.out hwn
                have q2 := hFc T2.out hwn
                have q3 := hFc T3.out hwn
                have q4 := hFc T4.out hwn
                have q5 := hFc T5.out hwn
                clear hFc
                have hh := hI.out.cell HI0.out
                rw [HVI.out] at hh
                by_cases hjN : j < N
                · have hji : (j : Int) < (N : Int) := by omega
                  have hj0 : (0 : Int) ≤ (j : Int) := by omega
                  have HI := hide hI; clear hI
                  have HF := hide hF; clear hF
                  by_cases hsk : ((j : Int) + 1 ≠ (i0 : Int) + 1 ∧ (dd = 0 ∨ dd = (j : Int) + 1))
                  · have hrow := HI.out.row i0 HI0.out
                    rw [HVI.out] at hrow
                    obtain ⟨u, hcu, hfu, hku⟩ := hrow.at_ rfl j _ (row1_at _ hjN)
                    have hl := HOK.out i0 j HI0.out hjN
                    obtain ⟨M, hM⟩ : ∃ M, M = stepJ p corrupt ⟨r, (i0 : Int) + 1, dd, a, kd, kk, o, ii⟩ said i0 j (applyM p corrupt round (devs.take k) out) := ⟨_, rfl⟩
                    have hMok : OkM p 1000000 (M i0 j) := by rw [hM]; exact stepJ_ok (by have := hp.lo; omega) (applyM_ok (by have := hp.lo; omega) _ hl)
                    have hdo := stepJ_do (p := p) (corrupt := corrupt) (d := ⟨r, (i0 : Int) + 1, dd, a, kd, kk, o, ii⟩) (said := said) (i0 := i0) (j := j) (all := applyM p corrupt round (devs.take k) out) hsk
                    rw [← hM] at hdo hku
                    have hku' : (kS kU).R wr (fun b => Ne (some rb) b ∧ Far (fun b => S'' b ∨ w.heap.size ≤ b) g0 N vs b) [u] (M i0 j) := hku
                    have hux : (kS kU).R wr.drew (Far (fun b => S'' b ∨ w.heap.size ≤ b) g0 N vs) [u] (M i0 j) := (kS kU).kp ((kS kU).sub hku' fun b _ hb => hb.2) ((Dr.one (Dr.refl wr)).kp _)
                    have hup := upon_any p N t vc (.slice (some ad) D cd) vt u (.slice As said.length cs) corrupt ⟨r, (i0 : Int) + 1, dd, a, kd, kk, o, ii⟩ (M i0 j) said _ _ _ wr.drew hp ((kS kI).bl HCL.out (Bl.dr hBx (Dr.one (Dr.refl _)))) hux
                      ((kS kU).kp HSD.out fun b hb hs => by
                        have h1 : wr.heap[b]? = w.heap[b]? := hBx.block b hs
                        have h2 : w2.heap[b]? = w.heap[b]? := HBW2.out.block b hs
                        exact h1.trans h2.symm)
                      hMok.1 HSPN.out HDV1.out.at0 HOK1.out.k (by have := hMok.2; omega)
                    simp only [Dev.val, scVal] at hup
                    have HUP := hide hup; clear hup
                    have HCU := hide hcu; have HFU := hide hfu
                    have hjn : ((j : Int) + 1 != (i0 : Int) + 1) = true := by rw [bne_iff_ne]; exact hsk.1
                    have hjn2 : ((j : Int) + 1 == (i0 : Int) + 1) = false := by rw [beq_eq_false_iff_ne]; exact hsk.1
                    have hjn3 : ¬ ((j : Int) = (i0 : Int)) := by have := hsk.1; omega
                    have HM := hide hM; have HMOK := hide hMok; have HDO := hide hdo
                    clear hM hMok hdo hku hku' hux hrow hl hcu hfu
                    have hbne1 : rb ≠ g0 := by have := (HI.out.sep i0 rb HI0.out (by rw [HVI.out]; rfl)).1; exact this
                    have hlt : rb < wr.heap.size := (HI.out.lt HI0.out (by rw [HVI.out]; rfl)).2
                    have hd2 := hsk.2
                    have HSK := hide hsk; clear hsk
                    have hlast : ∀ (w5 : World) (v5 : Value), Bl wr.drew w5 → (kS kU).R w5 (fun b => Far (fun b => S'' b ∨ w.heap.size ≤ b) g0 N vs b ∨ wr.drew.heap.size ≤ b) [v5] (uponL p corrupt ⟨r, (i0 : Int) + 1, dd, a, kd, kk, o, ii⟩ (M i0 j) said) →
                        Fp (fun b => b = rb) wc (w5.setCell ⟨rb, j, none⟩ v5) ∧ Rws (kS kU) (w5.setCell ⟨rb, j, none⟩ v5) (fun b => S'' b ∨ w.heap.size ≤ b) g0 g0 N 27 30 vs (fun i => row1 N (stepJ p corrupt ⟨r, (i0 : Int) + 1, dd, a, kd, kk, o, ii⟩ said i0 (j + 1) (applyM p corrupt round (devs.take k) out) i)) := fun w5 v5 hB5 hr5 => by
                      have hBr5 : Bl wr w5 := (Bl.dr (Below.refl _ _) (Dr.one (Dr.refl _))).trans hB5
                      refine ⟨(HF.out.bl hBr5).set v5 (.inl rfl), ?_⟩
                      have hI5 := HI.out.bl hBr5
                      rw [← HM.out] at hI5
                      have := Rws.put rfl hI5 (i := i0) (j := j) (u := v5) (x := uponL p corrupt ⟨r, (i0 : Int) + 1, dd, a, kd, kk, o, ii⟩ (M i0 j) said) HI0.out HVI.out (by rw [row1_len]; exact hjN) ((kS kU).sub hr5 fun b hb hT => by
                        rcases hT with hT | hT
                        · exact hT
                        · have hT : wr.heap.size ≤ b := hT
                          refine ⟨.inr (Nat.le_trans hBx.size hT), by have := HI.out.out.lt; omega, fun i hi e => by have := (HI.out.lt hi e).2; omega⟩)
                      refine this.congr fun i hi => ?_
                      rw [HDO.out]
                      by_cases e : i = i0
                      · subst e; rw [upd_same, upd_same, row1_set _ hjN]
                      · rw [upd_ne _ _ e, upd_ne _ _ e]
                    have HLAST := hide hlast; clear hlast
                    have hwi : IntKind.i64.wrap ((i0 : Int)) = (i0 : Int) := by rw [IntWalk.i64_in _ (by omega)]
                    have hj1z : ¬ ((j : Int) + 1 = 0) := by omega
                    rcases hd2 with rfl | rfl
                    · as_aux_lemma =>
                      go_wp2_with fail
                      refine wp_region_last (n := 21) (fun w' => w'.cell? ⟨g0, i0, none⟩ = some (.slice (some ⟨rb, 0, none⟩) N cr) ∧ w'.cell? ⟨rb, j, none⟩ = some u ∧ w'.cell? ⟨bd, 0, none⟩ = some (.int .i64 r) ∧ w'.cell? ⟨bd, 1, none⟩ = some (.int .i64 ((i0 : Int) + 1)) ∧ w'.cell? ⟨bd, 2, none⟩ = some (.int .i64 0) ∧ w'.cell? ⟨bd, 3, none⟩ = some (.int .i64 a) ∧ w'.cell? ⟨bd, 4, none⟩ = some (.int .i64 kd) ∧ w'.cell? ⟨bd, 5, none⟩ = some (.int .u64 (kk : Int)) ∧ w'.cell? ⟨bd, 6, none⟩ = some (.int .i64 o) ∧ w'.cell? ⟨bd, 7, none⟩ = some (.int .i64 ii) ∧ w'.cell? ⟨w.heap.size, 0, none⟩ = some (.int .u64 (p : Int)) ∧ w'.cell? ⟨w.heap.size, 1, none⟩ = some (.int .i64 (N : Int)) ∧ w'.cell? ⟨w.heap.size, 2, none⟩ = some (.int .i64 t) ∧ w'.cell? ⟨w.heap.size, 3, none⟩ = some vc ∧ w'.cell? ⟨w.heap.size, 4, none⟩ = some (.slice (some ad) D cd) ∧ w'.cell? ⟨w.heap.size, 5, none⟩ = some vt) (by kernel_rfl) (by kernel_rfl) (by kernel_rfl) rfl ⟨hh, HCU.out, f0, f1, f2, f3, f4, f5, f6, f7, q0, q1, q2, q3, q4, q5⟩ (fun hHeld => ?_)
                      refine wpAnyH_take (i := 0) (oi := { dst := some 83, op := Go.Op.move (Go.Operand.tmp 7), type := 75, pos := _, after := _, guard := none }) (v := ?_) rfl (by kernel_rfl) (by kernel_rfl) (by kernel_rfl) (fun _ _ _ h => h) (Or.inl ⟨by rfl, ?_⟩) (by assumption) ?_
                      rotate_left
                      · (intro w hSw; (try dsimp only at hSw); go_simp; (try (with_reducible rfl)))
                      try simp only [Act.put, List.setIfInBounds_toArray, List.set_cons_zero, List.set_cons_succ]
                      refine wpAnyH_take (i := 1) (oi := { dst := some 84, op := Go.Op.fieldAddr 99 (Go.Operand.tmp 11) 1, type := 0, pos := _, after := _, guard := none }) (v := ?_) rfl (by kernel_rfl) (by kernel_rfl) (by kernel_rfl) (fun _ _ _ h => h) (Or.inl ⟨by rfl, ?_⟩) (by assumption) ?_
                      rotate_left
                      · (intro w hSw; (try dsimp only at hSw); go_simp; (try (with_reducible rfl)))
                      try simp only [Act.put, List.setIfInBounds_toArray, List.set_cons_zero, List.set_cons_succ]
                      refine wpAnyH_take (i := 2) (oi := { dst := some 85, op := Go.Op.load 3 (Go.Operand.tmp 84), type := 3, pos := _, after := _, guard := none }) (v := ?_) rfl (by kernel_rfl) (by kernel_rfl) (by kernel_rfl) (fun _ _ _ h => h) (Or.inl ⟨by rfl, ?_⟩) (by assumption) ?_
                      rotate_left
                      · (intro w hSw; (try dsimp only at hSw); go_simp; (try (with_reducible rfl)))
                      try simp only [Act.put, List.setIfInBounds_toArray, List.set_cons_zero, List.set_cons_succ]
                      refine wpAnyH_take (i := 3) (oi := { dst := some 86, op := Go.Op.binOp Go.BinOp.sub 3 (Go.Operand.tmp 85) (Go.Operand.const (Go.Value.int Go.IntKind.i64 1)) 3, type := 3, pos := _, after := _, guard := none }) (v := ?_) rfl (by kernel_rfl) (by kernel_rfl) (by kernel_rfl) (fun _ _ _ h => h) (Or.inl ⟨by rfl, ?_⟩) (by assumption) ?_
                      rotate_left
                      · (intro w hSw; (try dsimp only at hSw); go_simp; (try (with_reducible rfl)))
                      try simp only [Act.put, List.setIfInBounds_toArray, List.set_cons_zero, List.set_cons_succ]
                      refine wpAnyH_take (i := 4) (oi := { dst := some 87, op := Go.Op.indexAddr 75 (Go.Operand.tmp 83) (Go.Operand.tmp 86), type := 0, pos := _, after := _, guard := none }) (v := ?_) rfl (by kernel_rfl) (by kernel_rfl) (by kernel_rfl) (fun _ _ _ h => h) (Or.inl ⟨by rfl, ?_⟩) (by assumption) ?_
                      rotate_left
                      · (intro w hSw; (try dsimp only at hSw); go_simp; (try (with_reducible rfl)))
                      try simp only [Act.put, List.setIfInBounds_toArray, List.set_cons_zero, List.set_cons_succ]
                      refine wpAnyH_take (i := 5) (oi := { dst := some 88, op := Go.Op.load 27 (Go.Operand.tmp 87), type := 27, pos := _, after := _, guard := none }) (v := ?_) rfl (by kernel_rfl) (by kernel_rfl) (by kernel_rfl) (fun _ _ _ h => h) (Or.inl ⟨by rfl, ?_⟩) (by assumption) ?_
                      rotate_left
                      · (intro w hSw; (try dsimp only at hSw); go_simp; (try (with_reducible rfl)))
                      try simp only [Act.put, List.setIfInBounds_toArray, List.set_cons_zero, List.set_cons_succ]
                      refine wpAnyH_take (i := 6) (oi := { dst := some 89, op := Go.Op.move (Go.Operand.tmp 13), type := 3, pos := _, after := _, guard := none }) (v := ?_) rfl (by kernel_rfl) (by kernel_rfl) (by kernel_rfl) (fun _ _ _ h => h) (Or.inl ⟨by rfl, ?_⟩) (by assumption) ?_
                      rotate_left
                      · (intro w hSw; (try dsimp only at hSw); go_simp; (try (with_reducible rfl)))
                      try simp only [Act.put, List.setIfInBounds_toArray, List.set_cons_zero, List.set_cons_succ]
                      refine wpAnyH_take (i := 7) (oi := { dst := some 90, op := Go.Op.load 29 (Go.Operand.tmp 3), type := 29, pos := _, after := _, guard := none }) (v := ?_) rfl (by kernel_rfl) (by kernel_rfl) (by kernel_rfl) (fun _ _ _ h => h) (Or.inl ⟨by rfl, ?_⟩) (by assumption) ?_
                      rotate_left
                      · (intro w hSw; (try dsimp only at hSw); go_simp; (try (with_reducible rfl)))
                      try simp only [Act.put, List.setIfInBounds_toArray, List.set_cons_zero, List.set_cons_succ]
                      refine wpAnyH_take (i := 8) (oi := { dst := some 91, op := Go.Op.load 99 (Go.Operand.tmp 11), type := 99, pos := _, after := _, guard := none }) (v := ?_) rfl (by kernel_rfl) (by kernel_rfl) (by kernel_rfl) (fun _ _ _ h => h) (Or.inl ⟨by rfl, ?_⟩) (by assumption) ?_
                      rotate_left
                      · (intro w hSw; (try dsimp only at hSw); go_simp; (try (with_reducible rfl)))
                      try simp only [Act.put, List.setIfInBounds_toArray, List.set_cons_zero, List.set_cons_succ]
                      refine wpAnyH_take (i := 9) (oi := { dst := some 92, op := Go.Op.move (Go.Operand.tmp 7), type := 75, pos := _, after := _, guard := none }) (v := ?_) rfl (by kernel_rfl) (by kernel_rfl) (by kernel_rfl) (fun _ _ _ h => h) (Or.inl ⟨by rfl, ?_⟩) (by assumption) ?_
                      rotate_left
                      · (intro w hSw; (try dsimp only at hSw); go_simp; (try (with_reducible rfl)))
                      try simp only [Act.put, List.setIfInBounds_toArray, List.set_cons_zero, List.set_cons_succ]
                      refine wpAnyH_take (i := 10) (oi := { dst := some 93, op := Go.Op.fieldAddr 99 (Go.Operand.tmp 11) 1, type := 0, pos := _, after := _, guard := none }) (v := ?_) rfl (by kernel_rfl) (by kernel_rfl) (by kernel_rfl) (fun _ _ _ h => h) (Or.inl ⟨by rfl, ?_⟩) (by assumption) ?_
                      rotate_left
                      · (intro w hSw; (try dsimp only at hSw); go_simp; (try (with_reducible rfl)))
                      try simp only [Act.put, List.setIfInBounds_toArray, List.set_cons_zero, List.set_cons_succ]
                      refine wpAnyH_take (i := 11) (oi := { dst := some 94, op := Go.Op.load 3 (Go.Operand.tmp 93), type := 3, pos := _, after := _, guard := none }) (v := ?_) rfl (by kernel_rfl) (by kernel_rfl) (by kernel_rfl) (fun _ _ _ h => h) (Or.inl ⟨by rfl, ?_⟩) (by assumption) ?_
                      rotate_left
                      · (intro w hSw; (try dsimp only at hSw); go_simp; (try (with_reducible rfl)))
                      try simp only [Act.put, List.setIfInBounds_toArray, List.set_cons_zero, List.set_cons_succ]
                      refine wpAnyH_take (i := 12) (oi := { dst := some 95, op := Go.Op.binOp Go.BinOp.sub 3 (Go.Operand.tmp 94) (Go.Operand.const (Go.Value.int Go.IntKind.i64 1)) 3, type := 3, pos := _, after := _, guard := none }) (v := ?_) rfl (by kernel_rfl) (by kernel_rfl) (by kernel_rfl) (fun _ _ _ h => h) (Or.inl ⟨by rfl, ?_⟩) (by assumption) ?_
                      rotate_left
                      · (intro w hSw; (try dsimp only at hSw); go_simp; (try (with_reducible rfl)))
                      try simp only [Act.put, List.setIfInBounds_toArray, List.set_cons_zero, List.set_cons_succ]
                      refine wpAnyH_take (i := 13) (oi := { dst := some 96, op := Go.Op.indexAddr 75 (Go.Operand.tmp 92) (Go.Operand.tmp 95), type := 0, pos := _, after := _, guard := none }) (v := ?_) rfl (by kernel_rfl) (by kernel_rfl) (by kernel_rfl) (fun _ _ _ h => h) (Or.inl ⟨by rfl, ?_⟩) (by assumption) ?_
                      rotate_left
                      · (intro w hSw; (try dsimp only at hSw); go_simp; (try (with_reducible rfl)))
                      try simp only [Act.put, List.setIfInBounds_toArray, List.set_cons_zero, List.set_cons_succ]
                      refine wpAnyH_take (i := 14) (oi := { dst := some 97, op := Go.Op.load 27 (Go.Operand.tmp 96), type := 27, pos := _, after := _, guard := none }) (v := ?_) rfl (by kernel_rfl) (by kernel_rfl) (by kernel_rfl) (fun _ _ _ h => h) (Or.inl ⟨by rfl, ?_⟩) (by assumption) ?_
                      rotate_left
                      · (intro w hSw; (try dsimp only at hSw); go_simp; (try (with_reducible rfl)))
                      try simp only [Act.put, List.setIfInBounds_toArray, List.set_cons_zero, List.set_cons_succ]
                      refine wpAnyH_take (i := 15) (oi := { dst := some 98, op := Go.Op.move (Go.Operand.tmp 13), type := 3, pos := _, after := _, guard := none }) (v := ?_) rfl (by kernel_rfl) (by kernel_rfl) (by kernel_rfl) (fun _ _ _ h => h) (Or.inl ⟨by rfl, ?_⟩) (by assumption) ?_
                      rotate_left
                      · (intro w hSw; (try dsimp only at hSw); go_simp; (try (with_reducible rfl)))
                      try simp only [Act.put, List.setIfInBounds_toArray, List.set_cons_zero, List.set_cons_succ]
                      refine wpAnyH_take (i := 16) (oi := { dst := some 99, op := Go.Op.indexAddr 27 (Go.Operand.tmp 97) (Go.Operand.tmp 98), type := 0, pos := _, after := _, guard := none }) (v := ?_) rfl (by kernel_rfl) (by kernel_rfl) (by kernel_rfl) (fun _ _ _ h => h) (Or.inl ⟨by rfl, ?_⟩) (by assumption) ?_
                      rotate_left
                      · (intro w hSw; (try dsimp only at hSw); go_simp; (try (with_reducible rfl)))
                      try simp only [Act.put, List.setIfInBounds_toArray, List.set_cons_zero, List.set_cons_succ]
                      refine wpAnyH_take (i := 17) (oi := { dst := some 100, op := Go.Op.load 30 (Go.Operand.tmp 99), type := 30, pos := _, after := _, guard := none }) (v := ?_) rfl (by kernel_rfl) (by kernel_rfl) (by kernel_rfl) (fun _ _ _ h => h) (Or.inl ⟨by rfl, ?_⟩) (by assumption) ?_
                      rotate_left
                      · (intro w hSw; (try dsimp only at hSw); go_simp; (try (with_reducible rfl)))
                      try simp only [Act.put, List.setIfInBounds_toArray, List.set_cons_zero, List.set_cons_succ]
                      refine wpAnyH_take (i := 18) (oi := { dst := some 101, op := Go.Op.move (Go.Operand.tmp 12), type := 30, pos := _, after := _, guard := none }) (v := ?_) rfl (by kernel_rfl) (by kernel_rfl) (by kernel_rfl) (fun _ _ _ h => h) (Or.inl ⟨by rfl, ?_⟩) (by assumption) ?_
                      rotate_left
                      · (intro w hSw; (try dsimp only at hSw); go_simp; (try (with_reducible rfl)))
                      try simp only [Act.put, List.setIfInBounds_toArray, List.set_cons_zero, List.set_cons_succ]
                      refine wpAnyH_ready (rs := [19]) (by kernel_rfl) (by simp) ?_
                      refine AllReadyH.cons (o := { dst := some 102, op := Go.Op.call { callee := Go.Callee.value (Go.Operand.func 88), args := #[Go.Operand.tmp 90, Go.Operand.tmp 91, Go.Operand.tmp 100, Go.Operand.tmp 101], argTypes := #[29, 99, 30, 30] }, type := 30, pos := _, after := _, guard := none }) rfl (fun K hK => ?_) AllReadyH.nil
                      go_simp
                      refine HUP.out.mono ?_
                      rintro e w5 ⟨hB5, v5, rfl, hr5⟩
                      obtain ⟨A5, c5, rfl, hc51, hc52⟩ := kS_len hr5
                      simp only []
                      refine hK.out _ _ ?_ (fun hHeld => ?_)
                      · exact ⟨cell_bl hB5 hh, cell_bl hB5 HCU.out, cell_bl hB5 f0, cell_bl hB5 f1, cell_bl hB5 f2, cell_bl hB5 f3, cell_bl hB5 f4, cell_bl hB5 f5, cell_bl hB5 f6, cell_bl hB5 f7, cell_bl hB5 q0, cell_bl hB5 q1, cell_bl hB5 q2, cell_bl hB5 q3, cell_bl hB5 q4, cell_bl hB5 q5⟩
                      clear hK K
                      try simp only [Act.put, List.setIfInBounds_toArray, List.set_cons_zero, List.set_cons_succ]
                      refine wpAnyH_take (i := 20) (oi := { dst := some 103, op := Go.Op.indexAddr 27 (Go.Operand.tmp 88) (Go.Operand.tmp 89), type := 0, pos := _, after := _, guard := none }) (v := ?_) rfl (by kernel_rfl) (by kernel_rfl) (by kernel_rfl) (fun _ _ _ h => h) (Or.inl ⟨by rfl, ?_⟩) (by assumption) ?_
                      rotate_left
                      · (intro w hSw; (try dsimp only at hSw); go_simp; (try (with_reducible rfl)))
                      try simp only [Act.put, List.setIfInBounds_toArray, List.set_cons_zero, List.set_cons_succ]
                      have cv7 := cell_bl hB5 HCU.out
                      have cf7 : w5.frozen? ⟨rb, j, none⟩ = false := (hB5.frozen (p := ⟨rb, j, none⟩) hlt).trans HFU.out
                      refine wpAnyH_done (by kernel_rfl) ?_ _
                      refine lastQ_normal ?_
                      refine wpOp_step (i := 21) (o := { dst := none, op := Go.Op.store 30 (Go.Operand.tmp 103) (Go.Operand.tmp 102), type := 0, pos := _, after := _, guard := none }) rfl (fun K hK => ?_)
                      go_simp
                      refine hK _ _ ?_
                      clear hK K
                      have hL := HLAST.out _ _ hB5 hr5
                      have HL := hide hL; clear hL
                      go_wp2_with fail
                      go_round
                      case rel => exact ⟨j + 1, by omega, by go_num, HL.out.1, HL.out.2⟩
                      case measure => simp [intOf]; omega
                    · as_aux_lemma =>
                      go_wp2_with fail
                      refine wp_region_last (n := 21) (fun w' => w'.cell? ⟨g0, i0, none⟩ = some (.slice (some ⟨rb, 0, none⟩) N cr) ∧ w'.cell? ⟨rb, j, none⟩ = some u ∧ w'.cell? ⟨bd, 0, none⟩ = some (.int .i64 r) ∧ w'.cell? ⟨bd, 1, none⟩ = some (.int .i64 ((i0 : Int) + 1)) ∧ w'.cell? ⟨bd, 2, none⟩ = some (.int .i64 ((j : Int) + 1)) ∧ w'.cell? ⟨bd, 3, none⟩ = some (.int .i64 a) ∧ w'.cell? ⟨bd, 4, none⟩ = some (.int .i64 kd) ∧ w'.cell? ⟨bd, 5, none⟩ = some (.int .u64 (kk : Int)) ∧ w'.cell? ⟨bd, 6, none⟩ = some (.int .i64 o) ∧ w'.cell? ⟨bd, 7, none⟩ = some (.int .i64 ii) ∧ w'.cell? ⟨w.heap.size, 0, none⟩ = some (.int .u64 (p : Int)) ∧ w'.cell? ⟨w.heap.size, 1, none⟩ = some (.int .i64 (N : Int)) ∧ w'.cell? ⟨w.heap.size, 2, none⟩ = some (.int .i64 t) ∧ w'.cell? ⟨w.heap.size, 3, none⟩ = some vc ∧ w'.cell? ⟨w.heap.size, 4, none⟩ = some (.slice (some ad) D cd) ∧ w'.cell? ⟨w.heap.size, 5, none⟩ = some vt) (by kernel_rfl) (by kernel_rfl) (by kernel_rfl) rfl ⟨hh, HCU.out, f0, f1, f2, f3, f4, f5, f6, f7, q0, q1, q2, q3, q4, q5⟩ (fun hHeld => ?_)
                      refine wpAnyH_take (i := 0) (oi := { dst := some 83, op := Go.Op.move (Go.Operand.tmp 7), type := 75, pos := _, after := _, guard := none }) (v := ?_) rfl (by kernel_rfl) (by kernel_rfl) (by kernel_rfl) (fun _ _ _ h => h) (Or.inl ⟨by rfl, ?_⟩) (by assumption) ?_
                      rotate_left
                      · (intro w hSw; (try dsimp only at hSw); go_simp; (try (with_reducible rfl)))
                      try simp only [Act.put, List.setIfInBounds_toArray, List.set_cons_zero, List.set_cons_succ]
                      refine wpAnyH_take (i := 1) (oi := { dst := some 84, op := Go.Op.fieldAddr 99 (Go.Operand.tmp 11) 1, type := 0, pos := _, after := _, guard := none }) (v := ?_) rfl (by kernel_rfl) (by kernel_rfl) (by kernel_rfl) (fun _ _ _ h => h) (Or.inl ⟨by rfl, ?_⟩) (by assumption) ?_
                      rotate_left
                      · (intro w hSw; (try dsimp only at hSw); go_simp; (try (with_reducible rfl)))
                      try simp only [Act.put, List.setIfInBounds_toArray, List.set_cons_zero, List.set_cons_succ]
                      refine wpAnyH_take (i := 2) (oi := { dst := some 85, op := Go.Op.load 3 (Go.Operand.tmp 84), type := 3, pos := _, after := _, guard := none }) (v := ?_) rfl (by kernel_rfl) (by kernel_rfl) (by kernel_rfl) (fun _ _ _ h => h) (Or.inl ⟨by rfl, ?_⟩) (by assumption) ?_
                      rotate_left
                      · (intro w hSw; (try dsimp only at hSw); go_simp; (try (with_reducible rfl)))
                      try simp only [Act.put, List.setIfInBounds_toArray, List.set_cons_zero, List.set_cons_succ]
                      refine wpAnyH_take (i := 3) (oi := { dst := some 86, op := Go.Op.binOp Go.BinOp.sub 3 (Go.Operand.tmp 85) (Go.Operand.const (Go.Value.int Go.IntKind.i64 1)) 3, type := 3, pos := _, after := _, guard := none }) (v := ?_) rfl (by kernel_rfl) (by kernel_rfl) (by kernel_rfl) (fun _ _ _ h => h) (Or.inl ⟨by rfl, ?_⟩) (by assumption) ?_
                      rotate_left
                      · (intro w hSw; (try dsimp only at hSw); go_simp; (try (with_reducible rfl)))
                      try simp only [Act.put, List.setIfInBounds_toArray, List.set_cons_zero, List.set_cons_succ]
                      refine wpAnyH_take (i := 4) (oi := { dst := some 87, op := Go.Op.indexAddr 75 (Go.Operand.tmp 83) (Go.Operand.tmp 86), type := 0, pos := _, after := _, guard := none }) (v := ?_) rfl (by kernel_rfl) (by kernel_rfl) (by kernel_rfl) (fun _ _ _ h => h) (Or.inl ⟨by rfl, ?_⟩) (by assumption) ?_
                      rotate_left
                      · (intro w hSw; (try dsimp only at hSw); go_simp; (try (with_reducible rfl)))
                      try simp only [Act.put, List.setIfInBounds_toArray, List.set_cons_zero, List.set_cons_succ]
                      refine wpAnyH_take (i := 5) (oi := { dst := some 88, op := Go.Op.load 27 (Go.Operand.tmp 87), type := 27, pos := _, after := _, guard := none }) (v := ?_) rfl (by kernel_rfl) (by kernel_rfl) (by kernel_rfl) (fun _ _ _ h => h) (Or.inl ⟨by rfl, ?_⟩) (by assumption) ?_
                      rotate_left
                      · (intro w hSw; (try dsimp only at hSw); go_simp; (try (with_reducible rfl)))
                      try simp only [Act.put, List.setIfInBounds_toArray, List.set_cons_zero, List.set_cons_succ]
                      refine wpAnyH_take (i := 6) (oi := { dst := some 89, op := Go.Op.move (Go.Operand.tmp 13), type := 3, pos := _, after := _, guard := none }) (v := ?_) rfl (by kernel_rfl) (by kernel_rfl) (by kernel_rfl) (fun _ _ _ h => h) (Or.inl ⟨by rfl, ?_⟩) (by assumption) ?_
                      rotate_left
                      · (intro w hSw; (try dsimp only at hSw); go_simp; (try (with_reducible rfl)))
                      try simp only [Act.put, List.setIfInBounds_toArray, List.set_cons_zero, List.set_cons_succ]
                      refine wpAnyH_take (i := 7) (oi := { dst := some 90, op := Go.Op.load 29 (Go.Operand.tmp 3), type := 29, pos := _, after := _, guard := none }) (v := ?_) rfl (by kernel_rfl) (by kernel_rfl) (by kernel_rfl) (fun _ _ _ h => h) (Or.inl ⟨by rfl, ?_⟩) (by assumption) ?_
                      rotate_left
                      · (intro w hSw; (try dsimp only at hSw); go_simp; (try (with_reducible rfl)))
                      try simp only [Act.put, List.setIfInBounds_toArray, List.set_cons_zero, List.set_cons_succ]
                      refine wpAnyH_take (i := 8) (oi := { dst := some 91, op := Go.Op.load 99 (Go.Operand.tmp 11), type := 99, pos := _, after := _, guard := none }) (v := ?_) rfl (by kernel_rfl) (by kernel_rfl) (by kernel_rfl) (fun _ _ _ h => h) (Or.inl ⟨by rfl, ?_⟩) (by assumption) ?_
                      rotate_left
                      · (intro w hSw; (try dsimp only at hSw); go_simp; (try (with_reducible rfl)))
                      try simp only [Act.put, List.setIfInBounds_toArray, List.set_cons_zero, List.set_cons_succ]
                      refine wpAnyH_take (i := 9) (oi := { dst := some 92, op := Go.Op.move (Go.Operand.tmp 7), type := 75, pos := _, after := _, guard := none }) (v := ?_) rfl (by kernel_rfl) (by kernel_rfl) (by kernel_rfl) (fun _ _ _ h => h) (Or.inl ⟨by rfl, ?_⟩) (by assumption) ?_
                      rotate_left
                      · (intro w hSw; (try dsimp only at hSw); go_simp; (try (with_reducible rfl)))
                      try simp only [Act.put, List.setIfInBounds_toArray, List.set_cons_zero, List.set_cons_succ]
                      refine wpAnyH_take (i := 10) (oi := { dst := some 93, op := Go.Op.fieldAddr 99 (Go.Operand.tmp 11) 1, type := 0, pos := _, after := _, guard := none }) (v := ?_) rfl (by kernel_rfl) (by kernel_rfl) (by kernel_rfl) (fun _ _ _ h => h) (Or.inl ⟨by rfl, ?_⟩) (by assumption) ?_
                      rotate_left
                      · (intro w hSw; (try dsimp only at hSw); go_simp; (try (with_reducible rfl)))
                      try simp only [Act.put, List.setIfInBounds_toArray, List.set_cons_zero, List.set_cons_succ]
                      refine wpAnyH_take (i := 11) (oi := { dst := some 94, op := Go.Op.load 3 (Go.Operand.tmp 93), type := 3, pos := _, after := _, guard := none }) (v := ?_) rfl (by kernel_rfl) (by kernel_rfl) (by kernel_rfl) (fun _ _ _ h => h) (Or.inl ⟨by rfl, ?_⟩) (by assumption) ?_
                      rotate_left
                      · (intro w hSw; (try dsimp only at hSw); go_simp; (try (with_reducible rfl)))
                      try simp only [Act.put, List.setIfInBounds_toArray, List.set_cons_zero, List.set_cons_succ]
                      refine wpAnyH_take (i := 12) (oi := { dst := some 95, op := Go.Op.binOp Go.BinOp.sub 3 (Go.Operand.tmp 94) (Go.Operand.const (Go.Value.int Go.IntKind.i64 1)) 3, type := 3, pos := _, after := _, guard := none }) (v := ?_) rfl (by kernel_rfl) (by kernel_rfl) (by kernel_rfl) (fun _ _ _ h => h) (Or.inl ⟨by rfl, ?_⟩) (by assumption) ?_
                      rotate_left
                      · (intro w hSw; (try dsimp only at hSw); go_simp; (try (with_reducible rfl)))
                      try simp only [Act.put, List.setIfInBounds_toArray, List.set_cons_zero, List.set_cons_succ]
                      refine wpAnyH_take (i := 13) (oi := { dst := some 96, op := Go.Op.indexAddr 75 (Go.Operand.tmp 92) (Go.Operand.tmp 95), type := 0, pos := _, after := _, guard := none }) (v := ?_) rfl (by kernel_rfl) (by kernel_rfl) (by kernel_rfl) (fun _ _ _ h => h) (Or.inl ⟨by rfl, ?_⟩) (by assumption) ?_
                      rotate_left
                      · (intro w hSw; (try dsimp only at hSw); go_simp; (try (with_reducible rfl)))
                      try simp only [Act.put, List.setIfInBounds_toArray, List.set_cons_zero, List.set_cons_succ]
                      refine wpAnyH_take (i := 14) (oi := { dst := some 97, op := Go.Op.load 27 (Go.Operand.tmp 96), type := 27, pos := _, after := _, guard := none }) (v := ?_) rfl (by kernel_rfl) (by kernel_rfl) (by kernel_rfl) (fun _ _ _ h => h) (Or.inl ⟨by rfl, ?_⟩) (by assumption) ?_
                      rotate_left
                      · (intro w hSw; (try dsimp only at hSw); go_simp; (try (with_reducible rfl)))
                      try simp only [Act.put, List.setIfInBounds_toArray, List.set_cons_zero, List.set_cons_succ]
                      refine wpAnyH_take (i := 15) (oi := { dst := some 98, op := Go.Op.move (Go.Operand.tmp 13), type := 3, pos := _, after := _, guard := none }) (v := ?_) rfl (by kernel_rfl) (by kernel_rfl) (by kernel_rfl) (fun _ _ _ h => h) (Or.inl ⟨by rfl, ?_⟩) (by assumption) ?_
                      rotate_left
                      · (intro w hSw; (try dsimp only at hSw); go_simp; (try (with_reducible rfl)))
                      try simp only [Act.put, List.setIfInBounds_toArray, List.set_cons_zero, List.set_cons_succ]
                      refine wpAnyH_take (i := 16) (oi := { dst := some 99, op := Go.Op.indexAddr 27 (Go.Operand.tmp 97) (Go.Operand.tmp 98), type := 0, pos := _, after := _, guard := none }) (v := ?_) rfl (by kernel_rfl) (by kernel_rfl) (by kernel_rfl) (fun _ _ _ h => h) (Or.inl ⟨by rfl, ?_⟩) (by assumption) ?_
                      rotate_left
                      · (intro w hSw; (try dsimp only at hSw); go_simp; (try (with_reducible rfl)))
                      try simp only [Act.put, List.setIfInBounds_toArray, List.set_cons_zero, List.set_cons_succ]
                      refine wpAnyH_take (i := 17) (oi := { dst := some 100, op := Go.Op.load 30 (Go.Operand.tmp 99), type := 30, pos := _, after := _, guard := none }) (v := ?_) rfl (by kernel_rfl) (by kernel_rfl) (by kernel_rfl) (fun _ _ _ h => h) (Or.inl ⟨by rfl, ?_⟩) (by assumption) ?_
                      rotate_left
                      · (intro w hSw; (try dsimp only at hSw); go_simp; (try (with_reducible rfl)))
                      try simp only [Act.put, List.setIfInBounds_toArray, List.set_cons_zero, List.set_cons_succ]
                      refine wpAnyH_take (i := 18) (oi := { dst := some 101, op := Go.Op.move (Go.Operand.tmp 12), type := 30, pos := _, after := _, guard := none }) (v := ?_) rfl (by kernel_rfl) (by kernel_rfl) (by kernel_rfl) (fun _ _ _ h => h) (Or.inl ⟨by rfl, ?_⟩) (by assumption) ?_
                      rotate_left
                      · (intro w hSw; (try dsimp only at hSw); go_simp; (try (with_reducible rfl)))
                      try simp only [Act.put, List.setIfInBounds_toArray, List.set_cons_zero, List.set_cons_succ]
                      refine wpAnyH_ready (rs := [19]) (by kernel_rfl) (by simp) ?_
                      refine AllReadyH.cons (o := { dst := some 102, op := Go.Op.call { callee := Go.Callee.value (Go.Operand.func 88), args := #[Go.Operand.tmp 90, Go.Operand.tmp 91, Go.Operand.tmp 100, Go.Operand.tmp 101], argTypes := #[29, 99, 30, 30] }, type := 30, pos := _, after := _, guard := none }) rfl (fun K hK => ?_) AllReadyH.nil
                      go_simp
                      refine HUP.out.mono ?_
                      rintro e w5 ⟨hB5, v5, rfl, hr5⟩
                      obtain ⟨A5, c5, rfl, hc51, hc52⟩ := kS_len hr5
                      simp only []
                      refine hK.out _ _ ?_ (fun hHeld => ?_)
                      · exact ⟨cell_bl hB5 hh, cell_bl hB5 HCU.out, cell_bl hB5 f0, cell_bl hB5 f1, cell_bl hB5 f2, cell_bl hB5 f3, cell_bl hB5 f4, cell_bl hB5 f5, cell_bl hB5 f6, cell_bl hB5 f7, cell_bl hB5 q0, cell_bl hB5 q1, cell_bl hB5 q2, cell_bl hB5 q3, cell_bl hB5 q4, cell_bl hB5 q5⟩
                      clear hK K
                      try simp only [Act.put, List.setIfInBounds_toArray, List.set_cons_zero, List.set_cons_succ]
                      refine wpAnyH_take (i := 20) (oi := { dst := some 103, op := Go.Op.indexAddr 27 (Go.Operand.tmp 88) (Go.Operand.tmp 89), type := 0, pos := _, after := _, guard := none }) (v := ?_) rfl (by kernel_rfl) (by kernel_rfl) (by kernel_rfl) (fun _ _ _ h => h) (Or.inl ⟨by rfl, ?_⟩) (by assumption) ?_
                      rotate_left
                      · (intro w hSw; (try dsimp only at hSw); go_simp; (try (with_reducible rfl)))
                      try simp only [Act.put, List.setIfInBounds_toArray, List.set_cons_zero, List.set_cons_succ]
                      have cv7 := cell_bl hB5 HCU.out
                      have cf7 : w5.frozen? ⟨rb, j, none⟩ = false := (hB5.frozen (p := ⟨rb, j, none⟩) hlt).trans HFU.out
                      refine wpAnyH_done (by kernel_rfl) ?_ _
                      refine lastQ_normal ?_
                      refine wpOp_step (i := 21) (o := { dst := none, op := Go.Op.store 30 (Go.Operand.tmp 103) (Go.Operand.tmp 102), type := 0, pos := _, after := _, guard := none }) rfl (fun K hK => ?_)
                      go_simp
                      refine hK _ _ ?_
                      clear hK K
                      have hL := HLAST.out _ _ hB5 hr5
                      have HL := hide hL; clear hL
                      go_wp2_with fail
                      go_round
                      case rel => exact ⟨j + 1, by omega, by go_num, HL.out.1, HL.out.2⟩
                      case measure => simp [intOf]; omega
                  · have hst := stepJ_skip (p := p) (corrupt := corrupt) (d := ⟨r, (i0 : Int) + 1, dd, a, kd, kk, o, ii⟩) (said := said) (i0 := i0) (j := j) (all := applyM p corrupt round (devs.take k) out) hsk
                    have hI := HI.out
                    rw [← hst] at hI
                    have HI2 := hide hI; clear hI HI hst
                    by_cases hj1 : j = i0
                    · subst hj1
                      clear hsk
                      go_wp2_with fail
                      go_round
                      case rel => exact ⟨j + 1, by omega, by go_num, HF.out, HI2.out⟩
                      case measure => simp [intOf]; omega
                    · have hjn : ((j : Int) + 1 != (i0 : Int) + 1) = true := by rw [bne_iff_ne]; omega
                      have hjn2 : ((j : Int) + 1 == (i0 : Int) + 1) = false := by rw [beq_eq_false_iff_ne]; omega
                      have hjn3 : ¬ ((j : Int) = (i0 : Int)) := by omega
                      have hd0 : ¬ dd = 0 := fun e => hsk ⟨by omega, .inl e⟩
                      have hdj : ¬ dd = (j : Int) + 1 := fun e => hsk ⟨by omega, .inr e⟩
                      have hd0b : (dd == 0) = false := by rw [beq_eq_false_iff_ne]; exact hd0
                      have hdjb : (dd == (j : Int) + 1) = false := by rw [beq_eq_false_iff_ne]; exact hdj
                      clear hsk
                      go_wp2_with fail
                      go_round
                      case rel => exact ⟨j + 1, by omega, by go_num, HF.out, HI2.out⟩
                      case measure => simp [intOf]; omega
                · obtain rfl : N = j := by omega
                  have hBn : Below g0 w1 wr := (Bl.dr HB3.out HDR.out).trans (hF.below (by have := HI2.out.out.lt; rw [HDR.out.heap]; omega) fun b hb e => by have := HRB.out; omega)
                  have hIn : Rws (kS kU) wr (fun b => S'' b ∨ w.heap.size ≤ b) g0 g0 N 27 30 vs (fun i => row1 N (applyM p corrupt round (devs.take (k + 1)) out i)) := hI.congr fun i hi => by
                    rw [HSU.out]
                    refine row1_congr fun j hj => ?_
                    have := stepJ_N (p := p) (N := N) (corrupt := corrupt) (round := round) (d := ⟨r, (i0 : Int) + 1, dd, a, kd, kk, o, ii⟩) (out := out) (all := applyM p corrupt round (devs.take k) out) HDO.out (i0 := i0) rfl i j hi hj
                    rw [← this, HSAID.out]
                  have HBN := hide hBn; have HIN := hide hIn
                  clear hBn hIn hI hF
                  go_wp2_with fail
                  go_round
                  case rel => exact ⟨k + 1, by omega, by go_num, HBN.out, HIN.out⟩
                  case measure => simp [intOf]; omega
          · have hb : (decide (r = round) && decide (s ∈ corrupt)) = false := by
              rw [Bool.and_eq_false_iff]; by_cases h : r = round
              · right; exact decide_eq_false fun h' => hdo ⟨h, h'⟩
              · left; exact decide_eq_false h
            rw [hb] at HDN
            have hse : stepM p corrupt round out (applyM p corrupt round (devs.take k) out) ⟨r, s, dd, a, kd, kk, o, ii⟩ = applyM p corrupt round (devs.take k) out := by unfold stepM; rw [if_neg hdo]
            have HSE := hide hse; clear hse hb hdo
            go_wp2_with fail
            refine (HDN.out _ HBD.out).mono ?_
            rintro e w2 ⟨rfl, hB2⟩
            have hg0r := HI.out.out.lt
            have hI2 := (HI.out.bl ((Below.refl _ _).alloc (Nat.le_refl _) (.cells #[.int .i64 r, .int .i64 s, .int .i64 dd, .int .i64 a, .int .i64 kd, .int .u64 kk, .int .i64 o, .int .i64 ii] 99))).bl hB2
            have hB3 : Below g0 w1 w2 := (HB.out.alloc (Nat.le_of_lt hg0r) _).trans (hB2.mono (by rw [Dr.alloc_heap, Array.size_push]; omega))
            rw [← HSE.out, ← HSU.out] at hI2
            have HI2 := hide hI2; clear hI2 hB2
            have HB3 := hide hB3; clear hB3
            go_wp2_with fail
            go_round
            case rel => exact ⟨k + 1, by omega, by go_num, HB3.out, HI2.out⟩
            case measure => simp [intOf]; omega
        · obtain rfl : D = k := by omega
          have hI := hI.reads (c := N) ⟨Nat.le_refl _, by omega⟩
          rw [show devs.take D = devs by rw [HD.out, List.take_length]] at hI
          have HI := hide hI; clear hI
          have HB := hide hBwr; clear hBwr hB
          go_wp2_with fail
          go_ret
          exact ⟨HB.out, _, rfl, HI.out⟩
end Pv

set_option linter.unusedVariables false
namespace Pv
/-- the r-th party other than who (both from 0 on; who from 1 on) -/
def xIdx (who r : Nat) : Nat := if r + 1 < who then r else r + 1
/-- the messages of a recovery -/
def recOut (p who K : Nat) (rows : Nat → Nat → List Nat) : Nat → Nat → List Nat := fun i j => if i + 1 ≠ who ∧ j + 1 = who then (List.range K).map fun k => hor p (rows k i) who else []
/-- the row that is recovered -/
noncomputable def recRow (p N T who K : Nat) (heard : Nat → List Nat) (k : Nat) : List Nat :=
  resz (decF p T ((N - 2 - T) / 2) (N - 1) (fun r => xIdx who r + 1) (fun r => (resz (heard (xIdx who r)) K).getD k 0)) (T + 1)
/-- an honest party's messages are as they were -/
theorem applyM_honest {p : Nat} {corrupt : List Int} {round : Int} {devs : List Dev} {out : Nat → Nat → List Nat} {i j : Nat} (h : ((i : Int) + 1) ∉ corrupt) : applyM p corrupt round devs out i j = out i j := by
  unfold applyM
  have key : ∀ (devs : List Dev) (all : Nat → Nat → List Nat), devs.foldl (stepM p corrupt round out) all i j = all i j := by
    intro devs
    induction devs with
    | nil => exact fun all => rfl
    | cons d ds ih =>
      intro all
      rw [List.foldl_cons, ih]
      unfold stepM
      by_cases hd : d.round = round ∧ d.src ∈ corrupt
      · rw [if_pos hd]
        show (if _ then _ else _) = _
        rw [if_neg (fun h' => h (by rw [h'.1]; exact hd.2))]
      · rw [if_neg hd]
  exact key devs out
theorem uponL_nil {p : Nat} {corrupt : List Int} {d : Dev} {ys : List Nat} (h : 0 ≤ d.at_) : uponL p corrupt d [] ys = [] := by
  unfold uponL; split
  · rfl
  · rw [if_pos (by simpa using h)]
/-- no message stays none -/
theorem applyM_nil {p : Nat} {corrupt : List Int} {round : Int} {devs : List Dev} {out : Nat → Nat → List Nat} {i j : Nat} (hd : ∀ d, d ∈ devs → 0 ≤ d.at_) (h : out i j = []) : applyM p corrupt round devs out i j = [] := by
  unfold applyM
  have key : ∀ (devs : List Dev), (∀ d, d ∈ devs → 0 ≤ d.at_) → ∀ (all : Nat → Nat → List Nat), all i j = [] → devs.foldl (stepM p corrupt round out) all i j = [] := by
    intro devs
    induction devs with
    | nil => exact fun _ all h => h
    | cons d ds ih =>
      intro hd all ha
      rw [List.foldl_cons]
      refine ih (fun d' h' => hd d' (by simp [h'])) _ ?_
      unfold stepM
      split
      · dsimp only; rw [ha]
        split
        · exact uponL_nil (hd d (by simp))
        · rfl
      · exact ha
  exact key devs hd out h
theorem nodup_len : ∀ (l1 l2 : List Nat), l1.Pairwise (fun a b => a ≠ b) → (∀ x, x ∈ l1 → x ∈ l2) → l1.length ≤ l2.length
  | [], _, _, _ => Nat.zero_le _
  | a :: l1, l2, h, hs => by
    obtain ⟨h1, h2⟩ := List.pairwise_cons.1 h
    have ha := hs a (by simp)
    have ih := nodup_len l1 (l2.erase a) h2 fun x hx => (List.mem_erase_of_ne (fun e => h1 x hx e.symm)).2 (hs x (by simp [hx]))
    rw [List.length_erase_of_mem ha] at ih
    have := List.length_pos_of_mem ha
    simp only [List.length_cons]; omega
theorem resz_self {l : List Nat} {n : Nat} (h : l.length = n) : resz l n = l := by simp [resz, ← h]
theorem resz_at (l : List Nat) {n i : Nat} (hi : i < n) : (resz l n)[i]? = some (l.getD i 0) := by
  unfold resz
  by_cases h : i < l.length
  · rw [List.getElem?_append_left (by rw [List.length_take]; omega), List.getElem?_take, if_pos hi, List.getD_eq_getElem?_getD, List.getElem?_eq_getElem h]; rfl
  · rw [List.getElem?_append_right (by rw [List.length_take]; omega), List.getElem?_replicate, if_pos (by rw [List.length_take]; omega), List.getD_eq_getElem?_getD, List.getElem?_eq_none (by omega)]; rfl
theorem resz_trm (f : List Nat) (n : Nat) (h : f.length = n) : resz (trm f) n = f := by
  refine List.ext_getElem? fun i => ?_
  by_cases hi : i < n
  · rw [resz_at _ hi, trm_getD, List.getD_eq_getElem?_getD, List.getElem?_eq_getElem (by omega)]; rfl
  · rw [List.getElem?_eq_none (by rw [resz_len]; omega), List.getElem?_eq_none (by omega)]
theorem xIdx_inj {who r s : Nat} (h : xIdx who r = xIdx who s) : r = s := by
  unfold xIdx at h; split at h <;> split at h <;> omega
theorem xIdx_lt {who N r : Nat} (hw : 1 ≤ who) (hw2 : who ≤ N) (hr : r < N - 1) : xIdx who r < N ∧ xIdx who r + 1 ≠ who := by
  unfold xIdx; split <;> omega
/-- what honest parties sent of a symmetric polynomial's rows is decoded to the lost row, if few others are corrupted -/
theorem recRow_right {p N T who K k : Nat} (hp : IsP p) (hN : N < p) (hT : 3 * T < N) (hT1 : 1 ≤ T) (hw : 1 ≤ who) (hw2 : who ≤ N) (hk : k < K) (M : Nat → Nat → Nat → Nat) (hM : ∀ i j, M k i j = M k j i) (heard : Nat → List Nat) (hlt : ∀ i, i < N → ∀ c, c ∈ heard i → c < p)
    (bad : Nat → Bool) (hh : ∀ i, i < N → i + 1 ≠ who → bad i = false → (resz (heard i) K).getD k 0 = hor p (rowB p (T + 1) (M k) (i + 1)) who)
    (hb : ((List.range N).filter fun i => decide (i + 1 ≠ who) && bad i).length ≤ (N - 2 - T) / 2) :
    recRow p N T who K heard k = rowB p (T + 1) (M k) who := by
  have hlo := hp.lo
  have hl := rowB_len p (T + 1) (M k) who
  have hgood : Good p T ((N - 2 - T) / 2) (N - 1) (fun r => xIdx who r + 1) (fun r => (resz (heard (xIdx who r)) K).getD k 0) (rowB p (T + 1) (M k) who) := by
    refine ⟨by omega, rowB_lt (by omega) _ _ _, Nat.le_trans ?_ hb⟩
    have hsub : ((errs p (rowB p (T + 1) (M k) who) (N - 1) (fun r => xIdx who r + 1) (fun r => (resz (heard (xIdx who r)) K).getD k 0)).map (xIdx who)).length ≤ ((List.range N).filter fun i => decide (i + 1 ≠ who) && bad i).length := by
      refine nodup_len _ _ ?_ ?_
      · refine List.pairwise_map.2 (List.Pairwise.imp (R := fun a b => a ≠ b) (fun {a b} hne e => hne (xIdx_inj e)) (List.Pairwise.filter _ List.nodup_range))
      · intro i hi
        obtain ⟨r, hr, rfl⟩ := List.mem_map.1 hi
        obtain ⟨h1, h2⟩ := List.mem_filter.1 hr
        have hr' := List.mem_range.1 h1
        obtain ⟨h3, h4⟩ := xIdx_lt hw hw2 hr'
        refine List.mem_filter.2 ⟨List.mem_range.2 h3, ?_⟩
        simp only [h4, ne_eq, not_false_eq_true, decide_true, Bool.true_and]
        cases hbd : bad (xIdx who r) with
        | true => rfl
        | false =>
          exfalso
          have := hh _ h3 h4 hbd
          exact (bne_iff_ne.1 h2) ((rowB_sym (by omega) (T + 1) (M k) hM who (xIdx who r + 1)).trans this.symm)
    rwa [List.length_map] at hsub
  unfold recRow
  rw [decF_of hp (by omega) (fun i hi => by have := (xIdx_lt hw hw2 hi).1; omega) (fun i hi => ?_) (fun i j _ _ e => xIdx_inj (who := who) (Nat.succ.inj e)) hgood]
  · exact resz_trm _ _ hl
  · have h3 := (xIdx_lt hw hw2 hi).1
    refine getD_ltp (by omega) (fun c hc => ?_) k
    unfold resz at hc
    rcases List.mem_append.1 hc with h | h
    · exact hlt _ h3 c (List.mem_of_mem_take h)
    · rw [(List.mem_replicate.1 h).2]; omega
end Pv
