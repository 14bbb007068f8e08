import Derived.Test.YtjokahbkmceocaaDoorZf
import Derived.Test.YtjokahbkmceocaaDoorZj
import Derived.Test.YtjokahbkmceocaaDoorZe
import Derived.Test.YtjokahbkmceocaaDoorZi
set_option linter.unusedVariables false
set_option linter.unusedSimpArgs false
namespace Pv
open Go Go.RowKit Go.Proofs

/-- the parameters are valid -/
def vP (p : Nat) (n t : Int) : Bool := decide (expo p ≠ 0) && decide ((4 : Int) ≤ n) && decide (n ≤ (13 : Int)) && decide (n < (p : Int)) && decide ((1 : Int) ≤ t) && decide (t < n) && decide (3 * t < n)
set_option maxHeartbeats 4000000 in
theorem valid_any (p : Nat) (n t : Int) (w : World) (hL : Laid w) :
    Calls Tryd.prog 95 #[.agg #[.int .u64 p, .int .i64 n, .int .i64 t]] w fun e w' => e = .returned (.bool (vP p n t)) ∧ Bl w w' := by
  have hs := fun W (h : Bl w W) => supported_any p W (hL.bl h)
  have HS := hide hs; clear hs hL
  have hB : Bl w (w.alloc (.cells #[.int .u64 p, .int .i64 n, .int .i64 t] 24)) := (Below.refl _ _).alloc (Nat.le_refl _) _
  have HB := hide hB; clear hB
  by_cases h0 : expo p ≠ 0
  · skip
    by_cases h1 : (4 : Int) ≤ n
    · skip
      by_cases h2 : n ≤ (13 : Int)
      · skip
        by_cases h3 : n < (p : Int)
        · skip
          by_cases h4 : (1 : Int) ≤ t
          · skip
            by_cases h5 : t < n
            · skip
              by_cases h6 : 3 * t < n
              · skip
                have hv : vP p n t = true := by simp only [vP]; simp [*]
                rw [hv]
                clear hv
                have hd : decide (expo p ≠ 0) = true := decide_eq_true h0
                rw [hd] at HS
                clear hd h0
                have hw : IntKind.u64.wrap n = n := by rw [IntWalk.u64_in _ (by omega)]
                go_enter Tryd.func95, Tryd.ntmps95
                go_wp2_with fail
                refine (HS.out _ HB.out).mono ?_
                rintro e w2 ⟨rfl, rfl⟩
                go_wp2_with fail
                go_ret
                exact ⟨by first | rfl | (simp [h6]; done), HB.out⟩
              · skip
                have hv : vP p n t = false := by simp only [vP]; simp [*]
                rw [hv]
                clear hv
                have hd : decide (expo p ≠ 0) = true := decide_eq_true h0
                rw [hd] at HS
                clear hd h0
                have hw : IntKind.u64.wrap n = n := by rw [IntWalk.u64_in _ (by omega)]
                go_enter Tryd.func95, Tryd.ntmps95
                go_wp2_with fail
                refine (HS.out _ HB.out).mono ?_
                rintro e w2 ⟨rfl, rfl⟩
                go_wp2_with fail
                go_ret
                exact ⟨by first | rfl | (simp [h6]; done), HB.out⟩
            · skip
              have hv : vP p n t = false := by simp only [vP]; simp [*]
              rw [hv]
              clear hv
              have hd : decide (expo p ≠ 0) = true := decide_eq_true h0
              rw [hd] at HS
              clear hd h0
              have hw : IntKind.u64.wrap n = n := by rw [IntWalk.u64_in _ (by omega)]
              go_enter Tryd.func95, Tryd.ntmps95
              go_wp2_with fail
              refine (HS.out _ HB.out).mono ?_
              rintro e w2 ⟨rfl, rfl⟩
              go_wp2_with fail
              go_ret
              exact ⟨rfl, HB.out⟩
          · skip
            have hv : vP p n t = false := by simp only [vP]; simp [*]
            rw [hv]
            clear hv
            have hd : decide (expo p ≠ 0) = true := decide_eq_true h0
            rw [hd] at HS
            clear hd h0
            have hw : IntKind.u64.wrap n = n := by rw [IntWalk.u64_in _ (by omega)]
            go_enter Tryd.func95, Tryd.ntmps95
            go_wp2_with fail
            refine (HS.out _ HB.out).mono ?_
            rintro e w2 ⟨rfl, rfl⟩
            go_wp2_with fail
            go_ret
            exact ⟨rfl, HB.out⟩
        · skip
          have hv : vP p n t = false := by simp only [vP]; simp [*]
          rw [hv]
          clear hv
          have hd : decide (expo p ≠ 0) = true := decide_eq_true h0
          rw [hd] at HS
          clear hd h0
          have hw : IntKind.u64.wrap n = n := by rw [IntWalk.u64_in _ (by omega)]
          go_enter Tryd.func95, Tryd.ntmps95
          go_wp2_with fail
          refine (HS.out _ HB.out).mono ?_
          rintro e w2 ⟨rfl, rfl⟩
          go_wp2_with fail
          go_ret
          exact ⟨rfl, HB.out⟩
      · skip
        have hv : vP p n t = false := by simp only [vP]; simp [*]
        rw [hv]
        clear hv
        have hd : decide (expo p ≠ 0) = true := decide_eq_true h0
        rw [hd] at HS
        clear hd h0
        go_enter Tryd.func95, Tryd.ntmps95
        go_wp2_with fail
        refine (HS.out _ HB.out).mono ?_
        rintro e w2 ⟨rfl, rfl⟩
        go_wp2_with fail
        go_ret
        exact ⟨rfl, HB.out⟩
    · skip
      have hv : vP p n t = false := by simp only [vP]; simp [*]
      rw [hv]
      clear hv
      have hd : decide (expo p ≠ 0) = true := decide_eq_true h0
      rw [hd] at HS
      clear hd h0
      go_enter Tryd.func95, Tryd.ntmps95
      go_wp2_with fail
      refine (HS.out _ HB.out).mono ?_
      rintro e w2 ⟨rfl, rfl⟩
      go_wp2_with fail
      go_ret
      exact ⟨rfl, HB.out⟩
  · skip
    have hv : vP p n t = false := by simp only [vP]; simp [*]
    rw [hv]
    clear hv
    have hd : decide (expo p ≠ 0) = false := decide_eq_false h0
    rw [hd] at HS
    clear hd h0
    go_enter Tryd.func95, Tryd.ntmps95
    go_wp2_with fail
    refine (HS.out _ HB.out).mono ?_
    rintro e w2 ⟨rfl, rfl⟩
    go_wp2_with fail
    go_ret
    exact ⟨rfl, HB.out⟩

/-- a deviation is valid -/
def DevB (n : Int) (d : Dev) : Bool := decide ((0 : Int) ≤ d.round) && decide ((0 : Int) ≤ d.at_) && decide ((0 : Int) ≤ d.idx) && decide ((1 : Int) ≤ d.src) && decide (d.src ≤ n) && decide ((0 : Int) ≤ d.dst) && decide (d.dst ≤ n) && decide ((1 : Int) ≤ d.kind) && decide (d.kind ≤ (4 : Int)) && decide ((if d.kind = 3 then (1 : Int) else 0) ≤ d.of) && decide (d.of ≤ n)
set_option maxHeartbeats 4000000 in
theorem lie_any (p : Nat) (n t : Int) (d : Dev) (w : World) :
    Calls Tryd.prog 79 #[.agg #[.int .u64 p, .int .i64 n, .int .i64 t], d.val] w fun e w' => e = .returned (.bool (DevB n d)) ∧ Bl w w' := by
  obtain ⟨r, s, dd, a, k, kk, o, ii⟩ := d
  simp only [Dev.val]
  have hB : Bl w ((w.alloc (.cells #[.int .u64 p, .int .i64 n, .int .i64 t] 24)).alloc (.cells #[.int .i64 r, .int .i64 s, .int .i64 dd, .int .i64 a, .int .i64 k, .int .u64 kk, .int .i64 o, .int .i64 ii] 99)) :=
    ((Below.refl _ _).alloc (Nat.le_refl _) _).alloc (((Below.refl _ _).alloc (Nat.le_refl _) _).size) _
  have HB := hide hB; clear hB
  by_cases hk3 : k = 3
  · subst hk3
    by_cases h0 : (0 : Int) ≤ r
    · skip
      by_cases h1 : (0 : Int) ≤ a
      · skip
        by_cases h2 : (0 : Int) ≤ ii
        · skip
          by_cases h3 : (1 : Int) ≤ s
          · skip
            by_cases h4 : s ≤ n
            · skip
              by_cases h5 : (0 : Int) ≤ dd
              · skip
                by_cases h6 : dd ≤ n
                · skip
                  by_cases h9 : (1 : Int) ≤ o
                  · skip
                    by_cases h10 : o ≤ n
                    · skip
                      have hv : DevB n ⟨r, s, dd, a, 3, kk, o, ii⟩ = true := by simp only [DevB]; simp [*]; done
                      rw [hv]
                      clear hv
                      go_enter Tryd.func79, Tryd.ntmps79
                      go_wp2_with fail
                      go_ret
                      exact ⟨rfl, HB.out⟩
                    · skip
                      have hv : DevB n ⟨r, s, dd, a, 3, kk, o, ii⟩ = false := by simp only [DevB]; simp [*]; done
                      rw [hv]
                      clear hv
                      go_enter Tryd.func79, Tryd.ntmps79
                      go_wp2_with fail
                      go_ret
                      exact ⟨rfl, HB.out⟩
                  · skip
                    have hv : DevB n ⟨r, s, dd, a, 3, kk, o, ii⟩ = false := by simp only [DevB]; simp [*]; done
                    rw [hv]
                    clear hv
                    go_enter Tryd.func79, Tryd.ntmps79
                    go_wp2_with fail
                    go_ret
                    exact ⟨rfl, HB.out⟩
                · skip
                  have hv : DevB n ⟨r, s, dd, a, 3, kk, o, ii⟩ = false := by simp only [DevB]; simp [*]; done
                  rw [hv]
                  clear hv
                  go_enter Tryd.func79, Tryd.ntmps79
                  go_wp2_with fail
                  go_ret
                  exact ⟨rfl, HB.out⟩
              · skip
                have hv : DevB n ⟨r, s, dd, a, 3, kk, o, ii⟩ = false := by simp only [DevB]; simp [*]; done
                rw [hv]
                clear hv
                go_enter Tryd.func79, Tryd.ntmps79
                go_wp2_with fail
                go_ret
                exact ⟨rfl, HB.out⟩
            · skip
              have hv : DevB n ⟨r, s, dd, a, 3, kk, o, ii⟩ = false := by simp only [DevB]; simp [*]; done
              rw [hv]
              clear hv
              go_enter Tryd.func79, Tryd.ntmps79
              go_wp2_with fail
              go_ret
              exact ⟨rfl, HB.out⟩
          · skip
            have hv : DevB n ⟨r, s, dd, a, 3, kk, o, ii⟩ = false := by simp only [DevB]; simp [*]; done
            rw [hv]
            clear hv
            go_enter Tryd.func79, Tryd.ntmps79
            go_wp2_with fail
            go_ret
            exact ⟨rfl, HB.out⟩
        · skip
          have hv : DevB n ⟨r, s, dd, a, 3, kk, o, ii⟩ = false := by simp only [DevB]; simp [*]; done
          rw [hv]
          clear hv
          go_enter Tryd.func79, Tryd.ntmps79
          go_wp2_with fail
          go_ret
          exact ⟨rfl, HB.out⟩
      · skip
        have hv : DevB n ⟨r, s, dd, a, 3, kk, o, ii⟩ = false := by simp only [DevB]; simp [*]; done
        rw [hv]
        clear hv
        go_enter Tryd.func79, Tryd.ntmps79
        go_wp2_with fail
        go_ret
        exact ⟨rfl, HB.out⟩
    · skip
      have hv : DevB n ⟨r, s, dd, a, 3, kk, o, ii⟩ = false := by simp only [DevB]; simp [*]; done
      rw [hv]
      clear hv
      go_enter Tryd.func79, Tryd.ntmps79
      go_wp2_with fail
      go_ret
      exact ⟨rfl, HB.out⟩

  · have hk3b : (k == 3) = false := by simpa using hk3
    by_cases h0 : (0 : Int) ≤ r
    · skip
      by_cases h1 : (0 : Int) ≤ a
      · skip
        by_cases h2 : (0 : Int) ≤ ii
        · skip
          by_cases h3 : (1 : Int) ≤ s
          · skip
            by_cases h4 : s ≤ n
            · skip
              by_cases h5 : (0 : Int) ≤ dd
              · skip
                by_cases h6 : dd ≤ n
                · skip
                  by_cases h7 : (1 : Int) ≤ k
                  · skip
                    by_cases h8 : k ≤ (4 : Int)
                    · skip
                      by_cases h9 : (0 : Int) ≤ o
                      · skip
                        by_cases h10 : o ≤ n
                        · skip
                          have hv : DevB n ⟨r, s, dd, a, k, kk, o, ii⟩ = true := by simp only [DevB]; simp [*]; done
                          rw [hv]
                          clear hv
                          go_enter Tryd.func79, Tryd.ntmps79
                          go_wp2_with fail
                          go_ret
                          exact ⟨rfl, HB.out⟩
                        · skip
                          have hv : DevB n ⟨r, s, dd, a, k, kk, o, ii⟩ = false := by simp only [DevB]; simp [*]; done
                          rw [hv]
                          clear hv
                          go_enter Tryd.func79, Tryd.ntmps79
                          go_wp2_with fail
                          go_ret
                          exact ⟨rfl, HB.out⟩
                      · skip
                        have hv : DevB n ⟨r, s, dd, a, k, kk, o, ii⟩ = false := by simp only [DevB]; simp [*]; done
                        rw [hv]
                        clear hv
                        go_enter Tryd.func79, Tryd.ntmps79
                        go_wp2_with fail
                        go_ret
                        exact ⟨rfl, HB.out⟩
                    · skip
                      have hv : DevB n ⟨r, s, dd, a, k, kk, o, ii⟩ = false := by simp only [DevB]; simp [*]; done
                      rw [hv]
                      clear hv
                      go_enter Tryd.func79, Tryd.ntmps79
                      go_wp2_with fail
                      go_ret
                      exact ⟨rfl, HB.out⟩
                  · skip
                    have hv : DevB n ⟨r, s, dd, a, k, kk, o, ii⟩ = false := by simp only [DevB]; simp [*]; done
                    rw [hv]
                    clear hv
                    go_enter Tryd.func79, Tryd.ntmps79
                    go_wp2_with fail
                    go_ret
                    exact ⟨rfl, HB.out⟩
                · skip
                  have hv : DevB n ⟨r, s, dd, a, k, kk, o, ii⟩ = false := by simp only [DevB]; simp [*]; done
                  rw [hv]
                  clear hv
                  go_enter Tryd.func79, Tryd.ntmps79
                  go_wp2_with fail
                  go_ret
                  exact ⟨rfl, HB.out⟩
              · skip
                have hv : DevB n ⟨r, s, dd, a, k, kk, o, ii⟩ = false := by simp only [DevB]; simp [*]; done
                rw [hv]
                clear hv
                go_enter Tryd.func79, Tryd.ntmps79
                go_wp2_with fail
                go_ret
                exact ⟨rfl, HB.out⟩
            · skip
              have hv : DevB n ⟨r, s, dd, a, k, kk, o, ii⟩ = false := by simp only [DevB]; simp [*]; done
              rw [hv]
              clear hv
              go_enter Tryd.func79, Tryd.ntmps79
              go_wp2_with fail
              go_ret
              exact ⟨rfl, HB.out⟩
          · skip
            have hv : DevB n ⟨r, s, dd, a, k, kk, o, ii⟩ = false := by simp only [DevB]; simp [*]; done
            rw [hv]
            clear hv
            go_enter Tryd.func79, Tryd.ntmps79
            go_wp2_with fail
            go_ret
            exact ⟨rfl, HB.out⟩
        · skip
          have hv : DevB n ⟨r, s, dd, a, k, kk, o, ii⟩ = false := by simp only [DevB]; simp [*]; done
          rw [hv]
          clear hv
          go_enter Tryd.func79, Tryd.ntmps79
          go_wp2_with fail
          go_ret
          exact ⟨rfl, HB.out⟩
      · skip
        have hv : DevB n ⟨r, s, dd, a, k, kk, o, ii⟩ = false := by simp only [DevB]; simp [*]; done
        rw [hv]
        clear hv
        go_enter Tryd.func79, Tryd.ntmps79
        go_wp2_with fail
        go_ret
        exact ⟨rfl, HB.out⟩
    · skip
      have hv : DevB n ⟨r, s, dd, a, k, kk, o, ii⟩ = false := by simp only [DevB]; simp [*]; done
      rw [hv]
      clear hv
      go_enter Tryd.func79, Tryd.ntmps79
      go_wp2_with fail
      go_ret
      exact ⟨rfl, HB.out⟩

end Pv

set_option linter.unusedVariables false
set_option linter.unusedSimpArgs false
namespace Pv
open Go Go.RowKit Go.Proofs

set_option maxHeartbeats 1000000 in
theorem indexf_dev (cp : Value) (J : World → Prop) (pred : Dev → Bool) (S : Nat → Prop) (v : Value) (xs : List Dev) (w : World) (hw : J w)
    (hr : ∀ w', J w' → (kS kDev).R w' S [v] xs)
    (hc : ∀ w' d, J w' → d ∈ xs → Calls Tryd.prog 78 #[d.val, cp] w' fun e w'' => e = .returned (.bool (pred d)) ∧ J w'') :
    Calls Tryd.prog 96 #[v, .func (.func 78) #[] #[cp]] w fun e w' => ∃ i : Int, e = .returned (.int .i64 i) ∧ ((0 ≤ i) ↔ xs.any pred = true) ∧ J w' := by
  obtain ⟨A, c, hv, ⟨hn2, hc2⟩, _⟩ := rdDev (hr w hw)
  subst hv
  have HR := hide hr; clear hr
  have HC := hide hc; clear hc
  have HW := hide hw; clear hw
  go_enter Tryd.func96, Tryd.ntmps96
  go_wp2_with fail
  go_loopw [8] (fun i wr => J wr ∧ ∃ k : Nat, k ≤ xs.length ∧ i = .int .i64 k ∧ (xs.take k).any pred = false) (fun i _ => xs.length - (intOf i).toNat)
  case atStart => exact ⟨HW.out, 0, by omega, rfl, by simp⟩
  case round =>
    obtain ⟨hJ, k, hk, rfl, hno⟩ := hrel
    by_cases hlt : k < xs.length
    · obtain ⟨_, _, e, _, hcell⟩ := rdDev (HR.out wr hJ)
      obtain ⟨ad, hA, _, hok, hcell⟩ := hcell k xs[k] (List.getElem?_eq_getElem hlt)
      injection e with e1 e2 e3
      subst e3
      subst e1
      subst hA
      clear e2
      have hcall := HC.out wr xs[k] hJ (List.getElem_mem hlt)
      have hts : (xs.take (k + 1)).any pred = ((xs.take k).any pred || pred xs[k]) := by
        rw [List.take_succ_eq_append_getElem hlt, List.any_append]; simp
      have HTS := hide hts; clear hts
      have HNO := hide hno; clear hno
      have HM : Hid (xs[k] ∈ xs) := List.getElem_mem hlt
      have HJ := hide hJ; clear hJ hok
      generalize xs[k] = x at *
      obtain ⟨r, s, dd, a, kd, kk, o, ii⟩ := x
      have d0 := hcell 0 _ rfl
      have d1 := hcell 1 _ rfl
      have d2 := hcell 2 _ rfl
      have d3 := hcell 3 _ rfl
      have d4 := hcell 4 _ rfl
      have d5 := hcell 5 _ rfl
      have d6 := hcell 6 _ rfl
      have d7 := hcell 7 _ rfl
      rw [add_at _ _ _ (by omega)] at d1 d2 d3 d4 d5 d6 d7
      rw [Nat.add_zero] at d0
      clear hcell
      simp only [Dev.val] at hcall
      cases hp : pred ⟨r, s, dd, a, kd, kk, o, ii⟩ with
      | true =>
        rw [hp] at hcall
        have HCALL := hide hcall; clear hcall
        go_wp2_with fail
        refine HCALL.out.mono ?_
        rintro e w' ⟨rfl, hJ'⟩
        go_wp2_with fail
        go_ret
        refine ⟨(k : Int), rfl, ?_, hJ'⟩
        constructor
        · intro _; exact List.any_eq_true.2 ⟨_, HM.out, hp⟩
        · intro _; omega
      | false =>
        rw [hp] at hcall
        have HCALL := hide hcall; clear hcall
        go_wp2_with fail
        refine HCALL.out.mono ?_
        rintro e w' ⟨rfl, hJ'⟩
        have HJ' := hide hJ'; clear hJ'
        go_wp2_with fail
        go_roundw
        case rel => exact ⟨HJ'.out, k + 1, by omega, by go_num, by rw [HTS.out, HNO.out, hp]; rfl⟩
        case measure => simp [intOf]; omega
    · have hk2 : k = xs.length := by omega
      subst hk2
      rw [List.take_length] at hno
      have HNO := hide hno; clear hno
      have HJ := hide hJ; clear hJ
      go_wp2_with fail
      go_ret
      refine ⟨-1, rfl, ?_, HJ.out⟩
      rw [HNO.out]; simp

set_option maxHeartbeats 400000 in
theorem containsf_dev (cp : Value) (J : World → Prop) (pred : Dev → Bool) (S : Nat → Prop) (v : Value) (xs : List Dev) (w : World) (hw : J w)
    (hr : ∀ w', J w' → (kS kDev).R w' S [v] xs)
    (hc : ∀ w' d, J w' → d ∈ xs → Calls Tryd.prog 78 #[d.val, cp] w' fun e w'' => e = .returned (.bool (pred d)) ∧ J w'') :
    Calls Tryd.prog 77 #[v, .func (.func 78) #[] #[cp]] w fun e w' => e = .returned (.bool (xs.any pred)) ∧ J w' := by
  have hx := indexf_dev cp J pred S v xs w hw hr hc
  generalize xs.any pred = b at *
  clear hr hc hw
  go_enter Tryd.func77, Tryd.ntmps77
  go_wp2_with fail
  refine hx.mono ?_
  clear hx
  rintro e w' ⟨i, rfl, hi, hJ'⟩
  have HJ' := hide hJ'; clear hJ'
  have HI : decide ((0 : Int) ≤ i) = b := by
    cases b <;> simp_all
  clear hi
  go_wp2_with fail
  go_ret
  exact ⟨rfl, HJ'.out⟩

/-- a coalition is valid -/
def CoalOK (n : Int) (l : List Int) : Prop := ∀ i, i < l.length → 1 ≤ l.getD i 0 ∧ l.getD i 0 ≤ n ∧ (0 < i → l.getD (i - 1) 0 < l.getD i 0)
def CoalP (p : Nat) (n t : Int) (l : List Int) (w : World) (e : Ending) (w' : World) : Prop := Bl w w' ∧ ∃ b, e = .returned (.bool b) ∧ (b = true ↔ vP p n t = true ∧ (l.length : Int) ≤ t ∧ CoalOK n l)
set_option maxHeartbeats 4000000 in
theorem coal_any (p : Nat) (n t : Int) (v : Value) (l : List Int) (S : Nat → Prop) (w : World) (hL : Laid w) (hr : (kS kI).R w S [v] l) :
    Calls Tryd.prog 76 #[.agg #[.int .u64 p, .int .i64 n, .int .i64 t], v] w fun e w' => CoalP p n t l w e w' := by
  have hB : Bl w (w.alloc (.cells #[.int .u64 p, .int .i64 n, .int .i64 t] 24)) := (Below.refl _ _).alloc (Nat.le_refl _) _
  have hvd := valid_any p n t _ (hL.bl hB)
  have hlow := (kS kI).low hr
  obtain ⟨A, c, rfl, ⟨hn2, hc2⟩, hc⟩ := rdI hlow
  have HC := hide hc; clear hc hr hlow hL
  have HB := hide hB; clear hB
  have HVD := hide hvd; clear hvd
  obtain ⟨N, hN⟩ : ∃ N, N = l.length := ⟨_, rfl⟩
  rw [← hN] at hn2 HC ⊢
  have HN := hide hN; clear hN
  cases hv : vP p n t with
  | false =>
    rw [hv] at HVD
    go_enter Tryd.func76, Tryd.ntmps76
    go_wp2_with fail
    refine HVD.out.mono ?_
    rintro e w2 ⟨rfl, hB2⟩
    go_wp2_with fail
    go_ret
    exact ⟨Bl.then HB.out HB.out.size hB2, false, rfl, iff_of_false (by simp) fun h => by rw [hv] at h; simp at h⟩
  | true =>
    rw [hv] at HVD
    by_cases hlt : (N : Int) ≤ t
    · go_enter Tryd.func76, Tryd.ntmps76
      go_wp2_with fail
      refine HVD.out.mono ?_
      rintro e w2 ⟨rfl, hB2⟩
      have c1 : w2.cell? ⟨w.heap.size, 1, none⟩ = some (.int .i64 n) := cell_bl hB2 (by rw [World.cell?_alloc_at _ _ _ _ rfl]; rfl)
      have c2 : w2.cell? ⟨w.heap.size, 2, none⟩ = some (.int .i64 t) := cell_bl hB2 (by rw [World.cell?_alloc_at _ _ _ _ rfl]; rfl)
      have HB2 := hide (Bl.then HB.out HB.out.size hB2); clear hB2
      go_wp2_with fail
      go_loopw [19] (fun i wr => wr = w2 ∧ ∃ k : Nat, k ≤ N ∧ i = .int .i64 k ∧ ∀ i, i < k → 1 ≤ l.getD i 0 ∧ l.getD i 0 ≤ n ∧ (0 < i → l.getD (i - 1) 0 < l.getD i 0)) (fun i _ => N - (intOf i).toNat)
      case atStart => exact ⟨rfl, 0, by omega, rfl, fun i h => by omega⟩
      case round =>
        obtain ⟨rfl, k, hk, rfl, hz⟩ := hrel
        have HZ := hide hz; clear hz
        by_cases hkN : k < N
        · obtain ⟨ad, rfl, hlo, hcell⟩ := HC.out k hkN
          have hcell := cell_bl HB2.out hcell
          have hki : (k : Int) < (N : Int) := by omega
          have hk0 : (0 : Int) ≤ (k : Int) := by omega
          obtain ⟨x, hx⟩ : ∃ x, x = l.getD k 0 := ⟨_, rfl⟩
          rw [← hx] at hcell
          have HX := hide hx; clear hx
          by_cases h1 : x < 1
          · have hno : ¬ CoalOK n l := fun h => by have := (h k (by rw [← HN.out]; exact hkN)).1; rw [← HX.out] at this; omega
            have HNO := hide hno; clear hno
            go_wp2_with fail
            go_ret
            exact ⟨HB2.out, false, rfl, iff_of_false (by simp) fun h => HNO.out h.2.2⟩
          · by_cases h2 : n < x
            · have hno : ¬ CoalOK n l := fun h => by have := (h k (by rw [← HN.out]; exact hkN)).2.1; rw [← HX.out] at this; omega
              have HNO := hide hno; clear hno
              go_wp2_with fail
              go_ret
              exact ⟨HB2.out, false, rfl, iff_of_false (by simp) fun h => HNO.out h.2.2⟩
            · by_cases h3 : k = 0
              · have hk00 : ¬ ((0 : Int) < (k : Int)) := by omega
                have H3 := hide h3; clear h3
                go_wp2_with fail
                go_round
                case rel => exact ⟨by first | trivial | rfl, k + 1, by omega, by go_num, fun i hi => by
                  by_cases e : i = k
                  · subst e; rw [← HX.out]; exact ⟨by omega, by omega, fun h => by have := H3.out; omega⟩
                  · exact HZ.out i (by omega)⟩
                case measure => simp [intOf]; omega
              · obtain ⟨ad', hA, _, hcell'⟩ := HC.out (k - 1) (by omega)
                injection hA with hA; subst hA
                have hcell' := cell_bl HB2.out hcell'
                have hk00 : ((0 : Int) < (k : Int)) := by omega
                have hkm : (k : Int) - 1 = ((k - 1 : Nat) : Int) := by omega
                have hkm2 : ((k - 1 : Nat) : Int) < (N : Int) := by omega
                obtain ⟨y, hy⟩ : ∃ y, y = l.getD (k - 1) 0 := ⟨_, rfl⟩
                rw [← hy] at hcell'
                have HY := hide hy; clear hy
                have H3 := hide h3; clear h3
                by_cases h4 : y < x
                · go_wp2_with fail
                  go_round
                  case rel => exact ⟨by first | trivial | rfl, k + 1, by omega, by go_num, fun i hi => by
                    by_cases e : i = k
                    · subst e; rw [← HX.out, ← HY.out]; exact ⟨by omega, by omega, fun h => h4⟩
                    · exact HZ.out i (by omega)⟩
                  case measure => simp [intOf]; omega
                · have hno : ¬ CoalOK n l := fun h => by
                    have := (h k (by rw [← HN.out]; exact hkN)).2.2 (by omega); rw [← HX.out, ← HY.out] at this; omega
                  have HNO := hide hno; clear hno
                  go_wp2_with fail
                  go_ret
                  exact ⟨HB2.out, false, rfl, iff_of_false (by simp) fun h => HNO.out h.2.2⟩
        · obtain rfl : k = N := by omega
          go_wp2_with fail
          go_ret
          exact ⟨HB2.out, true, rfl, iff_of_true rfl ⟨hv, by rw [← HN.out]; exact hlt, fun i hi => HZ.out i (by rw [HN.out]; exact hi)⟩⟩
    · go_enter Tryd.func76, Tryd.ntmps76
      go_wp2_with fail
      refine HVD.out.mono ?_
      rintro e w2 ⟨rfl, hB2⟩
      have c2 : w2.cell? ⟨w.heap.size, 2, none⟩ = some (.int .i64 t) := cell_bl hB2 (by rw [World.cell?_alloc_at _ _ _ _ rfl]; rfl)
      go_wp2_with fail
      go_ret
      exact ⟨Bl.then HB.out HB.out.size hB2, false, rfl, iff_of_false (by simp) fun h => by have := h.2.1; rw [← HN.out] at this; omega⟩
end Pv

set_option linter.unusedVariables false
set_option linter.unusedSimpArgs false
namespace Pv
open Go Go.RowKit Go.Proofs

/-- a scenario is valid -/
def ScOK (p : Nat) (n t : Int) (corrupt : List Int) (devs : List Dev) (tapes : List (List Nat)) : Prop :=
  vP p n t = true ∧ (corrupt.length : Int) ≤ t ∧ CoalOK n corrupt ∧ (tapes.length : Int) = n ∧ (∀ d, d ∈ devs → DevB n d = true) ∧ ∀ l, l ∈ tapes → ∀ x, x ∈ l → x < p
def ScP (p : Nat) (n t : Int) (corrupt : List Int) (devs : List Dev) (tapes : List (List Nat)) (w : World) (e : Ending) (w' : World) : Prop := Bl w w' ∧ ∃ b, e = .returned (.bool b) ∧ (b = true ↔ ScOK p n t corrupt devs tapes)

set_option maxHeartbeats 400000 in
theorem vs1_any (p : Nat) (n t : Int) (b0 : Nat) (d : Dev) (w : World) (h0 : w.cell? ⟨b0, 0, none⟩ = some (.int .u64 p)) (h1 : w.cell? ⟨b0, 1, none⟩ = some (.int .i64 n)) (h2 : w.cell? ⟨b0, 2, none⟩ = some (.int .i64 t)) :
    Calls Tryd.prog 78 #[d.val, .pointer (some ⟨b0, 0, none⟩)] w fun e w' => e = .returned (.bool (!DevB n d)) ∧ Bl w w' := by
  have hb0 := World.block_lt_of_cell? w _ h0
  have hlie := fun W => lie_any p n t d W
  have HLIE := hide hlie; clear hlie
  generalize DevB n d = b at *
  obtain ⟨r, s, dd, a, k, kk, o, ii⟩ := d
  simp only [Dev.val] at HLIE ⊢
  have hB : Bl w (w.alloc (.cells #[.int .i64 r, .int .i64 s, .int .i64 dd, .int .i64 a, .int .i64 k, .int .u64 kk, .int .i64 o, .int .i64 ii] 99)) := (Below.refl _ _).alloc (Nat.le_refl _) _
  have g0 := cell_bl hB h0
  have g1 := cell_bl hB h1
  have g2 := cell_bl hB h2
  have HB := hide hB; clear hB
  clear h0 h1 h2
  go_enter Tryd.func78, Tryd.ntmps78
  go_wp2_with fail
  refine (HLIE.out _).mono ?_
  rintro e w2 ⟨rfl, hB2⟩
  go_wp2_with fail
  go_ret
  exact ⟨rfl, Bl.then HB.out HB.out.size hB2⟩

set_option maxHeartbeats 400000 in
theorem vs21_any (p : Nat) (b0 : Nat) (x : Nat) (w : World) (h0 : w.cell? ⟨b0, 0, none⟩ = some (.int .u64 p)) :
    Calls Tryd.prog 83 #[.int .u64 x, .pointer (some ⟨b0, 0, none⟩)] w fun e w' => e = .returned (.bool (decide (p ≤ x))) ∧ w' = w := by
  by_cases h : p ≤ x
  · have hi : (p : Int) ≤ (x : Int) := by omega
    rw [decide_eq_true h]
    go_enter Tryd.func83, Tryd.ntmps83
    go_wp2_with fail
    go_ret
    exact ⟨rfl, rfl⟩
  · have hi : ¬ (p : Int) ≤ (x : Int) := by omega
    rw [decide_eq_false h]
    go_enter Tryd.func83, Tryd.ntmps83
    go_wp2_with fail
    go_ret
    exact ⟨rfl, rfl⟩

set_option maxHeartbeats 400000 in
theorem vs2_any (p : Nat) (b0 : Nat) (v : Value) (l : List Nat) (S : Nat → Prop) (w : World) (h0 : w.cell? ⟨b0, 0, none⟩ = some (.int .u64 p)) (hr : (kS kU).R w S [v] l) :
    Calls Tryd.prog 81 #[v, .pointer (some ⟨b0, 0, none⟩)] w fun e w' => e = .returned (.bool (l.any fun x => decide (p ≤ x))) ∧ w' = w := by
  have hcf := containsf_word (.pointer (some ⟨b0, 0, none⟩)) (fun w' => w' = w) (fun x => decide (p ≤ x)) S v l w rfl (fun w' h => by rw [h]; exact hr)
    (fun w' u x h hx hu => by
      obtain ⟨rfl, _⟩ : u = .int .u64 (x : Int) ∧ True := by
        have := hu.1; simp at this; exact ⟨this, trivial⟩
      exact (vs21_any p b0 x w' (by rw [h]; exact h0)).mono fun e w'' ⟨e1, e2⟩ => ⟨e1, by rw [e2]; exact h⟩)
  generalize (l.any fun x => decide (p ≤ x)) = b at *
  have HCF := hide hcf; clear hcf hr h0
  go_enter Tryd.func81, Tryd.ntmps81
  go_wp2_with fail
  refine HCF.out.mono ?_
  rintro e w' ⟨rfl, rfl⟩
  go_wp2_with fail
  go_ret
  exact ⟨rfl, rfl⟩

set_option maxHeartbeats 4000000 in
set_option maxRecDepth 100000 in
theorem vscen_any (p : Nat) (n t : Int) (vc vd vt : Value) (corrupt : List Int) (devs : List Dev) (tapes : List (List Nat)) (S S' S'' : Nat → Prop) (w : World) (hL : Laid w) (hc : (kS kI).R w S [vc] corrupt) (hd : (kS kDev).R w S' [vd] devs) (ht : (kS (kS kU)).R w S'' [vt] tapes) :
    Calls Tryd.prog 57 #[scVal p n t vc vd vt] w fun e w' => ScP p n t corrupt devs tapes w e w' := by
  have hclow := (kS kI).low hc
  have hdlow := (kS kDev).low hd
  have htlow := (kS (kS kU)).low ht
  obtain ⟨At, ct, rfl, _, _⟩ := kS_len ht
  simp only [scVal]
  obtain ⟨W, hW⟩ : ∃ W, W = w.alloc (.cells #[.int .u64 p, .int .i64 n, .int .i64 t, vc, vd, .slice At tapes.length ct] 29) := ⟨_, rfl⟩
  have hB : Bl w W := by rw [hW]; exact (Below.refl _ _).alloc (Nat.le_refl _) _
  have hbox : ∀ i u, (#[.int .u64 p, .int .i64 n, .int .i64 t, vc, vd, .slice At tapes.length ct] : Array Value)[i]? = some u → W.cell? ⟨w.heap.size, i, none⟩ = some u := fun i u hu => by
    rw [hW, World.cell?_alloc_at _ _ _ _ rfl]; exact hu
  have hcoal := coal_any p n t vc corrupt _ W (hL.bl hB) ((kS kI).bl hclow hB)
  have hdv := fun W' (h : Bl W W') => containsf_dev (.pointer (some ⟨w.heap.size, 0, none⟩)) (fun W' => Bl W W') (fun d => !DevB n d) _ vd devs W' h (fun W' h => (kS kDev).bl hdlow (Bl.then hB hB.size h))
    (fun W'' d h hd' => (vs1_any p n t w.heap.size d W'' (cell_bl h (hbox 0 _ rfl)) (cell_bl h (hbox 1 _ rfl)) (cell_bl h (hbox 2 _ rfl))).mono fun e w'' ⟨e1, e2⟩ => ⟨e1, Bl.then h h.size e2⟩)
  have htp := fun W' (h : Bl W W') => containsf_tape (.pointer (some ⟨w.heap.size, 0, none⟩)) (fun W' => Bl W W') (fun l => l.any fun x => decide (p ≤ x)) _ (.slice At tapes.length ct) tapes W' h (fun W' h => (kS (kS kU)).bl htlow (Bl.then hB hB.size h))
    (fun W'' u l h hl hu => (vs2_any p w.heap.size u l _ W'' (cell_bl h (hbox 0 _ rfl)) hu).mono fun e w'' ⟨e1, e2⟩ => ⟨e1, by rw [e2]; exact h⟩)
  have HW := hide hW; clear hW
  have HB := hide hB; clear hB
  have HBX := hide hbox; clear hbox
  have HCO := hide hcoal; clear hcoal
  have HDV := hide hdv; clear hdv
  have HTP := hide htp; clear htp
  clear hclow hdlow htlow hc hd ht hL
  have b0 := HBX.out 0 _ rfl
  have b1 := HBX.out 1 _ rfl
  have b2 := HBX.out 2 _ rfl
  have b3 := HBX.out 3 _ rfl
  rw [HW.out] at b0 b1 b2 b3
  go_enter Tryd.func57, Tryd.ntmps57
  go_wp2_with fail
  rw [← HW.out]
  clear b0 b1 b2 b3
  refine HCO.out.mono ?_
  rintro e W2 ⟨hB2, b, rfl, hb⟩
  have c1 := cell_bl hB2 (HBX.out 1 _ rfl)
  have c2 := cell_bl hB2 (HBX.out 2 _ rfl)
  have c3 := cell_bl hB2 (HBX.out 3 _ rfl)
  have c4 := cell_bl hB2 (HBX.out 4 _ rfl)
  have c5 := cell_bl hB2 (HBX.out 5 _ rfl)
  have HB2 := hide hB2; clear hB2
  have HBB := hide hb; clear hb
  have HBT := hide (Bl.then HB.out HB.out.size HB2.out)
  cases b with
  | false =>
    go_wp2_with fail
    go_ret
    exact ⟨HBT.out, false, rfl, iff_of_false (by simp) fun h => by have := HBB.out.2 ⟨h.1, h.2.1, h.2.2.1⟩; simp at this⟩
  | true =>
    by_cases hlt : (tapes.length : Int) = n
    · have e1 : ((tapes.length : Int) != n) = false := by rw [bne_eq_false_iff_eq]; exact hlt
      have HLT := hide hlt; clear hlt
      have hdv := HDV.out W2 HB2.out
      cases hd : devs.any fun d => !DevB n d with
      | true =>
        rw [hd] at hdv
        have HDV2 := hide hdv; clear hdv
        have hno : ¬ ScOK p n t corrupt devs tapes := fun h => by
          obtain ⟨d, hd1, hd2⟩ := List.any_eq_true.1 hd
          have := h.2.2.2.2.1 d hd1
          rw [this] at hd2; simp at hd2
        have HNO := hide hno; clear hno hd
        go_wp2_with fail
        refine HDV2.out.mono ?_
        rintro e W3 ⟨rfl, hB3⟩
        have HB3 := hide (Bl.then HB.out HB.out.size hB3); clear hB3
        go_wp2_with fail
        go_ret
        exact ⟨HB3.out, false, rfl, iff_of_false (by simp) HNO.out⟩
      | false =>
        rw [hd] at hdv
        have HDV2 := hide hdv; clear hdv
        have hdall : ∀ d, d ∈ devs → DevB n d = true := fun d h => by
          cases hx : DevB n d with
          | true => rfl
          | false => rw [List.any_eq_true.2 ⟨d, h, by rw [hx]; rfl⟩] at hd; cases hd
        have HDA := hide hdall; clear hdall hd
        go_wp2_with fail
        refine HDV2.out.mono ?_
        rintro e W3 ⟨rfl, hB3⟩
        have htp := HTP.out W3 hB3
        have c5' := cell_bl hB3 (HBX.out 5 _ rfl)
        have HB3 := hide hB3; clear hB3 c1 c2 c3 c4 c5
        cases ht : tapes.any fun l => l.any fun x => decide (p ≤ x) with
        | true =>
          rw [ht] at htp
          have HTP2 := hide htp; clear htp
          have hno : ¬ ScOK p n t corrupt devs tapes := fun h => by
            obtain ⟨l, hl1, hl2⟩ := List.any_eq_true.1 ht
            obtain ⟨x, hx1, hx2⟩ := List.any_eq_true.1 hl2
            have := h.2.2.2.2.2 l hl1 x hx1
            have := of_decide_eq_true hx2
            omega
          have HNO := hide hno; clear hno ht
          go_wp2_with fail
          refine HTP2.out.mono ?_
          rintro e W4 ⟨rfl, hB4⟩
          have HB4 := hide (Bl.then HB.out HB.out.size hB4); clear hB4
          go_wp2_with fail
          go_ret
          exact ⟨HB4.out, false, rfl, iff_of_false (by simp) HNO.out⟩
        | false =>
          rw [ht] at htp
          have HTP2 := hide htp; clear htp
          have hyes : ScOK p n t corrupt devs tapes := ⟨(HBB.out.1 (by first | trivial | rfl)).1, (HBB.out.1 (by first | trivial | rfl)).2.1, (HBB.out.1 (by first | trivial | rfl)).2.2, HLT.out, HDA.out, fun l hl x hx => by
            rcases Nat.lt_or_ge x p with h | h
            · exact h
            · rw [List.any_eq_true.2 ⟨l, hl, List.any_eq_true.2 ⟨x, hx, decide_eq_true h⟩⟩] at ht; cases ht⟩
          have HY := hide hyes; clear hyes ht
          go_wp2_with fail
          refine HTP2.out.mono ?_
          rintro e W4 ⟨rfl, hB4⟩
          have HB4 := hide (Bl.then HB.out HB.out.size hB4); clear hB4
          go_wp2_with fail
          go_ret
          exact ⟨HB4.out, true, rfl, iff_of_true rfl HY.out⟩
    · have e1 : ((tapes.length : Int) != n) = true := by rw [bne_iff_ne]; exact hlt
      have HLT := hide hlt; clear hlt
      go_wp2_with fail
      go_ret
      exact ⟨HBT.out, false, rfl, iff_of_false (by simp) fun h => HLT.out h.2.2.2.1⟩
end Pv

set_option linter.unusedVariables false
set_option linter.unusedSimpArgs false
namespace Pv
open Go Go.RowKit Go.Proofs

set_option maxHeartbeats 400000 in
theorem tnew_any (A : Option Addr) (n c : Nat) (w : World) :
    Calls Tryd.prog 58 #[.slice A n c] w fun e w' => e = .returned (.pointer (some ⟨w.heap.size, 0, none⟩)) ∧ w' = w.alloc (.cells #[.slice A n c, .int .i64 0] 135) := by
  go_enter Tryd.func58, Tryd.ntmps58
  go_wp2
  go_ret
  exact ⟨rfl, rfl⟩
/-- the tapes: a row of pointers to structs in blocks of G; tape i holds words read below B0, and how many are taken -/
def TapR (w : World) (B0 : Nat) (G : Nat → Prop) (vtp : Value) (tps : List (List Nat × Nat)) : Prop :=
  ∃ tb : Nat → Nat, Ow kV w B0 108 vtp ((List.range tps.length).map fun i => .pointer (some ⟨tb i, 0, none⟩)) ∧ (∀ g, vtp.ownBlock = some g → G g) ∧
    (∀ i, i < tps.length → (∃ v, w.heap[tb i]? = some (.cells #[v, .int .i64 ((tps.getD i ([], 0)).2 : Nat)] 135 (0, 0)) ∧ (kS kU).R w (fun b => b < B0) [v] (tps.getD i ([], 0)).1) ∧ G (tb i) ∧ B0 ≤ tb i ∧ vtp.ownBlock ≠ some (tb i)) ∧
    ∀ i j, i < tps.length → j < tps.length → tb i = tb j → i = j
def NewP (p : Nat) (n t : Nat) (corrupt : List Int) (devs : List Dev) (tapes : List (List Nat)) (vt : Value) (w : World) (e : Ending) (w' : World) : Prop :=
  Bl w w' ∧ ((¬ ScOK p n t corrupt devs tapes ∧ e = .returned (.tuple #[.pointer none, .int .i64 1])) ∨
    (ScOK p n t corrupt devs tapes ∧ ∃ nb vb vtp, e = .returned (.tuple #[.pointer (some ⟨nb, 0, none⟩), .int .i64 0]) ∧ NetR w' w.heap.size (fun b => b = nb ∨ b = vb) nb ⟨p, n, t, corrupt, devs⟩ vt vtp 0 (fun _ => []) ∧
      TapR w' w.heap.size (fun b => w.heap.size ≤ b ∧ b < w'.heap.size ∧ b ≠ nb ∧ b ≠ vb) vtp (tapes.map fun l => (l, 0))))
theorem ptrinfo : (Tryd.prog.info? 108).map (fun i => (i.zero, i.size, i.bytes)) = some (some (.pointer none), 1, 8) := by kernel_rfl
theorem viewinfo : (Tryd.prog.info? 46).map (fun i => (i.zero, i.size, i.bytes)) = some (some (.slice none 0 0), 1, 24) := by kernel_rfl
/-- a network under construction: k tapes are laid -/
structure NwI (w wr : World) (nb vb n : Nat) (C : List Value) (vtp : Value) (tb : Nat → Nat) (k : Nat) (words : Nat → List Nat) : Prop where
  box : wr.heap[nb]? = some (.cells (C ++ [vtp]).toArray 93 (0, 0))
  row : RowAt wr vb 46 n (fun _ => .slice none 0 0)
  tp : Ow kV wr w.heap.size 108 vtp ((List.range k).map fun i => .pointer (some ⟨tb i, 0, none⟩))
  cells : ∀ i, i < k → ∃ v, wr.heap[tb i]? = some (.cells #[v, .int .i64 0] 135 (0, 0)) ∧ (kS kU).R w (fun b => b < w.heap.size) [v] (words i)
  sep : ∀ i, i < k → w.heap.size ≤ tb i ∧ tb i < wr.heap.size ∧ tb i ≠ nb ∧ tb i ≠ vb ∧ vtp.ownBlock ≠ some (tb i)
  inj : ∀ i j, i < k → j < k → tb i = tb j → i = j
  own : ∀ g, vtp.ownBlock = some g → g ≠ nb ∧ g ≠ vb
  sep0 : nb ≠ vb ∧ w.heap.size ≤ nb ∧ w.heap.size ≤ vb
  bel : Bl w wr
theorem NwI.step {w wr W w5 w7 : World} {nb vb n : Nat} {C : List Value} {vtp v v7 : Value} {tb : Nat → Nat} {k : Nat} {words : Nat → List Nat} (h : NwI w wr nb vb n C vtp tb k words) (hC : C.length = 8) (hW : Dr wr W) {ob : Obj}
    (h5 : w5 = (W.alloc (.cells #[v, .int .i64 0] 135)).alloc ob) (hv : (kS kU).R w (fun b => b < w.heap.size) [v] (words k)) (hg7 : w5.grownBy w7 vtp.ownBlock) (hat : v7.ownBlock = vtp.ownBlock ∨ ∃ b, v7.ownBlock = some b ∧ w5.heap.size ≤ b)
    (hO : Ow kV w7 w.heap.size 108 v7 (((List.range k).map fun i => Value.pointer (some ⟨tb i, 0, none⟩)) ++ [.pointer (some ⟨wr.heap.size, 0, none⟩)])) : NwI w (w7.setCell ⟨nb, 8, none⟩ v7) nb vb n C v7 (upd tb k wr.heap.size) (k + 1) words := by
  have hs5 : w5.heap.size = wr.heap.size + 2 := by rw [h5, Dr.alloc_heap, Array.size_push, Dr.alloc_heap, Array.size_push, hW.heap]
  have hB5 : Bl wr w5 := by
    rw [h5]; exact ((hW.below wr.heap.size).alloc (by rw [hW.heap]; exact Nat.le_refl _) _).alloc (by rw [Dr.alloc_heap, Array.size_push, hW.heap]; omega) _
  have hnb := (Array.getElem?_eq_some_iff.1 h.box).1
  have hch : ∀ b, b < wr.heap.size → b ≠ nb → vtp.ownBlock ≠ some b → (w7.setCell ⟨nb, 8, none⟩ v7).heap[b]? = wr.heap[b]? := fun b hb h1 h2 => by
    rw [heap_setCell_ne _ _ _ _ h1, hg7.block b (by omega) (fun e => h2 e.symm), hB5.block b hb]
  have hcell0 : w7.heap[nb]? = some (.cells (C ++ [vtp]).toArray 93 (0, 0)) := by
    rw [hg7.block nb (by omega) (fun e => (h.own nb e.symm).1 rfl), hB5.block nb hnb]; exact h.box
  have hown7 : ∀ g, v7.ownBlock = some g → vtp.ownBlock = some g ∨ wr.heap.size + 2 ≤ g := fun g hg => by
    have := hat_of hat g hg; rwa [hs5] at this
  have hsz : w7.heap.size = (w7.setCell ⟨nb, 8, none⟩ v7).heap.size := by simp [World.setCell]
  have hvb := h.row.lt
  exact {
    box := by
      simp [World.setCell, Array.getElem?_modify, hcell0, List.set_append, hC]
    row := h.row.same (hch vb hvb h.sep0.1.symm fun e => (h.own vb e).2 rfl)
    tp := by
      have := hO.kp (w' := w7) (Kp.refl _ _)
      rw [List.range_succ, List.map_append, List.map_cons, List.map_nil, upd_same]
      have e : (List.range k).map (fun i => Value.pointer (some ⟨upd tb k wr.heap.size i, 0, none⟩)) = (List.range k).map (fun i => Value.pointer (some ⟨tb i, 0, none⟩)) := List.map_congr_left fun i hi => by
        rw [upd_ne _ _ (by have := List.mem_range.1 hi; omega)]
      rw [e]
      exact hO.set_far _ _ (fun e => by
        rcases hown7 nb e with h' | h'
        · exact (h.own nb h').1 rfl
        · omega) fun _ _ _ h => h
    cells := fun i hi => by
      by_cases e : i = k
      · subst e
        rw [upd_same]
        refine ⟨v, ?_, hv⟩
        rw [heap_setCell_ne _ _ _ _ (show wr.heap.size ≠ nb by omega), hg7.block _ (by omega) (fun e => by have := (h.tp.base _ e.symm).2; omega), h5, Below.heap_alloc _ _ _ (by rw [Dr.alloc_heap, Array.size_push, hW.heap]; omega), Dr.alloc_heap, Array.getElem?_push, if_pos (by rw [hW.heap])]
      · rw [upd_ne _ _ e]
        obtain ⟨v', h1, h2⟩ := h.cells i (by omega)
        have hs := h.sep i (by omega)
        exact ⟨v', by rw [hch _ hs.2.1 hs.2.2.1 hs.2.2.2.2]; exact h1, h2⟩
    sep := fun i hi => by
      by_cases e : i = k
      · subst e
        rw [upd_same]
        refine ⟨h.bel.size, by rw [← hsz]; have := hg7.size; omega, by omega, by omega, fun e => ?_⟩
        rcases hown7 _ e with h' | h'
        · have := (h.tp.base _ h').2; omega
        · omega
      · rw [upd_ne _ _ e]
        have hs := h.sep i (by omega)
        refine ⟨hs.1, by rw [← hsz]; have := hg7.size; omega, hs.2.2.1, hs.2.2.2.1, fun e => ?_⟩
        rcases hown7 _ e with h' | h'
        · exact hs.2.2.2.2 h'
        · omega
    inj := fun i j hi hj e => by
      by_cases e1 : i = k <;> by_cases e2 : j = k
      · omega
      · subst e1; rw [upd_same, upd_ne _ _ e2] at e; have := (h.sep j (by omega)).2.1; omega
      · subst e2; rw [upd_same, upd_ne _ _ e1] at e; have := (h.sep i (by omega)).2.1; omega
      · rw [upd_ne _ _ e1, upd_ne _ _ e2] at e; exact h.inj i j (by omega) (by omega) e
    own := fun g hg => by
      rcases hown7 g hg with h' | h'
      · exact h.own g h'
      · exact ⟨by omega, by omega⟩
    sep0 := h.sep0
    bel := ((h.bel.trans (hB5.mono h.bel.size)).grown hg7 (Nat.le_trans h.bel.size hB5.size) fun g hg => (h.tp.base g hg).1).setCell h.sep0.2.1 _ }
set_option maxHeartbeats 4000000 in
set_option maxRecDepth 100000 in
theorem new_any (p n t : Nat) (vc vd vt : Value) (corrupt : List Int) (devs : List Dev) (tapes : List (List Nat)) (w : World) (hL : Laid w) (hc : (kS kI).R w Any [vc] corrupt) (hd : (kS kDev).R w Any [vd] devs) (ht : (kS (kS kU)).R w Any [vt] tapes) :
    Calls Tryd.prog 42 #[scVal p n t vc vd vt] w fun e w' => NewP p n t corrupt devs tapes vt w e w' := by
  have hclow := (kS kI).low hc
  have hdlow := (kS kDev).low hd
  have htlow := (kS (kS kU)).low ht
  obtain ⟨Ac, cc, rfl, _, _⟩ := kS_len hc
  obtain ⟨Ad, cd, rfl, _, _⟩ := kS_len hd
  obtain ⟨At, ct, rfl, ⟨hlt1, hlt2⟩, hrt⟩ := rd_open rfl htlow
  have hB0 : Bl w (w.alloc (.cells #[.int .u64 p, .int .i64 n, .int .i64 t, .slice Ac corrupt.length cc, .slice Ad devs.length cd, .slice At tapes.length ct] 29)) := (Below.refl _ _).alloc (Nat.le_refl _) _
  have hvs := vscen_any p n t (.slice Ac corrupt.length cc) (.slice Ad devs.length cd) (.slice At tapes.length ct) corrupt devs tapes _ _ _ _ (hL.bl hB0) ((kS kI).bl hclow hB0) ((kS kDev).bl hdlow hB0) ((kS (kS kU)).bl htlow hB0)
  simp only [scVal] at hvs ⊢
  have HVS := hide hvs; clear hvs
  have HB0 := hide hB0; clear hB0
  have HRT := hide hrt; clear hrt
  have HCLOW := hide hclow; have HDLOW := hide hdlow
  clear hclow hdlow htlow hc hd ht hL
  obtain ⟨D, hD⟩ : ∃ D, D = tapes.length := ⟨_, rfl⟩
  obtain ⟨D1, hD1⟩ : ∃ D1, D1 = corrupt.length := ⟨_, rfl⟩
  obtain ⟨D2, hD2⟩ : ∃ D2, D2 = devs.length := ⟨_, rfl⟩
  rw [← hD] at hlt1 HVS HB0 ⊢
  rw [← hD1] at HVS HB0 HCLOW ⊢
  rw [← hD2] at HVS HB0 HDLOW ⊢
  have HD := hide hD; clear hD hD1 hD2
  go_enter Tryd.func42, Tryd.ntmps42
  go_wp2_with fail
  refine HVS.out.mono ?_
  rintro e w2 ⟨hB2, b, rfl, hb⟩
  have HBB := hide hb; clear hb
  have HB2 := hide (Bl.then HB0.out HB0.out.size hB2)
  cases b with
  | false =>
    go_wp2_with fail
    go_ret2
    exact ⟨HB2.out, .inl ⟨fun h => by have := HBB.out.2 h; simp at this, rfl⟩⟩
  | true =>
    have hok : ScOK p n t corrupt devs tapes := HBB.out.1 (by first | trivial | rfl)
    have hn13 : n ≤ 13 := by
      have := hok.1
      simp only [vP, Bool.and_eq_true, decide_eq_true_eq] at this
      omega
    have HOK := hide hok; clear hok HBB
    have hbx : ∀ i u, (#[.int .u64 p, .int .i64 n, .int .i64 t, .slice Ac D1 cc, .slice Ad D2 cd, .slice At D ct] : Array Value)[i]? = some u → w2.cell? ⟨w.heap.size, i, none⟩ = some u := fun i u hu => cell_bl hB2 (by rw [World.cell?_alloc_at _ _ _ _ rfl]; exact hu)
    have c0 := hbx 0 _ rfl
    have c1 := hbx 1 _ rfl
    have c2 := hbx 2 _ rfl
    have c3 := hbx 3 _ rfl
    have c4 := hbx 4 _ rfl
    have c5 := hbx 5 _ rfl
    have hwl : w.heap.size < w2.heap.size := World.block_lt_of_cell? _ _ c0
    have hmk := fun W : World => run_make_row' (P := Tryd.prog) 90 46 (.slice none 0 0) 24 Tryd.underlying90 viewinfo rfl .i64 .i64 n (by omega) (by omega) W
    clear hbx hB2
    go_wp2_with fail
    go_region_held3 (fun w' => w'.cell? ⟨w.heap.size, 0, none⟩ = some (.int .u64 (p : Int)) ∧ w'.cell? ⟨w.heap.size, 1, none⟩ = some (.int .i64 (n : Int)) ∧ w'.cell? ⟨w.heap.size, 2, none⟩ = some (.int .i64 (t : Int)) ∧ w'.cell? ⟨w.heap.size, 3, none⟩ = some (.slice Ac D1 cc) ∧ w'.cell? ⟨w.heap.size, 4, none⟩ = some (.slice Ad D2 cd) ∧ w'.cell? ⟨w.heap.size, 5, none⟩ = some (.slice At D ct))
      (first
        | (go_keep; done)
        | ((try go_split_ands); (repeat' apply And.intro) <;> first
            | assumption
            | (exact cell_bl ((Below.refl _ _).alloc (Nat.le_refl _) _) (by assumption))))
      (fail)
    obtain ⟨W0, hW0⟩ : ∃ W0, W0 = ((w2.alloc (.cells (madeCells #[.slice none 0 0] n) 46)).alloc (.cells #[.int .u64 p, .int .i64 n, .int .i64 t, .slice Ac D1 cc, .slice Ad D2 cd, .slice At D ct, .int .i64 0, .slice (some ⟨w2.heap.size, 0, none⟩) n n, .slice none 0 0] 93)).drew := ⟨_, rfl⟩
    rw [← hW0]
    obtain ⟨nb, hnb⟩ : ∃ nb, nb = w2.heap.size + 1 := ⟨_, rfl⟩
    obtain ⟨vb, hvb⟩ : ∃ vb, vb = w2.heap.size := ⟨_, rfl⟩
    rw [← hvb] at hW0 hnb ⊢
    rw [← hnb]
    have hB20 : Bl w2 W0 := by rw [hW0]; exact (((Below.refl _ _).alloc (Nat.le_refl _) _).alloc (by rw [Dr.alloc_heap, Array.size_push]; omega) _).drew
    have hI0 : NwI w W0 nb vb n [.int .u64 p, .int .i64 n, .int .i64 t, .slice Ac D1 cc, .slice Ad D2 cd, .slice At D ct, .int .i64 0, .slice (some ⟨vb, 0, none⟩) n n] (.slice none 0 0) (fun _ => 0) 0 (fun i => tapes.getD i []) := {
      box := by
        rw [hW0, hnb, hvb]
        show ((w2.heap.push _).push _)[_]? = _
        rw [Array.getElem?_push, if_pos (by rw [Array.size_push])]
        rfl
      row := by
        have h1 := RowAt.made w2 (.slice none 0 0) n 46
        rw [← hvb] at h1
        refine h1.same ?_
        rw [hW0]
        exact Below.heap_alloc _ _ _ (by rw [Dr.alloc_heap, Array.size_push, hvb]; omega)
      tp := Ow.nil _ _ _ _
      cells := fun i hi => by omega
      sep := fun i hi => by omega
      inj := fun i j hi => by omega
      own := fun g hg => by cases hg
      sep0 := ⟨by omega, by have := HB2.out.size; omega, by have := HB2.out.size; omega⟩
      bel := HB2.out.trans (hB20.mono HB2.out.size) }
    have c5' := cell_bl hB20 c5
    have HI0 := hide hI0; clear hI0 hW0 hmk c0 c1 c2 c3 c4 c5
    have HC5 := hide c5'
    have HNB := hide hnb; have HVB := hide hvb; have HB20 := hide hB20
    clear hnb hvb hB20
    go_wp2_with fail
    clear c5'
    obtain ⟨bs, hbs⟩ : ∃ bs, bs = w.heap.size := ⟨_, rfl⟩
    go_loopw [20] (fun i wr => ∃ k : Nat, k ≤ D ∧ i = .int .i64 k ∧ ∃ vtp tb, NwI w wr nb vb n [.int .u64 p, .int .i64 n, .int .i64 t, .slice Ac D1 cc, .slice Ad D2 cd, .slice At D ct, .int .i64 0, .slice (some ⟨vb, 0, none⟩) n n] vtp tb k (fun i => tapes.getD i [])) (fun i _ => D - (intOf i).toNat)
    case atStart => exact ⟨0, by omega, rfl, _, _, HI0.out⟩
    case round =>
      obtain ⟨k, hk, rfl, vtp, tb, hI⟩ := hrel
      by_cases hkD : k < D
      · as_aux_lemma =>
        obtain ⟨ad, u, rfl, _, hu, hcu⟩ := HRT.out k (tapes.getD k []) (by rw [List.getD_eq_getElem?_getD, List.getElem?_eq_getElem (by rw [← HD.out]; exact hkD)]; rfl)
        have hcuw := cell_bl hI.bel hcu
        obtain ⟨Au, cu, rfl, _, _⟩ := kS_len hu
        have hki : (k : Int) < (D : Int) := by omega
        have hk0 : (0 : Int) ≤ (k : Int) := by omega
        obtain ⟨Av, cv, rfl, _, _⟩ := hI.tp.slice
        simp only [List.length_map, List.length_range] at hI
        have c8 : wr.cell? ⟨nb, 8, none⟩ = some (.slice Av k cv) := by simp [World.cell?, hI.box]
        have f8 : wr.frozen? ⟨nb, 8, none⟩ = false := by simp [World.frozen?, hI.box]
        have hnbl : nb < wr.heap.size := World.block_lt_of_cell? _ _ c8
        have hn8 : some nb ≠ (Value.slice Av k cv).ownBlock := fun e => (hI.own nb e.symm).1 rfl
        have hHO : ∀ (wt : World) (ob : Obj) (v : Value), v = .slice Av k cv → Bl wr wt → Ow kV (wt.alloc ob) w.heap.size 108 v ((List.range k).map fun i => .pointer (some ⟨tb i, 0, none⟩)) := fun wt ob v hv hB => by
          rw [hv]; exact hI.tp.bl (hB.alloc hB.size ob)
        have hHX : ∀ (wt : World) (v : Value), v = .slice Av k cv → Bl wr wt → (kS kV).R (wt.alloc (.cells #[.pointer (some ⟨wr.heap.size, 0, none⟩)] 108)) (Ne v.ownBlock) [.slice (some ⟨wt.heap.size, 0, none⟩) 1 1] [.pointer (some ⟨wr.heap.size, 0, none⟩)] := fun wt v hv hB =>
          (kS kV).sub (litK (W := wt) (S := fun _ => False) (us := [.pointer (some ⟨wr.heap.size, 0, none⟩)]) (K := kV) ⟨rfl, rfl⟩ 108) fun b _ hb e => by
            rw [hv] at e
            have := (hI.tp.base _ e.symm).2
            rcases hb with hb | rfl
            · exact hb.1
            · have := hB.size; omega
        have hbase := hI.bel.size
        have hlen8 : (((List.range k).map fun i => Value.pointer (some ⟨tb i, 0, none⟩)).length + [Value.pointer (some ⟨wr.heap.size, 0, none⟩)].length) * 8 ≤ 140737488355328 := by
          have h1 : (tapes.length : Int) = n := HOK.out.2.2.2.1
          have h2 := HD.out
          simp; omega
        have HI := hide hI; have HU := hide hu; have HC8 := hide c8; have HF8 := hide f8; have HHO := hide hHO; have HHX := hide hHX; have HLEN := hide hlen8
        clear hI hu c8 f8 hHO hHX hlen8
        go_wp2_with fail
        refine wp_region_last (n := 11) (fun w' => w'.cell? ⟨nb, 8, none⟩ = some (.slice Av k cv)) (by kernel_rfl) (by kernel_rfl) (by kernel_rfl) rfl HC8.out (fun hHeld => ?_)
        refine wpAnyH_take (i := 0) (oi := { dst := some 24, op := Go.Op.move (Go.Operand.tmp 4), type := 36, pos := _, after := _, guard := none }) (v := ?_) rfl (by kernel_rfl) (by kernel_rfl) (by kernel_rfl) (fun _ _ _ h => h) (Or.inl ⟨by rfl, ?_⟩) (by assumption) ?_
        rotate_left
        · (intro w hSw; (try dsimp only at hSw); go_simp; (try (with_reducible rfl)))
        try simp only [Act.put, List.setIfInBounds_toArray, List.set_cons_zero, List.set_cons_succ]
        refine wpAnyH_take (i := 1) (oi := { dst := some 25, op := Go.Op.move (Go.Operand.tmp 4), type := 36, pos := _, after := _, guard := none }) (v := ?_) rfl (by kernel_rfl) (by kernel_rfl) (by kernel_rfl) (fun _ _ _ h => h) (Or.inl ⟨by rfl, ?_⟩) (by assumption) ?_
        rotate_left
        · (intro w hSw; (try dsimp only at hSw); go_simp; (try (with_reducible rfl)))
        try simp only [Act.put, List.setIfInBounds_toArray, List.set_cons_zero, List.set_cons_succ]
        refine wpAnyH_take (i := 2) (oi := { dst := some 26, op := Go.Op.nilCheck (Go.Operand.tmp 25), type := 0, pos := _, after := _, guard := none }) (v := ?_) rfl (by kernel_rfl) (by kernel_rfl) (by kernel_rfl) (fun _ _ _ h => h) (Or.inl ⟨by rfl, ?_⟩) (by assumption) ?_
        rotate_left
        · (intro w hSw; (try dsimp only at hSw); go_simp; (try (with_reducible rfl)))
        try simp only [Act.put, List.setIfInBounds_toArray, List.set_cons_zero, List.set_cons_succ]
        refine wpAnyH_take (i := 3) (oi := { dst := some 27, op := Go.Op.fieldAddr 93 (Go.Operand.tmp 26) 3, type := 0, pos := _, after := _, guard := none }) (v := ?_) rfl (by kernel_rfl) (by kernel_rfl) (by kernel_rfl) (fun _ _ _ h => h) (Or.inl ⟨by rfl, ?_⟩) (by assumption) ?_
        rotate_left
        · (intro w hSw; (try dsimp only at hSw); go_simp; (try (with_reducible rfl)))
        try simp only [Act.put, List.setIfInBounds_toArray, List.set_cons_zero, List.set_cons_succ]
        refine wpAnyH_take (i := 4) (oi := { dst := some 28, op := Go.Op.load 91 (Go.Operand.tmp 27), type := 91, pos := _, after := _, guard := none }) (v := ?_) rfl (by kernel_rfl) (by kernel_rfl) (by kernel_rfl) (fun _ _ _ h => h) (Or.inl ⟨by rfl, ?_⟩) (by assumption) ?_
        rotate_left
        · (intro w hSw; (try dsimp only at hSw); go_simp; (try (with_reducible rfl)))
        try simp only [Act.put, List.setIfInBounds_toArray, List.set_cons_zero, List.set_cons_succ]
        refine wpAnyH_take (i := 5) (oi := { dst := some 29, op := Go.Op.move (Go.Operand.tmp 6), type := 30, pos := _, after := _, guard := none }) (v := ?_) rfl (by kernel_rfl) (by kernel_rfl) (by kernel_rfl) (fun _ _ _ h => h) (Or.inl ⟨by rfl, ?_⟩) (by assumption) ?_
        rotate_left
        · (intro w hSw; (try dsimp only at hSw); go_simp; (try (with_reducible rfl)))
        try simp only [Act.put, List.setIfInBounds_toArray, List.set_cons_zero, List.set_cons_succ]
        refine wpAnyH_ready (rs := [6]) (by kernel_rfl) (by simp) ?_
        refine AllReadyH.cons (o := { dst := some 30, op := Go.Op.call { callee := Go.Callee.value (Go.Operand.func 58), args := #[Go.Operand.tmp 29], argTypes := #[30] }, type := 108, pos := _, after := _, guard := none }) rfl (fun K hK => ?_) AllReadyH.nil
        go_simp
        refine (tnew_any _ _ _ _).mono ?_
        rintro e wt ⟨rfl, hwt⟩
        have hBt : Bl wr.drew wt := Eq.subst (motive := fun x => Bl wr.drew x) hwt.symm ((Below.refl _ _).alloc (Nat.le_refl _) _)
        have HWT := hide hwt
        clear hwt
        simp only []
        refine hK.out _ _ ?_ (fun hHeld => ?_)
        · exact cell_bl hBt HC8.out
        clear hK K
        try simp only [Act.put, List.setIfInBounds_toArray, List.set_cons_zero, List.set_cons_succ]
        refine wpAnyH_ready (rs := [7]) (by kernel_rfl) (by simp) ?_
        refine AllReadyH.cons (o := { dst := some 31, op := Go.Op.buildSlice 91 1 #[(0, Go.Operand.tmp 30)], type := 91, pos := _, after := _, guard := none }) rfl (fun K hK => ?_) AllReadyH.nil
        go_simp
        refine hK.out _ _ ?_ (fun hHeld => ?_)
        · exact cell_bl (hBt.alloc hBt.size _) HC8.out
        clear hK K
        try simp only [Act.put, List.setIfInBounds_toArray, List.set_cons_zero, List.set_cons_succ]
        refine wpAnyH_ready (rs := [8]) (by kernel_rfl) (by simp) ?_
        refine AllReadyH.cons (o := { dst := some 32, op := Go.Op.call { callee := Go.Callee.builtin Go.Builtin.append, args := #[Go.Operand.tmp 28, Go.Operand.tmp 31], argTypes := #[91, 91] }, type := 91, pos := _, after := _, guard := none }) rfl (fun K hK => ?_) AllReadyH.nil
        refine Ow.append_step kV (w0 := wt.alloc (.cells #[.pointer (some ⟨wr.heap.size, 0, none⟩)] 108)) w.heap.size rfl (.tmp 28) (.tmp 31) 91 108 (.pointer none) 8 rfl Tryd.underlying91 ptrinfo rfl (.slice Av k cv) _ ((List.range k).map fun i => .pointer (some ⟨tb i, 0, none⟩)) [.pointer (some ⟨wr.heap.size, 0, none⟩)] rfl rfl (HHO.out _ _ _ rfl ((Bl.dr (Below.refl _ _) (Dr.one (Dr.refl _))).trans hBt)) (Below.refl _ _) (Nat.le_trans hbase (hBt.alloc hBt.size _).size) (HHX.out _ _ rfl ((Bl.dr (Below.refl _ _) (Dr.one (Dr.refl _))).trans hBt)) HLEN.out (by decide) ?_
        intro v7 w7 hO7 hB7 hg7 hat7
        obtain ⟨A7, d7, rfl, hc7, _⟩ := hO7.slice
        simp only [List.length_append, List.length_map, List.length_range, List.length_cons, List.length_nil, Nat.zero_add] at hO7 hat7
        refine hK.out _ _ ?_ (fun hHeld => ?_)
        · exact hg7.cell (cell_bl (hBt.alloc hBt.size _) HC8.out) hn8
        clear hK K
        try simp only [Act.put, List.setIfInBounds_toArray, List.set_cons_zero, List.set_cons_succ]
        refine wpAnyH_take (i := 9) (oi := { dst := some 33, op := Go.Op.nilCheck (Go.Operand.tmp 24), type := 0, pos := _, after := _, guard := none }) (v := ?_) rfl (by kernel_rfl) (by kernel_rfl) (by kernel_rfl) (fun _ _ _ h => h) (Or.inl ⟨by rfl, ?_⟩) (by assumption) ?_
        rotate_left
        · (intro w hSw; (try dsimp only at hSw); go_simp; (try (with_reducible rfl)))
        try simp only [Act.put, List.setIfInBounds_toArray, List.set_cons_zero, List.set_cons_succ]
        refine wpAnyH_take (i := 10) (oi := { dst := some 34, op := Go.Op.fieldAddr 93 (Go.Operand.tmp 33) 3, type := 0, pos := _, after := _, guard := none }) (v := ?_) rfl (by kernel_rfl) (by kernel_rfl) (by kernel_rfl) (fun _ _ _ h => h) (Or.inl ⟨by rfl, ?_⟩) (by assumption) ?_
        rotate_left
        · (intro w hSw; (try dsimp only at hSw); go_simp; (try (with_reducible rfl)))
        try simp only [Act.put, List.setIfInBounds_toArray, List.set_cons_zero, List.set_cons_succ]
        have cv7 := hg7.cell (cell_bl (hBt.alloc hBt.size (.cells #[.pointer (some ⟨wr.heap.size, 0, none⟩)] 108)) HC8.out) hn8
        have cf7 : w7.frozen? ⟨nb, 8, none⟩ = false := (hg7.frozen_far _ (Nat.lt_of_lt_of_le hnbl (hBt.alloc hBt.size _).size) hn8).trans (free_bl (hBt.alloc hBt.size _) HC8.out HF8.out)
        refine wpAnyH_done (by kernel_rfl) ?_ _
        refine lastQ_normal ?_
        refine wpOp_step (i := 11) (o := { dst := none, op := Go.Op.store 91 (Go.Operand.tmp 34) (Go.Operand.tmp 32), type := 0, pos := _, after := _, guard := none }) rfl (fun K hK => ?_)
        go_simp
        refine hK _ _ ?_
        clear hK K
        all_goals (
          have hs5 := NwI.step (ob := .cells #[.pointer (some ⟨wr.heap.size, 0, none⟩)] 108) HI.out rfl (Dr.one (Dr.refl wr)) (congrArg (fun x : World => x.alloc (.cells #[.pointer (some ⟨wr.heap.size, 0, none⟩)] 108)) HWT.out) HU.out hg7 hat7 hO7
          have HS5 := hide hs5; clear hs5 hO7 hg7 hat7 hB7)
        all_goals go_wp2_with fail
        all_goals go_round
        all_goals (first | exact ⟨k + 1, by omega, by go_num, _, _, HS5.out⟩ | (simp [intOf]; omega))
      · have hDk : k = D := by omega
        subst hDk
        have HI := hide hI; clear hI
        go_wp2_with fail
        go_ret2
        have hI := HI.out
        have e1 : nb < wr.heap.size := (Array.getElem?_eq_some_iff.1 hI.box).1
        refine ⟨hI.bel, .inr ⟨HOK.out, nb, vb, vtp, rfl, ⟨_, _, vb, fun _ => .slice none 0 0, hI.box, (kS kI).bl HCLOW.out hI.bel, (kS kDev).bl HDLOW.out hI.bel, Rws.start kEv 67 hI.row ⟨.inr rfl, hI.sep0.1.symm⟩ hI.sep0.2.2, .inl rfl, fun b hb => by rcases hb with rfl | rfl; exact hI.sep0.2.1; exact hI.sep0.2.2, by show n ≤ 1000; omega, by omega, _, _, _, rfl⟩, ?_⟩⟩
        have hl : (tapes.map fun l => (l, 0)).length = k := by rw [List.length_map, ← HD.out]
        refine ⟨tb, by rw [hl]; exact hI.tp, fun g hg => ⟨(hI.tp.base g hg).1, (hI.tp.base g hg).2, hI.own g hg⟩, fun i hi => ?_, fun i j hi hj => hI.inj i j (by rw [← hl]; exact hi) (by rw [← hl]; exact hj)⟩
        rw [hl] at hi
        have hs := hI.sep i hi
        obtain ⟨v, h1, h2⟩ := hI.cells i hi
        have hg : (tapes.map fun l => (l, 0)).getD i ([], 0) = (tapes.getD i [], 0) := by
          rw [List.getD_eq_getElem?_getD, List.getD_eq_getElem?_getD, List.getElem?_map]
          cases tapes[i]? <;> rfl
        rw [hg]
        exact ⟨⟨v, h1, (kS kU).bl h2 hI.bel⟩, ⟨hs.1, hs.2.1, hs.2.2.1, hs.2.2.2.1⟩, hs.1, hs.2.2.2.2⟩
end Pv
