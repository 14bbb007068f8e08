import Derived.Test.YtjokahbkmceocaaDoorZj
import Derived.Test.YtjokahbkmceocaaDoorZn
set_option linter.unusedVariables false
set_option linter.unusedSimpArgs false
namespace Pv
open Go Go.RowKit Go.Proofs

set_option maxHeartbeats 4000000 in
theorem rvalid_any (p : Nat) (n t : Int) (w : World) :
    Calls Tryd.prog 71 #[.agg #[.int .u64 p, .int .i64 n, .int .i64 t]] w fun e w' => e = .returned (.bool (vP p n t)) ∧ Bl w w' := by
  have hs := fun W => rsupported_any p W
  have HS := hide hs; clear hs
  have hB : Bl w (w.alloc (.cells #[.int .u64 p, .int .i64 n, .int .i64 t] 24)) := (Below.refl _ _).alloc (Nat.le_refl _) _
  have hC : ∀ i u, (#[.int .u64 p, .int .i64 n, .int .i64 t] : Array Value)[i]? = some u → (w.alloc (.cells #[.int .u64 p, .int .i64 n, .int .i64 t] 24)).cell? ⟨w.heap.size, i, none⟩ = some u := fun i u hu => by rw [World.cell?_alloc_at _ _ _ _ rfl]; exact hu
  have HB := hide hB; clear hB
  have HC := hide hC; clear hC
  by_cases h0 : expo p ≠ 0
  · skip
    by_cases h1 : (4 : Int) ≤ n
    · skip
      by_cases h2 : n ≤ (13 : Int)
      · skip
        by_cases h3 : n < (p : Int)
        · skip
          by_cases h4 : (1 : Int) ≤ t
          · skip
            by_cases h5 : t < n
            · skip
              by_cases h6 : 3 * t < n
              · skip
                have hv : vP p n t = true := by simp only [vP]; simp [*]
                rw [hv]
                clear hv
                have hd : decide (expo p ≠ 0) = true := decide_eq_true h0
                rw [hd] at HS
                clear hd h0
                have hw : IntKind.u64.wrap n = n := by rw [IntWalk.u64_in _ (by omega)]
                go_enter Tryd.func71, Tryd.ntmps71
                go_wp2_with fail
                refine (HS.out _).mono ?_
                rintro e w2 ⟨rfl, hB2⟩
                have c0 := cell_bl hB2 (HC.out 0 _ rfl)
                have c1 := cell_bl hB2 (HC.out 1 _ rfl)
                have c2 := cell_bl hB2 (HC.out 2 _ rfl)
                have HB2 := hide (Bl.then HB.out HB.out.size hB2); clear hB2
                go_wp2_with fail
                go_ret
                exact ⟨by first | rfl | (simp [h6]; done), HB2.out⟩
              · skip
                have hv : vP p n t = false := by simp only [vP]; simp [*]
                rw [hv]
                clear hv
                have hd : decide (expo p ≠ 0) = true := decide_eq_true h0
                rw [hd] at HS
                clear hd h0
                have hw : IntKind.u64.wrap n = n := by rw [IntWalk.u64_in _ (by omega)]
                go_enter Tryd.func71, Tryd.ntmps71
                go_wp2_with fail
                refine (HS.out _).mono ?_
                rintro e w2 ⟨rfl, hB2⟩
                have c0 := cell_bl hB2 (HC.out 0 _ rfl)
                have c1 := cell_bl hB2 (HC.out 1 _ rfl)
                have c2 := cell_bl hB2 (HC.out 2 _ rfl)
                have HB2 := hide (Bl.then HB.out HB.out.size hB2); clear hB2
                go_wp2_with fail
                go_ret
                exact ⟨by first | rfl | (simp [h6]; done), HB2.out⟩
            · skip
              have hv : vP p n t = false := by simp only [vP]; simp [*]
              rw [hv]
              clear hv
              have hd : decide (expo p ≠ 0) = true := decide_eq_true h0
              rw [hd] at HS
              clear hd h0
              have hw : IntKind.u64.wrap n = n := by rw [IntWalk.u64_in _ (by omega)]
              go_enter Tryd.func71, Tryd.ntmps71
              go_wp2_with fail
              refine (HS.out _).mono ?_
              rintro e w2 ⟨rfl, hB2⟩
              have c0 := cell_bl hB2 (HC.out 0 _ rfl)
              have c1 := cell_bl hB2 (HC.out 1 _ rfl)
              have c2 := cell_bl hB2 (HC.out 2 _ rfl)
              have HB2 := hide (Bl.then HB.out HB.out.size hB2); clear hB2
              go_wp2_with fail
              go_ret
              exact ⟨rfl, HB2.out⟩
          · skip
            have hv : vP p n t = false := by simp only [vP]; simp [*]
            rw [hv]
            clear hv
            have hd : decide (expo p ≠ 0) = true := decide_eq_true h0
            rw [hd] at HS
            clear hd h0
            have hw : IntKind.u64.wrap n = n := by rw [IntWalk.u64_in _ (by omega)]
            go_enter Tryd.func71, Tryd.ntmps71
            go_wp2_with fail
            refine (HS.out _).mono ?_
            rintro e w2 ⟨rfl, hB2⟩
            have c0 := cell_bl hB2 (HC.out 0 _ rfl)
            have c1 := cell_bl hB2 (HC.out 1 _ rfl)
            have c2 := cell_bl hB2 (HC.out 2 _ rfl)
            have HB2 := hide (Bl.then HB.out HB.out.size hB2); clear hB2
            go_wp2_with fail
            go_ret
            exact ⟨rfl, HB2.out⟩
        · skip
          have hv : vP p n t = false := by simp only [vP]; simp [*]
          rw [hv]
          clear hv
          have hd : decide (expo p ≠ 0) = true := decide_eq_true h0
          rw [hd] at HS
          clear hd h0
          have hw : IntKind.u64.wrap n = n := by rw [IntWalk.u64_in _ (by omega)]
          go_enter Tryd.func71, Tryd.ntmps71
          go_wp2_with fail
          refine (HS.out _).mono ?_
          rintro e w2 ⟨rfl, hB2⟩
          have c0 := cell_bl hB2 (HC.out 0 _ rfl)
          have c1 := cell_bl hB2 (HC.out 1 _ rfl)
          have c2 := cell_bl hB2 (HC.out 2 _ rfl)
          have HB2 := hide (Bl.then HB.out HB.out.size hB2); clear hB2
          go_wp2_with fail
          go_ret
          exact ⟨rfl, HB2.out⟩
      · skip
        have hv : vP p n t = false := by simp only [vP]; simp [*]
        rw [hv]
        clear hv
        have hd : decide (expo p ≠ 0) = true := decide_eq_true h0
        rw [hd] at HS
        clear hd h0
        go_enter Tryd.func71, Tryd.ntmps71
        go_wp2_with fail
        refine (HS.out _).mono ?_
        rintro e w2 ⟨rfl, hB2⟩
        have c0 := cell_bl hB2 (HC.out 0 _ rfl)
        have c1 := cell_bl hB2 (HC.out 1 _ rfl)
        have c2 := cell_bl hB2 (HC.out 2 _ rfl)
        have HB2 := hide (Bl.then HB.out HB.out.size hB2); clear hB2
        go_wp2_with fail
        go_ret
        exact ⟨rfl, HB2.out⟩
    · skip
      have hv : vP p n t = false := by simp only [vP]; simp [*]
      rw [hv]
      clear hv
      have hd : decide (expo p ≠ 0) = true := decide_eq_true h0
      rw [hd] at HS
      clear hd h0
      go_enter Tryd.func71, Tryd.ntmps71
      go_wp2_with fail
      refine (HS.out _).mono ?_
      rintro e w2 ⟨rfl, hB2⟩
      have c0 := cell_bl hB2 (HC.out 0 _ rfl)
      have c1 := cell_bl hB2 (HC.out 1 _ rfl)
      have c2 := cell_bl hB2 (HC.out 2 _ rfl)
      have HB2 := hide (Bl.then HB.out HB.out.size hB2); clear hB2
      go_wp2_with fail
      go_ret
      exact ⟨rfl, HB2.out⟩
  · skip
    have hv : vP p n t = false := by simp only [vP]; simp [*]
    rw [hv]
    clear hv
    have hd : decide (expo p ≠ 0) = false := decide_eq_false h0
    rw [hd] at HS
    clear hd h0
    go_enter Tryd.func71, Tryd.ntmps71
    go_wp2_with fail
    refine (HS.out _).mono ?_
    rintro e w2 ⟨rfl, hB2⟩
    have c0 := cell_bl hB2 (HC.out 0 _ rfl)
    have c1 := cell_bl hB2 (HC.out 1 _ rfl)
    have c2 := cell_bl hB2 (HC.out 2 _ rfl)
    have HB2 := hide (Bl.then HB.out HB.out.size hB2); clear hB2
    go_wp2_with fail
    go_ret
    exact ⟨rfl, HB2.out⟩

set_option maxHeartbeats 40000000 in
theorem rdev3_any (p : Nat) (n t r s dd a k : Int) (kk : Nat) (o ii : Int) (w : World) (hk3 : k = 3) :
    Calls Tryd.prog 73 #[.agg #[.int .u64 p, .int .i64 n, .int .i64 t], (Dev.val ⟨r, s, dd, a, k, kk, o, ii⟩)] w fun e w' => e = .returned (.bool (DevB n ⟨r, s, dd, a, k, kk, o, ii⟩)) ∧ Bl w w' := by
  simp only [Dev.val]
  have hB : Bl w ((w.alloc (.cells #[.int .u64 p, .int .i64 n, .int .i64 t] 24)).alloc (.cells #[.int .i64 r, .int .i64 s, .int .i64 dd, .int .i64 a, .int .i64 k, .int .u64 kk, .int .i64 o, .int .i64 ii] 99)) :=
    ((Below.refl _ _).alloc (Nat.le_refl _) _).alloc (((Below.refl _ _).alloc (Nat.le_refl _) _).size) _
  have HB := hide hB; clear hB
  · subst hk3
    by_cases h0 : (0 : Int) ≤ r
    · skip
      by_cases h1 : (0 : Int) ≤ a
      · skip
        by_cases h2 : (0 : Int) ≤ ii
        · skip
          by_cases h3 : (1 : Int) ≤ s
          · skip
            by_cases h4 : s ≤ n
            · skip
              by_cases h5 : (0 : Int) ≤ dd
              · skip
                by_cases h6 : dd ≤ n
                · skip
                  by_cases h7 : (0 : Int) ≤ o
                  · skip
                    by_cases h8 : o ≤ n
                    · skip
                      by_cases h9 : (1 : Int) ≤ o
                      · skip
                        have hv : DevB n ⟨r, s, dd, a, 3, kk, o, ii⟩ = true := by simp only [DevB]; simp [*]; try omega
                        rw [hv]
                        clear hv
                        go_enter Tryd.func73, Tryd.ntmps73
                        go_wp2_with fail
                        all_goals (go_ret; exact ⟨rfl, HB.out⟩)
                      · skip
                        have hv : DevB n ⟨r, s, dd, a, 3, kk, o, ii⟩ = false := by simp only [DevB]; simp [*]; try omega
                        rw [hv]
                        clear hv
                        go_enter Tryd.func73, Tryd.ntmps73
                        go_wp2_with fail
                        all_goals (go_ret; exact ⟨rfl, HB.out⟩)
                    · skip
                      have hv : DevB n ⟨r, s, dd, a, 3, kk, o, ii⟩ = false := by simp only [DevB]; simp [*]; try omega
                      rw [hv]
                      clear hv
                      go_enter Tryd.func73, Tryd.ntmps73
                      go_wp2_with fail
                      all_goals (go_ret; exact ⟨rfl, HB.out⟩)
                  · skip
                    have hv : DevB n ⟨r, s, dd, a, 3, kk, o, ii⟩ = false := by simp only [DevB]; simp [*]; try omega
                    rw [hv]
                    clear hv
                    go_enter Tryd.func73, Tryd.ntmps73
                    go_wp2_with fail
                    all_goals (go_ret; exact ⟨rfl, HB.out⟩)
                · skip
                  have hv : DevB n ⟨r, s, dd, a, 3, kk, o, ii⟩ = false := by simp only [DevB]; simp [*]; try omega
                  rw [hv]
                  clear hv
                  go_enter Tryd.func73, Tryd.ntmps73
                  go_wp2_with fail
                  all_goals (go_ret; exact ⟨rfl, HB.out⟩)
              · skip
                have hv : DevB n ⟨r, s, dd, a, 3, kk, o, ii⟩ = false := by simp only [DevB]; simp [*]; try omega
                rw [hv]
                clear hv
                go_enter Tryd.func73, Tryd.ntmps73
                go_wp2_with fail
                all_goals (go_ret; exact ⟨rfl, HB.out⟩)
            · skip
              have hv : DevB n ⟨r, s, dd, a, 3, kk, o, ii⟩ = false := by simp only [DevB]; simp [*]; try omega
              rw [hv]
              clear hv
              go_enter Tryd.func73, Tryd.ntmps73
              go_wp2_with fail
              all_goals (go_ret; exact ⟨rfl, HB.out⟩)
          · skip
            have hv : DevB n ⟨r, s, dd, a, 3, kk, o, ii⟩ = false := by simp only [DevB]; simp [*]; try omega
            rw [hv]
            clear hv
            go_enter Tryd.func73, Tryd.ntmps73
            go_wp2_with fail
            all_goals (go_ret; exact ⟨rfl, HB.out⟩)
        · skip
          have hv : DevB n ⟨r, s, dd, a, 3, kk, o, ii⟩ = false := by simp only [DevB]; simp [*]; try omega
          rw [hv]
          clear hv
          go_enter Tryd.func73, Tryd.ntmps73
          go_wp2_with fail
          all_goals (go_ret; exact ⟨rfl, HB.out⟩)
      · skip
        have hv : DevB n ⟨r, s, dd, a, 3, kk, o, ii⟩ = false := by simp only [DevB]; simp [*]; try omega
        rw [hv]
        clear hv
        go_enter Tryd.func73, Tryd.ntmps73
        go_wp2_with fail
        all_goals (go_ret; exact ⟨rfl, HB.out⟩)
    · skip
      have hv : DevB n ⟨r, s, dd, a, 3, kk, o, ii⟩ = false := by simp only [DevB]; simp [*]; try omega
      rw [hv]
      clear hv
      go_enter Tryd.func73, Tryd.ntmps73
      go_wp2_with fail
      all_goals (go_ret; exact ⟨rfl, HB.out⟩)

set_option maxHeartbeats 40000000 in
theorem rdevn_any (p : Nat) (n t r s dd a k : Int) (kk : Nat) (o ii : Int) (w : World) (hk3 : ¬ k = 3) :
    Calls Tryd.prog 73 #[.agg #[.int .u64 p, .int .i64 n, .int .i64 t], (Dev.val ⟨r, s, dd, a, k, kk, o, ii⟩)] w fun e w' => e = .returned (.bool (DevB n ⟨r, s, dd, a, k, kk, o, ii⟩)) ∧ Bl w w' := by
  simp only [Dev.val]
  have hB : Bl w ((w.alloc (.cells #[.int .u64 p, .int .i64 n, .int .i64 t] 24)).alloc (.cells #[.int .i64 r, .int .i64 s, .int .i64 dd, .int .i64 a, .int .i64 k, .int .u64 kk, .int .i64 o, .int .i64 ii] 99)) :=
    ((Below.refl _ _).alloc (Nat.le_refl _) _).alloc (((Below.refl _ _).alloc (Nat.le_refl _) _).size) _
  have HB := hide hB; clear hB
  · have hk3b : (k == 3) = false := by simpa using hk3
    have hk3c : (k != 3) = true := by simpa using hk3
    by_cases h0 : (0 : Int) ≤ r
    · skip
      by_cases h1 : (0 : Int) ≤ a
      · skip
        by_cases h2 : (0 : Int) ≤ ii
        · skip
          by_cases h3 : (1 : Int) ≤ s
          · skip
            by_cases h4 : s ≤ n
            · skip
              by_cases h5 : (0 : Int) ≤ dd
              · skip
                by_cases h6 : dd ≤ n
                · skip
                  by_cases h7 : (1 : Int) ≤ k
                  · skip
                    by_cases h8 : k ≤ (4 : Int)
                    · skip
                      by_cases h9 : (0 : Int) ≤ o
                      · skip
                        by_cases h10 : o ≤ n
                        · skip
                          have hv : DevB n ⟨r, s, dd, a, k, kk, o, ii⟩ = true := by simp only [DevB]; simp [*]; try omega
                          rw [hv]
                          clear hv
                          go_enter Tryd.func73, Tryd.ntmps73
                          go_wp2_with fail
                          all_goals (go_ret; exact ⟨rfl, HB.out⟩)
                        · skip
                          have hv : DevB n ⟨r, s, dd, a, k, kk, o, ii⟩ = false := by simp only [DevB]; simp [*]; try omega
                          rw [hv]
                          clear hv
                          go_enter Tryd.func73, Tryd.ntmps73
                          go_wp2_with fail
                          all_goals (go_ret; exact ⟨rfl, HB.out⟩)
                      · skip
                        have hv : DevB n ⟨r, s, dd, a, k, kk, o, ii⟩ = false := by simp only [DevB]; simp [*]; try omega
                        rw [hv]
                        clear hv
                        go_enter Tryd.func73, Tryd.ntmps73
                        go_wp2_with fail
                        all_goals (go_ret; exact ⟨rfl, HB.out⟩)
                    · skip
                      have hv : DevB n ⟨r, s, dd, a, k, kk, o, ii⟩ = false := by simp only [DevB]; simp [*]; try omega
                      rw [hv]
                      clear hv
                      go_enter Tryd.func73, Tryd.ntmps73
                      go_wp2_with fail
                      all_goals (go_ret; exact ⟨rfl, HB.out⟩)
                  · skip
                    have hv : DevB n ⟨r, s, dd, a, k, kk, o, ii⟩ = false := by simp only [DevB]; simp [*]; try omega
                    rw [hv]
                    clear hv
                    go_enter Tryd.func73, Tryd.ntmps73
                    go_wp2_with fail
                    all_goals (go_ret; exact ⟨rfl, HB.out⟩)
                · skip
                  have hv : DevB n ⟨r, s, dd, a, k, kk, o, ii⟩ = false := by simp only [DevB]; simp [*]; try omega
                  rw [hv]
                  clear hv
                  go_enter Tryd.func73, Tryd.ntmps73
                  go_wp2_with fail
                  all_goals (go_ret; exact ⟨rfl, HB.out⟩)
              · skip
                have hv : DevB n ⟨r, s, dd, a, k, kk, o, ii⟩ = false := by simp only [DevB]; simp [*]; try omega
                rw [hv]
                clear hv
                go_enter Tryd.func73, Tryd.ntmps73
                go_wp2_with fail
                all_goals (go_ret; exact ⟨rfl, HB.out⟩)
            · skip
              have hv : DevB n ⟨r, s, dd, a, k, kk, o, ii⟩ = false := by simp only [DevB]; simp [*]; try omega
              rw [hv]
              clear hv
              go_enter Tryd.func73, Tryd.ntmps73
              go_wp2_with fail
              all_goals (go_ret; exact ⟨rfl, HB.out⟩)
          · skip
            have hv : DevB n ⟨r, s, dd, a, k, kk, o, ii⟩ = false := by simp only [DevB]; simp [*]; try omega
            rw [hv]
            clear hv
            go_enter Tryd.func73, Tryd.ntmps73
            go_wp2_with fail
            all_goals (go_ret; exact ⟨rfl, HB.out⟩)
        · skip
          have hv : DevB n ⟨r, s, dd, a, k, kk, o, ii⟩ = false := by simp only [DevB]; simp [*]; try omega
          rw [hv]
          clear hv
          go_enter Tryd.func73, Tryd.ntmps73
          go_wp2_with fail
          all_goals (go_ret; exact ⟨rfl, HB.out⟩)
      · skip
        have hv : DevB n ⟨r, s, dd, a, k, kk, o, ii⟩ = false := by simp only [DevB]; simp [*]; try omega
        rw [hv]
        clear hv
        go_enter Tryd.func73, Tryd.ntmps73
        go_wp2_with fail
        all_goals (go_ret; exact ⟨rfl, HB.out⟩)
    · skip
      have hv : DevB n ⟨r, s, dd, a, k, kk, o, ii⟩ = false := by simp only [DevB]; simp [*]; try omega
      rw [hv]
      clear hv
      go_enter Tryd.func73, Tryd.ntmps73
      go_wp2_with fail
      all_goals (go_ret; exact ⟨rfl, HB.out⟩)

theorem rdev_any (p : Nat) (n t : Int) (d : Dev) (w : World) :
    Calls Tryd.prog 73 #[.agg #[.int .u64 p, .int .i64 n, .int .i64 t], d.val] w fun e w' => e = .returned (.bool (DevB n d)) ∧ Bl w w' := by
  obtain ⟨r, s, dd, a, k, kk, o, ii⟩ := d
  by_cases hk : k = 3
  · exact rdev3_any p n t r s dd a k kk o ii w hk
  · exact rdevn_any p n t r s dd a k kk o ii w hk
end Pv
