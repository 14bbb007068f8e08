import Derived.Test.YtjokahbkmceocaaDoorYLawAwake
import Derived.Test.YtjokahbkmceocaaDoorZs
import Derived.Test.YtjokahbkmceocaaDoorZm
set_option linter.unusedVariables false
set_option linter.unusedSimpArgs false
namespace Pv
open Go Go.RowKit Go.Proofs

theorem devV_of {N : Nat} {d : Dev} (h : DevB (N : Int) d = true) : DevV N d := by
  simp only [DevB, Bool.and_eq_true, decide_eq_true_eq] at h
  refine ⟨by omega, by omega, by omega, fun h3 => ?_⟩
  rw [if_pos h3] at h
  omega
/-- what a fair scenario says -/
structure FairF (words p N T : Nat) (corrupt : List Int) (devs : List Dev) (tapes : List (List Nat)) : Prop where
  hp : IsP p
  n4 : 4 ≤ N
  n13 : N ≤ 13
  np : N < p
  t1 : 1 ≤ T
  t3 : 3 * T < N
  dv : ∀ d, d ∈ devs → DevV N d
  tl : ∀ l, l ∈ tapes → l.length ≤ words
  ok : ScOK p N T corrupt devs tapes
theorem fair_facts {lies words p : Nat} {n t : Int} {corrupt : List Int} {devs : List Dev} {tapes : List (List Nat)} (h : FairB lies words p n t corrupt devs tapes) : ∃ N T : Nat, n = N ∧ t = T ∧ FairF words p N T corrupt devs tapes := by
  obtain ⟨_, _, _, h4, h5⟩ := h
  have hv := h5.1
  simp only [vP, Bool.and_eq_true, decide_eq_true_eq] at hv
  refine ⟨n.toNat, t.toNat, by omega, by omega, ?_⟩
  have en : ((n.toNat : Nat) : Int) = n := by omega
  have et : ((t.toNat : Nat) : Int) = t := by omega
  exact ⟨(expo_isP p).1 hv.1.1.1.1.1.1, by omega, by omega, by omega, by omega, by omega, fun d hd => devV_of (by rw [en]; exact h5.2.2.2.2.1 d hd), h4, by rw [en, et]; exact h5⟩
theorem whoN_in {N wh : Nat} (h : 1 ≤ N) : 1 ≤ whoN N wh ∧ whoN N wh ≤ N := by
  unfold whoN; have := Nat.mod_lt wh (show 0 < N by omega); omega
/-- a law's answer -/
def LawP (w : World) (e : Ending) (w' : World) : Prop := e = .returned (.bool true) ∧ Bl w w'
set_option maxHeartbeats 4000000 in
set_option maxRecDepth 100000 in
theorem rmsgs_any (p : Nat) (n t : Int) (vc vd vt vl vs : Value) (wh : Nat) (corrupt : List Int) (devs : List Dev) (tapes L : List (List Nat)) (spoil : List Nat) (w : World) (hL : Laid w) (hc : (kS kI).R w Any [vc] corrupt) (hd : (kS kDev).R w Any [vd] devs) (ht : (kS (kS kU)).R w Any [vt] tapes) (hl : (kS (kS kU)).R w Any [vl] L) (hs : (kS kU).R w Any [vs] spoil) (hwh : wh < 256) :
    Calls Tryd.prog 4 #[askVal p n t vc vd vt wh vl vs] w fun e w' => LawP w e w' := by
  have hclow := (kS kI).low hc
  have hdlow := (kS kDev).low hd
  have htlow := (kS (kS kU)).low ht
  have hllow := (kS (kS kU)).low hl
  have hslow := (kS kU).low hs
  obtain ⟨Ac, cc, rfl, _, _⟩ := kS_len hc
  obtain ⟨Ad, cd, rfl, _, _⟩ := kS_len hd
  obtain ⟨At, ct, rfl, _, _⟩ := kS_len ht
  obtain ⟨Al, cl, rfl, _, _⟩ := kS_len hl
  obtain ⟨As, cs, rfl, _, _⟩ := kS_len hs
  obtain ⟨W0, hW0⟩ : ∃ W0, W0 = w.alloc (.cells #[.int .u64 p, .int .i64 n, .int .i64 t, .slice Ac corrupt.length cc, .slice Ad devs.length cd, .slice At tapes.length ct, .int .u8 wh, .slice Al L.length cl, .slice As spoil.length cs] 32) := ⟨_, rfl⟩
  have hB0 : Bl w W0 := by rw [hW0]; exact (Below.refl _ _).alloc (Nat.le_refl _) _
  have hbox : ∀ i u, (#[.int .u64 p, .int .i64 n, .int .i64 t, .slice Ac corrupt.length cc, .slice Ad devs.length cd, .slice At tapes.length ct, .int .u8 wh, .slice Al L.length cl, .slice As spoil.length cs] : Array Value)[i]? = some u → W0.cell? ⟨w.heap.size, i, none⟩ = some u := fun i u hu => by
    rw [hW0, World.cell?_alloc_at _ _ _ _ rfl]; exact hu
  have hmc := lmay_any p n t _ _ _ _ _ wh corrupt devs tapes L spoil W0 ((kS kI).any ((kS kI).bl hclow hB0)) ((kS kDev).any ((kS kDev).bl hdlow hB0)) ((kS (kS kU)).any ((kS (kS kU)).bl htlow hB0)) ((kS (kS kU)).any ((kS (kS kU)).bl hllow hB0)) ((kS kU).any ((kS kU).bl hslow hB0))
  by_cases hmay : MayB p n t corrupt devs tapes L spoil
  · obtain ⟨N, T, rfl, rfl, hF⟩ := fair_facts hmay.1
    have hmc := hmc.mono (R' := fun e w' => e = .returned (.bool true) ∧ Bl W0 w') (fun e w' h => by
      obtain ⟨h1, b, rfl, hb⟩ := h
      cases b with
      | true => exact ⟨rfl, h1⟩
      | false => have := hb.2 hmay; cases this)
    have hnets := fun W2 (h : Bl w W2) => nets_any p N T _ _ _ corrupt devs tapes W2 (hL.bl h) ((kS kI).any ((kS kI).bl hclow h)) ((kS kDev).any ((kS kDev).bl hdlow h)) ((kS (kS kU)).any ((kS (kS kU)).bl htlow h)) (fun l hl => Nat.le_trans (hF.tl l hl) (by decide))
    have hwho := fun W2 => who_any p N T Ac Ad At Al As corrupt.length cc devs.length cd tapes.length ct L.length cl spoil.length cs wh W2 (by have := hF.n4; omega) (by have := hF.n13; omega) hwh
    have hnum := fun W2 (h : Bl w W2) => numbers_any p N T _ _ _ _ _ wh corrupt devs tapes L spoil W2 ((kS kI).any ((kS kI).bl hclow h)) ((kS kDev).any ((kS kDev).bl hdlow h)) ((kS (kS kU)).any ((kS (kS kU)).bl htlow h)) ((kS (kS kU)).any ((kS (kS kU)).bl hllow h)) ((kS kU).any ((kS kU).bl hslow h)) hF.hp hF.n13 hF.np (by have := hF.t3; have := hF.n13; omega) hmay.2.1 hmay.2.2
    obtain ⟨q, hq⟩ : ∃ q, q = whoN N wh := ⟨_, rfl⟩
    have hqw := whoN_in (N := N) (wh := wh) (by have := hF.n4; omega)
    rw [← hq] at hwho hqw
    obtain ⟨hq1, hqN⟩ := hqw
    simp only [scVal, askVal] at hmc hnets hwho hnum ⊢
    obtain ⟨DL, hDL⟩ : ∃ D, D = L.length := ⟨_, rfl⟩
    have hDL3 : DL ≤ 3 := by rw [hDL]; exact hmay.2.1
    have hnl := numL_len p N T corrupt spoil L
    have hnok := numL_ok (p := p) (N := N) (T := T) (by have := hF.np; omega) corrupt spoil L
    rw [← hDL] at hmc hwho hnum hbox hW0 hnl ⊢
    have hn4 := hF.n4
    have hn13 := hF.n13
    have hat : ∀ d, d ∈ devs → 0 ≤ d.at_ := fun d hd => (hF.dv d hd).at0
    have HB0 := hide hB0; have HBX := hide hbox; have HMC := hide hmc; have HN := hide hnets; have HWHO := hide hwho; have HNUM := hide hnum; have HFF := hide hF; have HLD := hide hL; have HW0 := hide hW0; have HQ := hide hq; have HDL := hide hDL; have HNL := hide hnl; have HNOK := hide hnok; have HAT := hide hat
    clear hB0 hbox hmc hnets hwho hnum hF hL hW0 hq hDL hclow hdlow htlow hllow hslow hc hd ht hl hs hmay hnl hnok hat
    go_enter Tryd.func4, Tryd.ntmps4
    go_wp2_with fail
    rw [← HW0.out]
    refine HMC.out.mono ?_
    rintro e w2 ⟨rfl, hB2⟩
    have b0 := cell_bl hB2 (HBX.out 0 _ rfl)
    have b1 := cell_bl hB2 (HBX.out 1 _ rfl)
    have b2 := cell_bl hB2 (HBX.out 2 _ rfl)
    have b3 := cell_bl hB2 (HBX.out 3 _ rfl)
    have b4 := cell_bl hB2 (HBX.out 4 _ rfl)
    have b5 := cell_bl hB2 (HBX.out 5 _ rfl)
    have b6 := cell_bl hB2 (HBX.out 6 _ rfl)
    have b7 := cell_bl hB2 (HBX.out 7 _ rfl)
    have b8 := cell_bl hB2 (HBX.out 8 _ rfl)
    have HB2 := hide (Bl.then HB0.out HB0.out.size hB2)
    clear hB2
    go_wp2_with fail
    refine (HN.out w2 HB2.out).mono ?_
    rintro e w3 ⟨hB3, hcase⟩
    rcases hcase with ⟨hno, _⟩ | ⟨_, nb, vb, vtp, rb, B0, rfl, hN, _, hnb, hvb, hB0, hB0'⟩
    · exact absurd HFF.out.ok hno
    have HB3 := hide hB3; have HNR := hide hN
    clear hB3 hN
    go_wp2_with fail
    refine wp_region_held_drew (S := fun w' => Bl w2 w') (by kernel_rfl) (Bl.dr HB3.out (Dr.one (Dr.refl w3))) (fun hHeld => ?_)
    refine wpAnyH_take (i := 0) (oi := { dst := some 21, op := Go.Op.move (Go.Operand.tmp 3), type := 36, pos := _, after := _, guard := none }) (v := ?_) rfl (by kernel_rfl) (by kernel_rfl) (by kernel_rfl) (fun _ _ _ h => h) ?_ (by assumption) ?_
    rotate_left
    · first | (refine Or.inl ⟨by rfl, ?_⟩; intro w hSw; have z0 := cell_bl hSw b0; have z1 := cell_bl hSw b1; have z2 := cell_bl hSw b2; have z3 := cell_bl hSw b3; have z4 := cell_bl hSw b4; have z5 := cell_bl hSw b5; have z6 := cell_bl hSw b6; have z7 := cell_bl hSw b7; have z8 := cell_bl hSw b8; go_simp; (try (with_reducible rfl)); done) | (refine Or.inr ⟨by rfl, ?_⟩; with_reducible rfl)
    try simp only [Act.put, List.setIfInBounds_toArray, List.set_cons_zero, List.set_cons_succ]
    refine wpAnyH_take (i := 1) (oi := { dst := some 22, op := Go.Op.load 32 (Go.Operand.tmp 1), type := 32, pos := _, after := _, guard := none }) (v := ?_) rfl (by kernel_rfl) (by kernel_rfl) (by kernel_rfl) (fun _ _ _ h => h) ?_ (by assumption) ?_
    rotate_left
    · first | (refine Or.inl ⟨by rfl, ?_⟩; intro w hSw; have z0 := cell_bl hSw b0; have z1 := cell_bl hSw b1; have z2 := cell_bl hSw b2; have z3 := cell_bl hSw b3; have z4 := cell_bl hSw b4; have z5 := cell_bl hSw b5; have z6 := cell_bl hSw b6; have z7 := cell_bl hSw b7; have z8 := cell_bl hSw b8; go_simp; (try (with_reducible rfl)); done) | (refine Or.inr ⟨by rfl, ?_⟩; with_reducible rfl)
    try simp only [Act.put, List.setIfInBounds_toArray, List.set_cons_zero, List.set_cons_succ]
    refine wpAnyH_take (i := 3) (oi := { dst := some 24, op := Go.Op.load 32 (Go.Operand.tmp 1), type := 32, pos := _, after := _, guard := none }) (v := ?_) rfl (by kernel_rfl) (by kernel_rfl) (by kernel_rfl) (fun _ _ _ h => h) ?_ (by assumption) ?_
    rotate_left
    · first | (refine Or.inl ⟨by rfl, ?_⟩; intro w hSw; have z0 := cell_bl hSw b0; have z1 := cell_bl hSw b1; have z2 := cell_bl hSw b2; have z3 := cell_bl hSw b3; have z4 := cell_bl hSw b4; have z5 := cell_bl hSw b5; have z6 := cell_bl hSw b6; have z7 := cell_bl hSw b7; have z8 := cell_bl hSw b8; go_simp; (try (with_reducible rfl)); done) | (refine Or.inr ⟨by rfl, ?_⟩; with_reducible rfl)
    try simp only [Act.put, List.setIfInBounds_toArray, List.set_cons_zero, List.set_cons_succ]
    refine wpAnyH_ready (rs := [2]) (by kernel_rfl) (by simp) ?_
    refine AllReadyH.cons (o := { dst := some 23, op := Go.Op.call { callee := Go.Callee.value (Go.Operand.func 19), args := #[Go.Operand.tmp 22], argTypes := #[32] }, type := 3, pos := _, after := _, guard := none }) rfl (fun K hK => ?_) AllReadyH.nil
    go_simp
    refine (HWHO.out _).mono ?_
    rintro e w4 ⟨rfl, hB4⟩
    have hB34 : Bl w3 w4 := (Bl.dr (Below.refl _ _) (Dr.one (Dr.refl _))).trans hB4
    have hB24 := Bl.then HB3.out HB3.out.size hB34
    simp only []
    refine hK.out _ _ ?_ (fun hHeld => ?_)
    · exact hB24
    clear hK K
    try simp only [Act.put, List.setIfInBounds_toArray, List.set_cons_zero, List.set_cons_succ]
    refine wpAnyH_ready (rs := [4]) (by kernel_rfl) (by simp) ?_
    refine AllReadyH.cons (o := { dst := some 25, op := Go.Op.call { callee := Go.Callee.value (Go.Operand.func 17), args := #[Go.Operand.tmp 24], argTypes := #[32] }, type := 40, pos := _, after := _, guard := none }) rfl (fun K hK => ?_) AllReadyH.nil
    go_simp
    refine (HNUM.out _ (Bl.then HB2.out HB2.out.size hB24)).mono ?_
    rintro e w5 ⟨hB5, v5, rfl, hr5⟩
    obtain ⟨A5, c5, hv5, _, _⟩ := kS_len hr5
    rw [HNL.out] at hv5
    subst hv5
    have hB35 := Bl.then hB34 hB34.size hB5
    have hB25 := Bl.then HB3.out HB3.out.size hB35
    have h43 := hB34.size
    have hrec := recover_any w5 B0 (fun b => b = nb ∨ b = vb) nb ⟨p, N, T, corrupt, devs⟩ _ _ _ 0 q DL (fun _ => []) _ _ (HNR.out.bl hB35) (Nat.le_trans hB0' hB35.size) (fun b hb => by
      have := hB35.size
      rcases hb with rfl | rfl <;> omega) HFF.out.hp HFF.out.n4 HFF.out.n13 HFF.out.np HFF.out.t1 HFF.out.t3 HFF.out.dv hr5 (fun b hb hF => by
      rcases hF with rfl | rfl <;> omega) HNL.out (by omega) HNOK.out hq1 hqN (by omega) (fun j => by simp)
    simp only []
    refine hK.out _ _ ?_ (fun hHeld => ?_)
    · exact hB25
    clear hK K
    try simp only [Act.put, List.setIfInBounds_toArray, List.set_cons_zero, List.set_cons_succ]
    refine wpAnyH_ready (rs := [5]) (by kernel_rfl) (by simp) ?_
    refine AllReadyH.cons (o := { dst := some 26, op := Go.Op.call { callee := Go.Callee.value (Go.Operand.func 18), args := #[Go.Operand.tmp 21, Go.Operand.tmp 23, Go.Operand.tmp 25], argTypes := #[36, 3, 40] }, type := 27, pos := _, after := _, guard := none }) rfl (fun K hK => ?_) AllReadyH.nil
    go_simp
    refine hrec.mono ?_
    rintro e w6 ⟨hF6, F', v6, rfl, hF', hN6, hr6⟩
    obtain ⟨A6, c6, rfl, _, _⟩ := kS_len hr6
    have hB26 : Bl w2 w6 := hB25.trans (hF6.below hB25.size fun b hb hF => by
      have h1 := HNR.out.base b hF; omega)
    simp only []
    refine hK.out _ _ ?_ (fun hHeld => ?_)
    · exact hB26
    clear hK K
    try simp only [Act.put, List.setIfInBounds_toArray, List.set_cons_zero, List.set_cons_succ]
    refine wpAnyH_done (by kernel_rfl) ?_ _
    have hN6 : NetR w6 B0 F' nb ⟨p, N, T, corrupt, devs⟩ (.slice At tapes.length ct) vtp (if DL = 0 then 0 else 1) (if DL = 0 then fun _ => [] else sendV 0 N N (applyM p corrupt 0 devs (recOut p q DL (rw2 (numL p N T corrupt spoil L)))) (fun _ => [])) := hN6
    obtain ⟨V, hV⟩ : ∃ V, V = (if DL = 0 then fun _ => [] else sendV 0 N N (applyM p corrupt 0 devs (recOut p q DL (rw2 (numL p N T corrupt spoil L)))) (fun _ => [])) := ⟨_, rfl⟩
    obtain ⟨rd, hrd⟩ : ∃ rd, rd = (if DL = 0 then 0 else 1) := ⟨_, rfl⟩
    rw [← hV, ← hrd] at hN6
    have hVno : ∀ j, j + 1 ≠ q → V j = [] := fun j hj => by
      rw [hV]
      split
      · rfl
      · exact rec_views HAT.out hj
    have HN6 := hide hN6; have HB26 := hide hB26; have HVNO := hide hVno; have HRD := hide hrd
    clear hN6 hB26 hVno hrd hV hr6 hF6 hF' hrec hr5 hB5 hB4 hB34 hB35 hB25 hB24 h43
    go_wp2_with fail
    go_loopw [6] (fun ix wr => ∃ i : Nat, i ≤ N ∧ ix = .int .i64 ((i : Int) + 1) ∧ Bl w6 wr) (fun ix _ => N + 1 - (intOf ix).toNat)
    case atStart => exact ⟨0, by omega, rfl, Below.refl _ _⟩
    case round =>
      obtain ⟨i, hi, rfl, hBi⟩ := hrel
      have hB2i := Bl.then HB26.out HB26.out.size hBi
      have q0 := cell_bl hB2i b0
      have q1 := cell_bl hB2i b1
      have q2 := cell_bl hB2i b2
      have q3 := cell_bl hB2i b3
      have q4 := cell_bl hB2i b4
      have q5 := cell_bl hB2i b5
      have q6 := cell_bl hB2i b6
      have q7 := cell_bl hB2i b7
      have q8 := cell_bl hB2i b8
      clear b0 b1 b2 b3 b4 b5 b6 b7 b8
      have HBI := hide hBi; have HB2I := hide hB2i
      clear hBi hB2i
      by_cases hiN : i < N
      · as_aux_lemma =>
        have hii : (i : Int) + 1 ≤ (N : Int) := by omega
        by_cases hiq : i + 1 = q
        · have hb1 : ((i : Int) + 1 != (q : Int)) = false := by rw [bne_eq_false_iff_eq]; omega
          clear hiq
          go_wp2_with fail
          refine (HWHO.out _).mono ?_
          rintro e w7 ⟨rfl, hB7⟩
          have HB7 := hide (Bl.then HBI.out HBI.out.size hB7)
          clear hB7
          go_wp2_with fail
          go_round
          case rel => exact ⟨i + 1, by omega, by go_num, HB7.out⟩
          case measure => simp [intOf]; omega
        · have hb1 : ((i : Int) + 1 != (q : Int)) = true := by rw [bne_iff_ne]; omega
          have hve := HVNO.out i hiq
          have HVE := hide hve
          clear hiq hve
          go_wp2_with fail
          refine (HWHO.out _).mono ?_
          rintro e w7 ⟨rfl, hB7⟩
          have hB67 := Bl.then HBI.out HBI.out.size hB7
          have hvw : Calls Tryd.prog 21 #[.pointer (some ⟨nb, 0, none⟩), .int .i64 ((i : Int) + 1)] w7 fun e w' => ViewP w7 (V i) e w' := view_any w7 B0 F' nb ⟨p, N, T, corrupt, devs⟩ _ vtp rd V (i + 1) (HN6.out.bl hB67) (by omega) hiN (by show (V i).length ≤ _; rw [HVE.out]; decide)
          have HB7 := hide hB67; have HVW := hide hvw
          clear hB7 hB67 hvw
          go_wp2_with fail
          refine HVW.out.mono ?_
          rintro e w8 ⟨hB8, v8, rfl, hO8⟩
          rw [HVE.out] at hO8
          obtain ⟨A8, c8, rfl, _, _⟩ := hO8.slice
          have HB8 := hide (Bl.then HB7.out HB7.out.size hB8)
          clear hB8 hO8
          go_wp2_with fail
          go_round
          case rel => exact ⟨i + 1, by omega, by go_num, HB8.out⟩
          case measure => simp [intOf]; omega
      · as_aux_lemma =>
        obtain rfl : i = N := by omega
        have hni : ¬ (i : Int) + 1 ≤ (i : Int) := by omega
        have haw := awake_any wr (HLD.out.bl (Bl.then HB2.out HB2.out.size HB2I.out))
        have HAW := hide haw; clear haw
        by_cases hD0 : DL = 0
        · subst hD0
          obtain rfl : rd = 0 := HRD.out
          go_wp2_with fail
          refine HAW.out.mono ?_
          rintro e w7 ⟨rfl, hB7⟩
          have hrr : Calls Tryd.prog 22 #[.pointer (some ⟨nb, 0, none⟩)] w7 fun e w' => e = .returned (.int .i64 0) ∧ w' = w7 := rounds_any w7 B0 F' nb ⟨p, i, T, corrupt, devs⟩ _ vtp 0 V (HN6.out.bl (Bl.then HBI.out HBI.out.size hB7))
          have HRR := hide hrr
          have HB7 := hide (Bl.then HB2.out HB2.out.size (Bl.then HB2I.out HB2I.out.size hB7))
          clear hrr hB7
          go_wp2_with fail
          refine HRR.out.mono ?_
          rintro e w8 ⟨rfl, hw8⟩
          subst hw8
          go_wp2_with fail
          go_ret
          exact ⟨rfl, HB7.out⟩
        · have hDi : ((DL : Int) == 0) = false := by rw [beq_eq_false_iff_ne]; omega
          have hDn : ¬ (DL : Int) = 0 := by omega
          obtain rfl : rd = 1 := HRD.out.trans (if_neg hD0)
          go_wp2_with fail
          refine HAW.out.mono ?_
          rintro e w7 ⟨rfl, hB7⟩
          have hrr : Calls Tryd.prog 22 #[.pointer (some ⟨nb, 0, none⟩)] w7 fun e w' => e = .returned (.int .i64 1) ∧ w' = w7 := rounds_any w7 B0 F' nb ⟨p, i, T, corrupt, devs⟩ _ vtp 1 V (HN6.out.bl (Bl.then HBI.out HBI.out.size hB7))
          have HRR := hide hrr
          have HB7 := hide (Bl.then HB2.out HB2.out.size (Bl.then HB2I.out HB2I.out.size hB7))
          clear hrr hB7
          go_wp2_with fail
          refine HRR.out.mono ?_
          rintro e w8 ⟨rfl, hw8⟩
          subst hw8
          go_wp2_with fail
          go_ret
          exact ⟨rfl, HB7.out⟩
  · have hmc := hmc.mono (R' := fun e w' => e = .returned (.bool false) ∧ Bl W0 w') (fun e w' h => by
      obtain ⟨h1, b, rfl, hb⟩ := h
      cases b with
      | true => exact absurd (hb.1 rfl) hmay
      | false => exact ⟨rfl, h1⟩)
    have haw := fun W2 (h : Bl w W2) => awake_any W2 (hL.bl h)
    simp only [askVal] at hmc ⊢
    have HB0 := hide hB0; have HMC := hide hmc; have HAW := hide haw; have HW0 := hide hW0
    clear hB0 hbox hmc haw hL hW0 hclow hdlow htlow hllow hslow hc hd ht hl hs hmay
    go_enter Tryd.func4, Tryd.ntmps4
    go_wp2_with fail
    rw [← HW0.out]
    refine HMC.out.mono ?_
    rintro e w2 ⟨rfl, hB2⟩
    have HB2 := hide (Bl.then HB0.out HB0.out.size hB2)
    clear hB2
    go_wp2_with fail
    refine (HAW.out w2 HB2.out).mono ?_
    rintro e w3 ⟨rfl, hB3⟩
    have HB3 := hide (Bl.then HB2.out HB2.out.size hB3)
    clear hB3
    go_wp2_with fail
    go_ret
    exact ⟨rfl, HB3.out⟩
end Pv
