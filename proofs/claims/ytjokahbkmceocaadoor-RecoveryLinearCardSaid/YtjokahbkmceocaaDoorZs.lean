import Derived.Test.YtjokahbkmceocaaDoorZr
import Derived.Test.YtjokahbkmceocaaDoorZp
set_option linter.unusedVariables false
set_option linter.unusedSimpArgs false
namespace Pv
open Go Go.RowKit Go.Proofs

/-- both networks, of a valid scenario -/
def NetsP (p n t : Nat) (corrupt : List Int) (devs : List Dev) (tapes : List (List Nat)) (vt : Value) (w : World) (e : Ending) (w' : World) : Prop :=
  Bl w w' ∧ ((¬ ScOK p n t corrupt devs tapes ∧ e = .returned (.tuple #[.pointer none, .pointer none, .bool false])) ∨
    (ScOK p n t corrupt devs tapes ∧ ∃ nb vb vtp rb B0, e = .returned (.tuple #[.pointer (some ⟨nb, 0, none⟩), .pointer (some ⟨rb, 0, none⟩), .bool true]) ∧ NetR w' B0 (fun b => b = nb ∨ b = vb) nb ⟨p, n, t, corrupt, devs⟩ vt vtp 0 (fun _ => []) ∧
      (∃ Bt : Nat, TapR w' B0 (fun b => B0 ≤ b ∧ b < Bt ∧ b ≠ nb ∧ b ≠ vb) vtp (tapes.map fun l => (l, 0))) ∧ nb < w'.heap.size ∧ vb < w'.heap.size ∧ w.heap.size ≤ B0 ∧ B0 ≤ w'.heap.size))
theorem TapR.bl {w w' : World} {B0 : Nat} {G : Nat → Prop} {vtp : Value} {tps : List (List Nat × Nat)} (h : TapR w B0 G vtp tps) (hk : Bl w w') : TapR w' B0 G vtp tps := by
  obtain ⟨tb, h1, h2, h3, h4⟩ := h
  refine ⟨tb, h1.bl hk, h2, fun i hi => ?_, h4⟩
  obtain ⟨⟨v, e1, e2⟩, e3, e4, e5⟩ := h3 i hi
  have hlt := (Array.getElem?_eq_some_iff.1 e1).1
  exact ⟨⟨v, by rw [hk.block _ hlt]; exact e1, (kS kU).kp e2 (hk.kp _)⟩, e3, e4, e5⟩
theorem NetR.lt {w : World} {B0 : Nat} {F : Nat → Prop} {nb : Nat} {sc : Sc} {vt vtp : Value} {round : Nat} {views : Nat → List Ev} (h : NetR w B0 F nb sc vt vtp round views) : nb < w.heap.size := by
  obtain ⟨_, _, _, _, h1, _⟩ := h
  exact (Array.getElem?_eq_some_iff.1 h1).1
set_option maxHeartbeats 4000000 in
set_option maxRecDepth 100000 in
theorem nets_any (p n t : Nat) (vc vd vt : Value) (corrupt : List Int) (devs : List Dev) (tapes : List (List Nat)) (w : World) (hL : Laid w) (hc : (kS kI).R w Any [vc] corrupt) (hd : (kS kDev).R w Any [vd] devs) (ht : (kS (kS kU)).R w Any [vt] tapes) (htl : ∀ l, l ∈ tapes → l.length ≤ 1000000) :
    Calls Tryd.prog 16 #[scVal p n t vc vd vt] w fun e w' => NetsP p n t corrupt devs tapes vt w e w' := by
  have hclow := (kS kI).low hc
  have hdlow := (kS kDev).low hd
  have htlow := (kS (kS kU)).low ht
  obtain ⟨Ac, cc, rfl, _, _⟩ := kS_len hc
  obtain ⟨Ad, cd, rfl, _, _⟩ := kS_len hd
  obtain ⟨At, ct, rfl, _, _⟩ := kS_len ht
  obtain ⟨W, hW⟩ : ∃ W, W = w.alloc (.cells #[.int .u64 p, .int .i64 n, .int .i64 t, .slice Ac corrupt.length cc, .slice Ad devs.length cd, .slice At tapes.length ct] 29) := ⟨_, rfl⟩
  have hB0 : Bl w W := by rw [hW]; exact (Below.refl _ _).alloc (Nat.le_refl _) _
  have hbox : ∀ i u, (#[.int .u64 p, .int .i64 n, .int .i64 t, .slice Ac corrupt.length cc, .slice Ad devs.length cd, .slice At tapes.length ct] : Array Value)[i]? = some u → W.cell? ⟨w.heap.size, i, none⟩ = some u := fun i u hu => by
    rw [hW, World.cell?_alloc_at _ _ _ _ rfl]; exact hu
  have hnew := new_any p n t (.slice Ac corrupt.length cc) (.slice Ad devs.length cd) (.slice At tapes.length ct) corrupt devs tapes W (hL.bl hB0) ((kS kI).any ((kS kI).bl hclow hB0)) ((kS kDev).any ((kS kDev).bl hdlow hB0)) ((kS (kS kU)).any ((kS (kS kU)).bl htlow hB0))
  have hrnew := fun W2 (h : Bl w W2) => rnew_any p n t (.slice Ac corrupt.length cc) (.slice Ad devs.length cd) (.slice At tapes.length ct) corrupt devs tapes W2 ((kS kI).any ((kS kI).bl hclow h)) ((kS kDev).any ((kS kDev).bl hdlow h)) ((kS (kS kU)).any ((kS (kS kU)).bl htlow h)) htl
  simp only [scVal] at hnew hrnew ⊢
  have HW := hide hW; have HB0 := hide hB0; have HBX := hide hbox; have HNEW := hide hnew; have HRN := hide hrnew
  clear hW hB0 hbox hnew hrnew hclow hdlow htlow hc hd ht hL htl
  go_enter Tryd.func16, Tryd.ntmps16
  go_wp2_with fail
  rw [← HW.out]
  refine HNEW.out.mono ?_
  rintro e w2 ⟨hB2, hcase⟩
  have b0 := cell_bl hB2 (HBX.out 0 _ rfl)
  have b1 := cell_bl hB2 (HBX.out 1 _ rfl)
  have b2 := cell_bl hB2 (HBX.out 2 _ rfl)
  have b3 := cell_bl hB2 (HBX.out 3 _ rfl)
  have b4 := cell_bl hB2 (HBX.out 4 _ rfl)
  have b5 := cell_bl hB2 (HBX.out 5 _ rfl)
  have HB2 := hide (Bl.then HB0.out HB0.out.size hB2)
  have HB12 := hide hB2
  clear hB2
  rcases hcase with ⟨hno, rfl⟩ | ⟨hok, nb, vb, vtp, rfl, hN, hT⟩
  · have HNO := hide hno; clear hno
    go_wp2_with fail
    refine (HRN.out _ HB2.out).mono ?_
    rintro e w3 ⟨hB3, hcase⟩
    rcases hcase with ⟨_, rfl⟩ | ⟨hok, _⟩
    · have HB3 := hide (Bl.then HB2.out HB2.out.size hB3); clear hB3
      go_wp2_with fail
      go_ret3
      exact ⟨HB3.out, .inl ⟨HNO.out, rfl⟩⟩
    · exact absurd hok HNO.out
  · have HOK := hide hok; have HN := hide hN; have HT := hide hT
    clear hok hN hT
    go_wp2_with fail
    refine (HRN.out _ HB2.out).mono ?_
    rintro e w3 ⟨hB3, hcase⟩
    rcases hcase with ⟨hno, _⟩ | ⟨_, rb, rfl⟩
    · exact absurd HOK.out hno
    · have HB3 := hide hB3; clear hB3
      go_wp2_with fail
      go_ret3
      have hvb : vb < w2.heap.size := by
        obtain ⟨_, _, vb', _, h1, _, _, h4, _⟩ := HN.out
        rcases h4.f0.1 with e | e
        · exact absurd e h4.f0.2
        · rw [← e]; exact h4.out.lt
      refine ⟨Bl.then HB2.out HB2.out.size HB3.out, .inr ⟨HOK.out, nb, vb, vtp, rb, W.heap.size, rfl, HN.out.bl HB3.out, ⟨_, HT.out.bl HB3.out⟩, Nat.lt_of_lt_of_le HN.out.lt HB3.out.size, Nat.lt_of_lt_of_le hvb HB3.out.size, HB0.out.size, Nat.le_trans HB12.out.size HB3.out.size⟩⟩
end Pv

set_option linter.unusedVariables false
set_option linter.unusedSimpArgs false
namespace Pv
open Go Go.RowKit Go.Proofs

def FairB (lies words : Nat) (p : Nat) (n t : Int) (corrupt : List Int) (devs : List Dev) (tapes : List (List Nat)) : Prop :=
  devs.length ≤ lies ∧ tapes.length ≤ 13 ∧ corrupt.length ≤ 13 ∧ (∀ l, l ∈ tapes → l.length ≤ words) ∧ ScOK p n t corrupt devs tapes
def FairP (lies words : Nat) (p : Nat) (n t : Int) (corrupt : List Int) (devs : List Dev) (tapes : List (List Nat)) (w : World) (e : Ending) (w' : World) : Prop :=
  Bl w w' ∧ ∃ b, e = .returned (.bool b) ∧ (b = true ↔ FairB lies words p n t corrupt devs tapes)
set_option maxHeartbeats 4000000 in
set_option maxRecDepth 100000 in
theorem fair_any (lies words p : Nat) (n t : Int) (vc vd vt : Value) (corrupt : List Int) (devs : List Dev) (tapes : List (List Nat)) (w : World) (hc : (kS kI).R w Any [vc] corrupt) (hd : (kS kDev).R w Any [vd] devs) (ht : (kS (kS kU)).R w Any [vt] tapes) :
    Calls Tryd.prog 38 #[scVal p n t vc vd vt, .int .i64 lies, .int .i64 words] w fun e w' => FairP lies words p n t corrupt devs tapes w e w' := by
  have hclow := (kS kI).low hc
  have hdlow := (kS kDev).low hd
  have htlow := (kS (kS kU)).low ht
  obtain ⟨Ac, cc, rfl, _, _⟩ := kS_len hc
  obtain ⟨Ad, cd, rfl, _, _⟩ := kS_len hd
  obtain ⟨At, ct, rfl, ⟨hlt1, hlt2⟩, hrt⟩ := rd_open rfl htlow
  obtain ⟨D0, hD0⟩ : ∃ D0, D0 = corrupt.length := ⟨_, rfl⟩
  obtain ⟨D1, hD1⟩ : ∃ D1, D1 = devs.length := ⟨_, rfl⟩
  obtain ⟨D2, hD2⟩ : ∃ D2, D2 = tapes.length := ⟨_, rfl⟩
  rw [← hD0] at hclow ⊢
  rw [← hD1] at hdlow ⊢
  rw [← hD2] at hlt1 htlow ⊢
  obtain ⟨W, hW⟩ : ∃ W, W = w.alloc (.cells #[.int .u64 p, .int .i64 n, .int .i64 t, .slice Ac D0 cc, .slice Ad D1 cd, .slice At D2 ct] 29) := ⟨_, rfl⟩
  have hB0 : Bl w W := by rw [hW]; exact (Below.refl _ _).alloc (Nat.le_refl _) _
  have hbox : ∀ i u, (#[.int .u64 p, .int .i64 n, .int .i64 t, .slice Ac D0 cc, .slice Ad D1 cd, .slice At D2 ct] : Array Value)[i]? = some u → W.cell? ⟨w.heap.size, i, none⟩ = some u := fun i u hu => by
    rw [hW, World.cell?_alloc_at _ _ _ _ rfl]; exact hu
  have hscn := rscen_any p n t (.slice Ac D0 cc) (.slice Ad D1 cd) (.slice At D2 ct) corrupt devs tapes _ _ _ W ((kS kI).bl hclow hB0) ((kS kDev).bl hdlow hB0) ((kS (kS kU)).bl htlow hB0)
  simp only [scVal] at hscn ⊢
  have HW := hide hW; have HB0 := hide hB0; have HBX := hide hbox; have HSC := hide hscn; have HRT := hide hrt
  have HD0 := hide hD0; have HD1 := hide hD1; have HD2 := hide hD2
  clear hW hB0 hbox hscn hrt hclow hdlow htlow hc hd ht hD0 hD1 hD2
  by_cases h1 : D1 ≤ lies
  · have i1 : ¬ (lies : Int) < (D1 : Int) := by omega
    have H1 := hide h1; clear h1
    by_cases h2 : D2 ≤ 13
    · have i2 : ¬ (13 : Int) < (D2 : Int) := by omega
      have H2 := hide h2; clear h2
      by_cases h3 : D0 ≤ 13
      · have i3 : ¬ (13 : Int) < (D0 : Int) := by omega
        have H3 := hide h3; clear h3
        go_enter Tryd.func38, Tryd.ntmps38
        go_wp2_with fail
        rw [← HW.out]
        go_loopw [7] (fun ix wr => wr = W ∧ ∃ k : Nat, k ≤ D2 ∧ ix = .int .i64 k ∧ ∀ i, i < k → (tapes.getD i []).length ≤ words) (fun ix _ => D2 - (intOf ix).toNat)
        case atStart => exact ⟨rfl, 0, by omega, rfl, fun i h => by omega⟩
        case round =>
          obtain ⟨rfl, k, hk, rfl, hz⟩ := hrel
          have HZ := hide hz; clear hz
          have b5 := HBX.out 5 _ rfl
          by_cases hkD : k < D2
          · have hkl : k < tapes.length := by rw [← HD2.out]; exact hkD
            obtain ⟨ad, u, rfl, _, hu, hcu⟩ := HRT.out k (tapes.getD k []) (by rw [List.getD_eq_getElem?_getD, List.getElem?_eq_getElem hkl]; rfl)
            have hmem : tapes.getD k [] ∈ tapes := by rw [List.getD_eq_getElem?_getD, List.getElem?_eq_getElem hkl]; exact List.getElem_mem _
            have hcu := cell_bl HB0.out hcu
            obtain ⟨Au, cu, rfl, _, _⟩ := kS_len hu
            have hki : (k : Int) < (D2 : Int) := by omega
            have hk0 : (0 : Int) ≤ (k : Int) := by omega
            obtain ⟨l, hl⟩ : ∃ l, l = tapes.getD k [] := ⟨_, rfl⟩
            rw [← hl] at hcu hmem
            have HL := hide hl; have HMEM := hide hmem; clear hl hmem hu
            by_cases hlw : l.length ≤ words
            · have i4 : ¬ (words : Int) < (l.length : Int) := by omega
              have HLW := hide hlw; clear hlw
              go_wp2_with fail
              go_round
              case rel => exact ⟨by first | trivial | rfl, k + 1, by omega, by go_num, fun i hi => by
                by_cases e : i = k
                · rw [e, ← HL.out]; exact HLW.out
                · exact HZ.out i (by omega)⟩
              case measure => simp [intOf]; omega
            · have i4 : (words : Int) < (l.length : Int) := by omega
              have HNO := hide (show ¬ FairB lies words p n t corrupt devs tapes from fun h => hlw (h.2.2.2.1 l HMEM.out))
              clear hlw
              go_wp2_with fail
              go_ret
              exact ⟨HB0.out, false, rfl, iff_of_false (by simp) HNO.out⟩
          · have hkD' : k = D2 := by omega
            have b0 := HBX.out 0 _ rfl
            have b1 := HBX.out 1 _ rfl
            have b2 := HBX.out 2 _ rfl
            have b3 := HBX.out 3 _ rfl
            have b4 := HBX.out 4 _ rfl
            go_wp2_with fail
            refine HSC.out.mono ?_
            rintro e w3 ⟨hB3, b, rfl, hb⟩
            have HB3 := hide (Bl.then HB0.out HB0.out.size hB3); have HBB := hide hb
            clear hB3 hb
            go_wp2_with fail
            go_ret
            exact ⟨HB3.out, b, rfl, HBB.out.trans ⟨fun h => ⟨by rw [← HD1.out]; exact H1.out, by rw [← HD2.out]; exact H2.out, by rw [← HD0.out]; exact H3.out, fun l hl => by
              obtain ⟨i, hi, rfl⟩ := List.getElem_of_mem hl
              have := HZ.out i (by rw [hkD', HD2.out]; exact hi)
              rwa [List.getD_eq_getElem?_getD, List.getElem?_eq_getElem hi] at this, h⟩, fun h => h.2.2.2.2⟩⟩
      · have i3 : (13 : Int) < (D0 : Int) := by omega
        have HNO := hide (show ¬ FairB lies words p n t corrupt devs tapes from fun h => h3 (by rw [HD0.out]; exact h.2.2.1))
        clear h3
        go_enter Tryd.func38, Tryd.ntmps38
        go_wp2_with fail
        rw [← HW.out]
        go_ret
        exact ⟨HB0.out, false, rfl, iff_of_false (by simp) HNO.out⟩
    · have i2 : (13 : Int) < (D2 : Int) := by omega
      have HNO := hide (show ¬ FairB lies words p n t corrupt devs tapes from fun h => h2 (by rw [HD2.out]; exact h.2.1))
      clear h2
      go_enter Tryd.func38, Tryd.ntmps38
      go_wp2_with fail
      rw [← HW.out]
      go_ret
      exact ⟨HB0.out, false, rfl, iff_of_false (by simp) HNO.out⟩
  · have i1 : (lies : Int) < (D1 : Int) := by omega
    have HNO := hide (show ¬ FairB lies words p n t corrupt devs tapes from fun h => h1 (by rw [HD1.out]; exact h.1))
    clear h1
    go_enter Tryd.func38, Tryd.ntmps38
    go_wp2_with fail
    rw [← HW.out]
    go_ret
    exact ⟨HB0.out, false, rfl, iff_of_false (by simp) HNO.out⟩
end Pv

set_option linter.unusedVariables false
set_option linter.unusedSimpArgs false
namespace Pv
open Go Go.RowKit Go.Proofs

def MayB (p : Nat) (n t : Int) (corrupt : List Int) (devs : List Dev) (tapes L : List (List Nat)) (spoil : List Nat) : Prop := FairB 20 20 p n t corrupt devs tapes ∧ L.length ≤ 3 ∧ spoil.length ≤ 20
def LMayP (p : Nat) (n t : Int) (corrupt : List Int) (devs : List Dev) (tapes L : List (List Nat)) (spoil : List Nat) (w : World) (e : Ending) (w' : World) : Prop :=
  Bl w w' ∧ ∃ b, e = .returned (.bool b) ∧ (b = true ↔ MayB p n t corrupt devs tapes L spoil)
set_option maxHeartbeats 4000000 in
set_option maxRecDepth 100000 in
theorem lmay_any (p : Nat) (n t : Int) (vc vd vt vl vs : Value) (wh : Nat) (corrupt : List Int) (devs : List Dev) (tapes L : List (List Nat)) (spoil : List Nat) (w : World) (hc : (kS kI).R w Any [vc] corrupt) (hd : (kS kDev).R w Any [vd] devs) (ht : (kS (kS kU)).R w Any [vt] tapes) (hl : (kS (kS kU)).R w Any [vl] L) (hs : (kS kU).R w Any [vs] spoil) :
    Calls Tryd.prog 13 #[askVal p n t vc vd vt wh vl vs] w fun e w' => LMayP p n t corrupt devs tapes L spoil w e w' := by
  have hclow := (kS kI).low hc
  have hdlow := (kS kDev).low hd
  have htlow := (kS (kS kU)).low ht
  obtain ⟨Ac, cc, rfl, _, _⟩ := kS_len hc
  obtain ⟨Ad, cd, rfl, _, _⟩ := kS_len hd
  obtain ⟨At, ct, rfl, _, _⟩ := kS_len ht
  obtain ⟨Al, cl, rfl, _, _⟩ := kS_len hl
  obtain ⟨As, cs, rfl, _, _⟩ := kS_len hs
  obtain ⟨D3, hD3⟩ : ∃ D3, D3 = L.length := ⟨_, rfl⟩
  obtain ⟨D4, hD4⟩ : ∃ D4, D4 = spoil.length := ⟨_, rfl⟩
  rw [← hD3, ← hD4]
  have hB0 : Bl w (w.alloc (.cells #[.int .u64 p, .int .i64 n, .int .i64 t, .slice Ac corrupt.length cc, .slice Ad devs.length cd, .slice At tapes.length ct, .int .u8 wh, .slice Al D3 cl, .slice As D4 cs] 32)) := (Below.refl _ _).alloc (Nat.le_refl _) _
  have hbox : ∀ i u, (#[.int .u64 p, .int .i64 n, .int .i64 t, .slice Ac corrupt.length cc, .slice Ad devs.length cd, .slice At tapes.length ct, .int .u8 wh, .slice Al D3 cl, .slice As D4 cs] : Array Value)[i]? = some u → (w.alloc (.cells #[.int .u64 p, .int .i64 n, .int .i64 t, .slice Ac corrupt.length cc, .slice Ad devs.length cd, .slice At tapes.length ct, .int .u8 wh, .slice Al D3 cl, .slice As D4 cs] 32)).cell? ⟨w.heap.size, i, none⟩ = some u := fun i u hu => by
    rw [World.cell?_alloc_at _ _ _ _ rfl]; exact hu
  have hfa := fair_any 20 20 p n t (.slice Ac corrupt.length cc) (.slice Ad devs.length cd) (.slice At tapes.length ct) corrupt devs tapes _ ((kS kI).any ((kS kI).bl hclow hB0)) ((kS kDev).any ((kS kDev).bl hdlow hB0)) ((kS (kS kU)).any ((kS (kS kU)).bl htlow hB0))
  simp only [scVal] at hfa
  simp only [askVal]
  have HB0 := hide hB0; have HBX := hide hbox; have HFA := hide hfa; have HD3 := hide hD3; have HD4 := hide hD4
  clear hB0 hbox hfa hclow hdlow htlow hc hd ht hl hs hD3 hD4
  go_enter Tryd.func13, Tryd.ntmps13
  go_wp2_with fail
  refine HFA.out.mono ?_
  rintro e w2 ⟨hB2, b, rfl, hb⟩
  have b7 := cell_bl hB2 (HBX.out 7 _ rfl)
  have b8 := cell_bl hB2 (HBX.out 8 _ rfl)
  have HB2 := hide (Bl.then HB0.out HB0.out.size hB2); have HBB := hide hb
  clear hB2 hb
  cases b with
  | false =>
    go_wp2_with fail
    go_ret
    exact ⟨HB2.out, false, rfl, iff_of_false (by simp) fun h => by have := HBB.out.2 h.1; simp at this⟩
  | true =>
    by_cases h3 : D3 ≤ 3
    · have i3 : (D3 : Int) ≤ 3 := by omega
      have H3 := hide h3; clear h3
      by_cases h4 : D4 ≤ 20
      · have i4 : (D4 : Int) ≤ 20 := by omega
        have H4 := hide h4; clear h4
        go_wp2_with fail
        go_ret
        exact ⟨HB2.out, true, by first | rfl | (rw [← decide_eq_true i4]; rfl) | (simp only [i4, decide_true]; rfl), iff_of_true rfl ⟨HBB.out.1 (by first | trivial | rfl), by rw [← HD3.out]; exact H3.out, by rw [← HD4.out]; exact H4.out⟩⟩
      · have i4 : ¬ (D4 : Int) ≤ 20 := by omega
        have HNO := hide (show ¬ MayB p n t corrupt devs tapes L spoil from fun h => h4 (by rw [HD4.out]; exact h.2.2))
        have i5 : (decide ((D4 : Int) ≤ 20)) = false := decide_eq_false i4
        have I5 := hide i5
        clear h4 i5
        go_wp2_with fail
        go_ret
        exact ⟨HB2.out, false, by first | rfl | (rw [← I5.out]; rfl), iff_of_false (by simp) HNO.out⟩
    · have i3 : ¬ (D3 : Int) ≤ 3 := by omega
      have HNO := hide (show ¬ MayB p n t corrupt devs tapes L spoil from fun h => h3 (by rw [HD3.out]; exact h.2.1))
      clear h3
      go_wp2_with fail
      go_ret
      exact ⟨HB2.out, false, rfl, iff_of_false (by simp) HNO.out⟩
/-- the recovering party -/
def whoN (n wh : Nat) : Nat := 1 + wh % n
set_option maxHeartbeats 1000000 in
theorem who_any (p : Nat) (n : Nat) (t : Int) (Ac Ad At Al As : Option Addr) (nc cc nd cd nt ct nl cl ns cs : Nat) (wh : Nat) (w : World) (hn : 1 ≤ n) (hn2 : n ≤ 1000) (hw : wh < 256) :
    Calls Tryd.prog 19 #[askVal p n t (.slice Ac nc cc) (.slice Ad nd cd) (.slice At nt ct) wh (.slice Al nl cl) (.slice As ns cs)] w fun e w' => e = .returned (.int .i64 (whoN n wh : Nat)) ∧ Bl w w' := by
  have hB0 : Bl w (w.alloc (.cells #[.int .u64 p, .int .i64 n, .int .i64 t, .slice Ac nc cc, .slice Ad nd cd, .slice At nt ct, .int .u8 wh, .slice Al nl cl, .slice As ns cs] 32)) := (Below.refl _ _).alloc (Nat.le_refl _) _
  have HB0 := hide hB0; clear hB0
  have hn0 : ¬ (n : Int) = 0 := by omega
  have e1 : IntKind.i64.wrap (wh : Int) = (wh : Int) := by rw [IntWalk.i64_in _ (by omega)]
  have hml : wh % n < n := Nat.mod_lt _ (by omega)
  have e2 : (wh : Int).tmod (n : Int) = ((wh % n : Nat) : Int) := rfl
  have e3 : IntKind.i64.wrap ((wh % n : Nat) : Int) = ((wh % n : Nat) : Int) := by rw [IntWalk.i64_in _ (by omega)]
  have hv : whoN n wh = 1 + wh % n := rfl
  rw [hv]
  clear hv
  obtain ⟨z, hz⟩ : ∃ z, z = wh % n := ⟨_, rfl⟩
  rw [← hz] at e2 e3 hml ⊢
  have HZ := hide hz; clear hz
  simp only [askVal]
  go_enter Tryd.func19, Tryd.ntmps19
  go_wp2_with fail
  go_ret
  exact ⟨by first | rfl | (congr 2; omega) | (simp; omega), HB0.out⟩
end Pv
