import Derived.Test.YtjokahbkmceocaaDoorYLawMsgs
import Derived.Test.YtjokahbkmceocaaDoorYLawOthers
import Derived.Test.YtjokahbkmceocaaDoorZa
import Derived.Deep.RegionHeld
set_option linter.unusedVariables false
set_option linter.unusedSimpArgs false
namespace Pv
open Go Go.RowKit Go.Proofs

set_option maxHeartbeats 4000000 in
set_option maxRecDepth 100000 in
theorem rcorr_any (p : Nat) (n t : Int) (vc vd vt vl vs : Value) (wh : Nat) (corrupt : List Int) (devs : List Dev) (tapes L : List (List Nat)) (spoil : List Nat) (w : World) (hL : Laid w) (hc : (kS kI).R w Any [vc] corrupt) (hd : (kS kDev).R w Any [vd] devs) (ht : (kS (kS kU)).R w Any [vt] tapes) (hl : (kS (kS kU)).R w Any [vl] L) (hs : (kS kU).R w Any [vs] spoil) (hwh : wh < 256) :
    Calls Tryd.prog 3 #[askVal p n t vc vd vt wh vl vs] w fun e w' => LawP w e w' := by
  have hclow := (kS kI).low hc
  have hdlow := (kS kDev).low hd
  have htlow := (kS (kS kU)).low ht
  have hllow := (kS (kS kU)).low hl
  have hslow := (kS kU).low hs
  obtain ⟨Ac, cc, rfl, _, _⟩ := kS_len hc
  obtain ⟨Ad, cd, rfl, _, _⟩ := kS_len hd
  obtain ⟨At, ct, rfl, _, _⟩ := kS_len ht
  obtain ⟨Al, cl, rfl, _, _⟩ := kS_len hl
  obtain ⟨As, cs, rfl, _, _⟩ := kS_len hs
  obtain ⟨W0, hW0⟩ : ∃ W0, W0 = w.alloc (.cells #[.int .u64 p, .int .i64 n, .int .i64 t, .slice Ac corrupt.length cc, .slice Ad devs.length cd, .slice At tapes.length ct, .int .u8 wh, .slice Al L.length cl, .slice As spoil.length cs] 32) := ⟨_, rfl⟩
  have hB0 : Bl w W0 := by rw [hW0]; exact (Below.refl _ _).alloc (Nat.le_refl _) _
  have hbox : ∀ i u, (#[.int .u64 p, .int .i64 n, .int .i64 t, .slice Ac corrupt.length cc, .slice Ad devs.length cd, .slice At tapes.length ct, .int .u8 wh, .slice Al L.length cl, .slice As spoil.length cs] : Array Value)[i]? = some u → W0.cell? ⟨w.heap.size, i, none⟩ = some u := fun i u hu => by
    rw [hW0, World.cell?_alloc_at _ _ _ _ rfl]; exact hu
  have hmc := fun W2 (h : Bl w W2) => lmay_any p n t _ _ _ _ _ wh corrupt devs tapes L spoil W2 ((kS kI).any ((kS kI).bl hclow h)) ((kS kDev).any ((kS kDev).bl hdlow h)) ((kS (kS kU)).any ((kS (kS kU)).bl htlow h)) ((kS (kS kU)).any ((kS (kS kU)).bl hllow h)) ((kS kU).any ((kS kU).bl hslow h))
  by_cases hmay : MayB p n t corrupt devs tapes L spoil
  · obtain ⟨N, T, rfl, rfl, hF⟩ := fair_facts hmay.1
    have hmc := fun W2 (h : Bl w W2) => (hmc W2 h).mono (R' := fun e w' => e = .returned (.bool true) ∧ Bl W2 w') (fun e w' h => by
      obtain ⟨h1, b, rfl, hb⟩ := h
      cases b with
      | true => exact ⟨rfl, h1⟩
      | false => have := hb.2 hmay; cases this)
    have hnets := fun W2 (h : Bl w W2) => nets_any p N T _ _ _ corrupt devs tapes W2 (hL.bl h) ((kS kI).any ((kS kI).bl hclow h)) ((kS kDev).any ((kS kDev).bl hdlow h)) ((kS (kS kU)).any ((kS (kS kU)).bl htlow h)) (fun l hl => Nat.le_trans (hF.tl l hl) (by decide))
    have hwho := fun W2 => who_any p N T Ac Ad At Al As corrupt.length cc devs.length cd tapes.length ct L.length cl spoil.length cs wh W2 (by have := hF.n4; omega) (by have := hF.n13; omega) hwh
    have hoth := fun W2 (h : Bl w W2) => others_any p N T _ _ _ _ _ wh corrupt devs tapes L spoil W2 ((kS kI).any ((kS kI).bl hclow h)) ((kS kDev).any ((kS kDev).bl hdlow h)) ((kS (kS kU)).any ((kS (kS kU)).bl htlow h)) ((kS (kS kU)).any ((kS (kS kU)).bl hllow h)) ((kS kU).any ((kS kU).bl hslow h)) (by have := hF.n4; omega) (by have := hF.n13; omega) hwh
    have hnum := fun W2 (h : Bl w W2) => numbers_any p N T _ _ _ _ _ wh corrupt devs tapes L spoil W2 ((kS kI).any ((kS kI).bl hclow h)) ((kS kDev).any ((kS kDev).bl hdlow h)) ((kS (kS kU)).any ((kS (kS kU)).bl htlow h)) ((kS (kS kU)).any ((kS (kS kU)).bl hllow h)) ((kS kU).any ((kS kU).bl hslow h)) hF.hp hF.n13 hF.np (by have := hF.t3; have := hF.n13; omega) hmay.2.1 hmay.2.2
    have hnux := fun W2 (h : Bl w W2) => numbers_any p N T _ _ _ _ (.slice none 0 0) wh corrupt devs tapes L [] W2 ((kS kI).any ((kS kI).bl hclow h)) ((kS kDev).any ((kS kDev).bl hdlow h)) ((kS (kS kU)).any ((kS (kS kU)).bl htlow h)) ((kS (kS kU)).any ((kS (kS kU)).bl hllow h)) (kS_nil _ _ _) hF.hp hF.n13 hF.np (by have := hF.t3; have := hF.n13; omega) hmay.2.1 (by decide)
    obtain ⟨q, hq⟩ : ∃ q, q = whoN N wh := ⟨_, rfl⟩
    have hqw := whoN_in (N := N) (wh := wh) (by have := hF.n4; omega)
    rw [← hq] at hwho hqw hoth
    obtain ⟨hq1, hqN⟩ := hqw
    simp only [scVal, askVal] at hmc hnets hwho hnum hnux hoth ⊢
    obtain ⟨DL, hDL⟩ : ∃ D, D = L.length := ⟨_, rfl⟩
    have hDL3 : DL ≤ 3 := by rw [hDL]; exact hmay.2.1
    have hnl := numL_len p N T corrupt spoil L
    have hnlx := numL_len p N T corrupt [] L
    have hnok := numL_ok (p := p) (N := N) (T := T) (by have := hF.np; omega) corrupt spoil L
    obtain ⟨O, hO⟩ : ∃ O, O = othN N q corrupt := ⟨_, rfl⟩
    have hO13 : O ≤ 13 := by rw [hO]; exact Nat.le_trans (othN_le _ _ _) hF.n13
    have hrr := fun (hb : othN N q corrupt ≤ (N - 2 - T) / 2) (k : Nat) (hk : k < L.length) => nsM_row_right (K := 0) hF.hp hF.np hF.t3 hF.t1 hq1 hqN corrupt devs spoil L (by have := hmay.2.1; omega) k hk hb
    rw [← hDL] at hmc hwho hnum hnux hoth hbox hW0 hnl hnlx hrr ⊢
    rw [← hO] at hrr
    have hn4 := hF.n4
    have hn13 := hF.n13
    have ht1 := hF.t1
    have ht3 := hF.t3
    have HB0 := hide hB0; have HBX := hide hbox; have HMC := hide hmc; have HN := hide hnets; have HWHO := hide hwho; have HNUM := hide hnum; have HFF := hide hF; have HLD := hide hL; have HW0 := hide hW0; have HQ := hide hq; have HDL := hide hDL; have HNL := hide hnl; have HNOK := hide hnok
    have HNUX := hide hnux; have HOTH := hide hoth; have HNLX := hide hnlx; have HO := hide hO; have HRR := hide hrr
    have haw := fun W2 (h : Bl w W2) => awake_any W2 (HLD.out.bl h)
    have HAW := hide haw
    clear hB0 hbox hmc hnets hwho hnum hF hL hW0 hq hDL hclow hdlow htlow hllow hslow hc hd ht hl hs hmay hnl hnok hnux hoth hnlx hO hrr haw
    obtain ⟨N2, hN2⟩ : ∃ N2, N2 = N - 2 := ⟨_, rfl⟩
    obtain ⟨m, hm⟩ : ∃ m, m = N2 - T := ⟨_, rfl⟩
    obtain ⟨bd, hbd⟩ : ∃ bd, bd = m / 2 := ⟨_, rfl⟩
    have e1 : (N : Int) - 2 = (N2 : Int) := by omega
    have e2 : (N2 : Int) - (T : Int) = (m : Int) := by omega
    have e3 : Int.tdiv (m : Int) 2 = (bd : Int) := by rw [hbd]; rfl
    have w1 : IntKind.i64.wrap (N2 : Int) = (N2 : Int) := by rw [IntWalk.i64_in _ (by omega)]
    have w2' : IntKind.i64.wrap (m : Int) = (m : Int) := by rw [IntWalk.i64_in _ (by omega)]
    have w3' : IntKind.i64.wrap (bd : Int) = (bd : Int) := by rw [IntWalk.i64_in _ (by omega)]
    have hbde : bd = (N - 2 - T) / 2 := by rw [hbd, hm, hN2]
    have HBD := hide hbde
    clear hN2 hm hbd hbde
    by_cases hob : O ≤ bd
    · have hgt : decide (bd < O) = false := decide_eq_false (by omega)
      have hgti : decide ((bd : Int) < (O : Int)) = false := decide_eq_false (by omega)
      have HOB := hide hob; clear hob
      go_enter Tryd.func3, Tryd.ntmps3
      go_wp2_with fail
      rw [← HW0.out]
      have b0 := HBX.out 0 _ rfl
      have b1 := HBX.out 1 _ rfl
      have b2 := HBX.out 2 _ rfl
      have b3 := HBX.out 3 _ rfl
      have b4 := HBX.out 4 _ rfl
      have b5 := HBX.out 5 _ rfl
      have b6 := HBX.out 6 _ rfl
      have b7 := HBX.out 7 _ rfl
      have b8 := HBX.out 8 _ rfl
      refine wp_region_held_drew (S := fun w' => Bl W0 w') (by kernel_rfl) ((Dr.one (Dr.refl W0)).below _) (fun hHeld => ?_)
      refine wpAnyH_take (i := 0) (oi := { dst := some 10, op := Go.Op.load 32 (Go.Operand.tmp 1), type := 32, pos := _, after := _, guard := none }) (v := ?_) rfl (by kernel_rfl) (by kernel_rfl) (by kernel_rfl) (fun _ _ _ h => h) ?_ (by assumption) ?_
      rotate_left
      · first | (refine Or.inl ⟨by rfl, ?_⟩; intro w hSw; have z0 := cell_bl hSw b0; have z1 := cell_bl hSw b1; have z2 := cell_bl hSw b2; have z3 := cell_bl hSw b3; have z4 := cell_bl hSw b4; have z5 := cell_bl hSw b5; have z6 := cell_bl hSw b6; have z7 := cell_bl hSw b7; have z8 := cell_bl hSw b8; go_simp; (try (with_reducible rfl)); done) | (refine Or.inr ⟨by rfl, ?_⟩; with_reducible rfl)
      try simp only [Act.put, List.setIfInBounds_toArray, List.set_cons_zero, List.set_cons_succ]
      refine wpAnyH_ready (rs := [1]) (by kernel_rfl) (by simp) ?_
      refine AllReadyH.cons (o := { dst := some 11, op := Go.Op.call { callee := Go.Callee.value (Go.Operand.func 13), args := #[Go.Operand.tmp 10], argTypes := #[32] }, type := 4, pos := _, after := _, guard := none }) rfl (fun K hK => ?_) AllReadyH.nil
      go_simp
      refine (HMC.out _ (Bl.dr HB0.out (Dr.one (Dr.refl W0)))).mono ?_
      rintro e w2 ⟨rfl, hB2⟩
      have hB02 : Bl W0 w2 := (Bl.dr (Below.refl _ _) (Dr.one (Dr.refl _))).trans hB2
      simp only []
      refine hK.out _ _ ?_ (fun hHeld => ?_)
      · exact hB02
      clear hK K
      try simp only [Act.put, List.setIfInBounds_toArray, List.set_cons_zero, List.set_cons_succ]
      refine wpAnyH_take (i := 2) (oi := { dst := some 12, op := Go.Op.unOp Go.UnOp.not 4 (Go.Operand.tmp 11), type := 4, pos := _, after := _, guard := none }) (v := ?_) rfl (by kernel_rfl) (by kernel_rfl) (by kernel_rfl) (fun _ _ _ h => h) ?_ (by assumption) ?_
      rotate_left
      · first | (refine Or.inl ⟨by rfl, ?_⟩; intro w hSw; have z0 := cell_bl hSw b0; have z1 := cell_bl hSw b1; have z2 := cell_bl hSw b2; have z3 := cell_bl hSw b3; have z4 := cell_bl hSw b4; have z5 := cell_bl hSw b5; have z6 := cell_bl hSw b6; have z7 := cell_bl hSw b7; have z8 := cell_bl hSw b8; go_simp; (try (with_reducible rfl)); done) | (refine Or.inr ⟨by rfl, ?_⟩; with_reducible rfl)
      try simp only [Act.put, List.setIfInBounds_toArray, List.set_cons_zero, List.set_cons_succ]
      refine wpAnyH_take (i := 3) (oi := { dst := some 13, op := Go.Op.move (Go.Operand.tmp 12), type := 4, pos := _, after := _, guard := none }) (v := ?_) rfl (by kernel_rfl) (by kernel_rfl) (by kernel_rfl) (fun _ _ _ h => h) ?_ (by assumption) ?_
      rotate_left
      · first | (refine Or.inl ⟨by rfl, ?_⟩; intro w hSw; have z0 := cell_bl hSw b0; have z1 := cell_bl hSw b1; have z2 := cell_bl hSw b2; have z3 := cell_bl hSw b3; have z4 := cell_bl hSw b4; have z5 := cell_bl hSw b5; have z6 := cell_bl hSw b6; have z7 := cell_bl hSw b7; have z8 := cell_bl hSw b8; go_simp; (try (with_reducible rfl)); done) | (refine Or.inr ⟨by rfl, ?_⟩; with_reducible rfl)
      try simp only [Act.put, List.setIfInBounds_toArray, List.set_cons_zero, List.set_cons_succ]
      refine wpAnyH_take (i := 4) (oi := { dst := some 14, op := Go.Op.load 32 (Go.Operand.tmp 1), type := 32, pos := _, after := _, guard := some (3, false) }) (v := ?_) rfl (by kernel_rfl) (by kernel_rfl) (by kernel_rfl) (fun _ _ _ h => h) ?_ (by assumption) ?_
      rotate_left
      · first | (refine Or.inl ⟨by rfl, ?_⟩; intro w hSw; have z0 := cell_bl hSw b0; have z1 := cell_bl hSw b1; have z2 := cell_bl hSw b2; have z3 := cell_bl hSw b3; have z4 := cell_bl hSw b4; have z5 := cell_bl hSw b5; have z6 := cell_bl hSw b6; have z7 := cell_bl hSw b7; have z8 := cell_bl hSw b8; go_simp; (try (with_reducible rfl)); done) | (refine Or.inr ⟨by rfl, ?_⟩; with_reducible rfl)
      try simp only [Act.put, List.setIfInBounds_toArray, List.set_cons_zero, List.set_cons_succ]
      refine wpAnyH_take (i := 6) (oi := { dst := some 16, op := Go.Op.fieldAddr 32 (Go.Operand.tmp 1) 0, type := 0, pos := _, after := _, guard := some (3, false) }) (v := ?_) rfl (by kernel_rfl) (by kernel_rfl) (by kernel_rfl) (fun _ _ _ h => h) ?_ (by assumption) ?_
      rotate_left
      · first | (refine Or.inl ⟨by rfl, ?_⟩; intro w hSw; have z0 := cell_bl hSw b0; have z1 := cell_bl hSw b1; have z2 := cell_bl hSw b2; have z3 := cell_bl hSw b3; have z4 := cell_bl hSw b4; have z5 := cell_bl hSw b5; have z6 := cell_bl hSw b6; have z7 := cell_bl hSw b7; have z8 := cell_bl hSw b8; go_simp; (try (with_reducible rfl)); done) | (refine Or.inr ⟨by rfl, ?_⟩; with_reducible rfl)
      try simp only [Act.put, List.setIfInBounds_toArray, List.set_cons_zero, List.set_cons_succ]
      refine wpAnyH_take (i := 7) (oi := { dst := some 17, op := Go.Op.fieldAddr 29 (Go.Operand.tmp 16) 0, type := 0, pos := _, after := _, guard := some (3, false) }) (v := ?_) rfl (by kernel_rfl) (by kernel_rfl) (by kernel_rfl) (fun _ _ _ h => h) ?_ (by assumption) ?_
      rotate_left
      · first | (refine Or.inl ⟨by rfl, ?_⟩; intro w hSw; have z0 := cell_bl hSw b0; have z1 := cell_bl hSw b1; have z2 := cell_bl hSw b2; have z3 := cell_bl hSw b3; have z4 := cell_bl hSw b4; have z5 := cell_bl hSw b5; have z6 := cell_bl hSw b6; have z7 := cell_bl hSw b7; have z8 := cell_bl hSw b8; go_simp; (try (with_reducible rfl)); done) | (refine Or.inr ⟨by rfl, ?_⟩; with_reducible rfl)
      try simp only [Act.put, List.setIfInBounds_toArray, List.set_cons_zero, List.set_cons_succ]
      refine wpAnyH_take (i := 8) (oi := { dst := some 18, op := Go.Op.fieldAddr 24 (Go.Operand.tmp 17) 1, type := 0, pos := _, after := _, guard := some (3, false) }) (v := ?_) rfl (by kernel_rfl) (by kernel_rfl) (by kernel_rfl) (fun _ _ _ h => h) ?_ (by assumption) ?_
      rotate_left
      · first | (refine Or.inl ⟨by rfl, ?_⟩; intro w hSw; have z0 := cell_bl hSw b0; have z1 := cell_bl hSw b1; have z2 := cell_bl hSw b2; have z3 := cell_bl hSw b3; have z4 := cell_bl hSw b4; have z5 := cell_bl hSw b5; have z6 := cell_bl hSw b6; have z7 := cell_bl hSw b7; have z8 := cell_bl hSw b8; go_simp; (try (with_reducible rfl)); done) | (refine Or.inr ⟨by rfl, ?_⟩; with_reducible rfl)
      try simp only [Act.put, List.setIfInBounds_toArray, List.set_cons_zero, List.set_cons_succ]
      refine wpAnyH_take (i := 9) (oi := { dst := some 19, op := Go.Op.load 3 (Go.Operand.tmp 18), type := 3, pos := _, after := _, guard := some (3, false) }) (v := ?_) rfl (by kernel_rfl) (by kernel_rfl) (by kernel_rfl) (fun _ _ _ h => h) ?_ (by assumption) ?_
      rotate_left
      · first | (refine Or.inl ⟨by rfl, ?_⟩; intro w hSw; have z0 := cell_bl hSw b0; have z1 := cell_bl hSw b1; have z2 := cell_bl hSw b2; have z3 := cell_bl hSw b3; have z4 := cell_bl hSw b4; have z5 := cell_bl hSw b5; have z6 := cell_bl hSw b6; have z7 := cell_bl hSw b7; have z8 := cell_bl hSw b8; go_simp; (try (with_reducible rfl)); done) | (refine Or.inr ⟨by rfl, ?_⟩; with_reducible rfl)
      try simp only [Act.put, List.setIfInBounds_toArray, List.set_cons_zero, List.set_cons_succ]
      refine wpAnyH_take (i := 10) (oi := { dst := some 20, op := Go.Op.binOp Go.BinOp.sub 3 (Go.Operand.tmp 19) (Go.Operand.const (Go.Value.int Go.IntKind.i64 2)) 3, type := 3, pos := _, after := _, guard := some (3, false) }) (v := ?_) rfl (by kernel_rfl) (by kernel_rfl) (by kernel_rfl) (fun _ _ _ h => h) ?_ (by assumption) ?_
      rotate_left
      · first | (refine Or.inl ⟨by rfl, ?_⟩; intro w hSw; have z0 := cell_bl hSw b0; have z1 := cell_bl hSw b1; have z2 := cell_bl hSw b2; have z3 := cell_bl hSw b3; have z4 := cell_bl hSw b4; have z5 := cell_bl hSw b5; have z6 := cell_bl hSw b6; have z7 := cell_bl hSw b7; have z8 := cell_bl hSw b8; go_simp; (try (with_reducible rfl)); done) | (refine Or.inr ⟨by rfl, ?_⟩; with_reducible rfl)
      try simp only [Act.put, List.setIfInBounds_toArray, List.set_cons_zero, List.set_cons_succ]
      refine wpAnyH_take (i := 11) (oi := { dst := some 21, op := Go.Op.fieldAddr 32 (Go.Operand.tmp 1) 0, type := 0, pos := _, after := _, guard := some (3, false) }) (v := ?_) rfl (by kernel_rfl) (by kernel_rfl) (by kernel_rfl) (fun _ _ _ h => h) ?_ (by assumption) ?_
      rotate_left
      · first | (refine Or.inl ⟨by rfl, ?_⟩; intro w hSw; have z0 := cell_bl hSw b0; have z1 := cell_bl hSw b1; have z2 := cell_bl hSw b2; have z3 := cell_bl hSw b3; have z4 := cell_bl hSw b4; have z5 := cell_bl hSw b5; have z6 := cell_bl hSw b6; have z7 := cell_bl hSw b7; have z8 := cell_bl hSw b8; go_simp; (try (with_reducible rfl)); done) | (refine Or.inr ⟨by rfl, ?_⟩; with_reducible rfl)
      try simp only [Act.put, List.setIfInBounds_toArray, List.set_cons_zero, List.set_cons_succ]
      refine wpAnyH_take (i := 12) (oi := { dst := some 22, op := Go.Op.fieldAddr 29 (Go.Operand.tmp 21) 0, type := 0, pos := _, after := _, guard := some (3, false) }) (v := ?_) rfl (by kernel_rfl) (by kernel_rfl) (by kernel_rfl) (fun _ _ _ h => h) ?_ (by assumption) ?_
      rotate_left
      · first | (refine Or.inl ⟨by rfl, ?_⟩; intro w hSw; have z0 := cell_bl hSw b0; have z1 := cell_bl hSw b1; have z2 := cell_bl hSw b2; have z3 := cell_bl hSw b3; have z4 := cell_bl hSw b4; have z5 := cell_bl hSw b5; have z6 := cell_bl hSw b6; have z7 := cell_bl hSw b7; have z8 := cell_bl hSw b8; go_simp; (try (with_reducible rfl)); done) | (refine Or.inr ⟨by rfl, ?_⟩; with_reducible rfl)
      try simp only [Act.put, List.setIfInBounds_toArray, List.set_cons_zero, List.set_cons_succ]
      refine wpAnyH_take (i := 13) (oi := { dst := some 23, op := Go.Op.fieldAddr 24 (Go.Operand.tmp 22) 2, type := 0, pos := _, after := _, guard := some (3, false) }) (v := ?_) rfl (by kernel_rfl) (by kernel_rfl) (by kernel_rfl) (fun _ _ _ h => h) ?_ (by assumption) ?_
      rotate_left
      · first | (refine Or.inl ⟨by rfl, ?_⟩; intro w hSw; have z0 := cell_bl hSw b0; have z1 := cell_bl hSw b1; have z2 := cell_bl hSw b2; have z3 := cell_bl hSw b3; have z4 := cell_bl hSw b4; have z5 := cell_bl hSw b5; have z6 := cell_bl hSw b6; have z7 := cell_bl hSw b7; have z8 := cell_bl hSw b8; go_simp; (try (with_reducible rfl)); done) | (refine Or.inr ⟨by rfl, ?_⟩; with_reducible rfl)
      try simp only [Act.put, List.setIfInBounds_toArray, List.set_cons_zero, List.set_cons_succ]
      refine wpAnyH_take (i := 14) (oi := { dst := some 24, op := Go.Op.load 3 (Go.Operand.tmp 23), type := 3, pos := _, after := _, guard := some (3, false) }) (v := ?_) rfl (by kernel_rfl) (by kernel_rfl) (by kernel_rfl) (fun _ _ _ h => h) ?_ (by assumption) ?_
      rotate_left
      · first | (refine Or.inl ⟨by rfl, ?_⟩; intro w hSw; have z0 := cell_bl hSw b0; have z1 := cell_bl hSw b1; have z2 := cell_bl hSw b2; have z3 := cell_bl hSw b3; have z4 := cell_bl hSw b4; have z5 := cell_bl hSw b5; have z6 := cell_bl hSw b6; have z7 := cell_bl hSw b7; have z8 := cell_bl hSw b8; go_simp; (try (with_reducible rfl)); done) | (refine Or.inr ⟨by rfl, ?_⟩; with_reducible rfl)
      try simp only [Act.put, List.setIfInBounds_toArray, List.set_cons_zero, List.set_cons_succ]
      refine wpAnyH_take (i := 15) (oi := { dst := some 25, op := Go.Op.binOp Go.BinOp.sub 3 (Go.Operand.tmp 20) (Go.Operand.tmp 24) 3, type := 3, pos := _, after := _, guard := some (3, false) }) (v := ?_) rfl (by kernel_rfl) (by kernel_rfl) (by kernel_rfl) (fun _ _ _ h => h) ?_ (by assumption) ?_
      rotate_left
      · first | (refine Or.inl ⟨by rfl, ?_⟩; intro w hSw; have z0 := cell_bl hSw b0; have z1 := cell_bl hSw b1; have z2 := cell_bl hSw b2; have z3 := cell_bl hSw b3; have z4 := cell_bl hSw b4; have z5 := cell_bl hSw b5; have z6 := cell_bl hSw b6; have z7 := cell_bl hSw b7; have z8 := cell_bl hSw b8; go_simp; (try (with_reducible rfl)); done) | (refine Or.inr ⟨by rfl, ?_⟩; with_reducible rfl)
      try simp only [Act.put, List.setIfInBounds_toArray, List.set_cons_zero, List.set_cons_succ]
      refine wpAnyH_take (i := 16) (oi := { dst := some 26, op := Go.Op.binOp Go.BinOp.quo 3 (Go.Operand.tmp 25) (Go.Operand.const (Go.Value.int Go.IntKind.i64 2)) 3, type := 3, pos := _, after := _, guard := some (3, false) }) (v := ?_) rfl (by kernel_rfl) (by kernel_rfl) (by kernel_rfl) (fun _ _ _ h => h) ?_ (by assumption) ?_
      rotate_left
      · first | (refine Or.inl ⟨by rfl, ?_⟩; intro w hSw; have z0 := cell_bl hSw b0; have z1 := cell_bl hSw b1; have z2 := cell_bl hSw b2; have z3 := cell_bl hSw b3; have z4 := cell_bl hSw b4; have z5 := cell_bl hSw b5; have z6 := cell_bl hSw b6; have z7 := cell_bl hSw b7; have z8 := cell_bl hSw b8; go_simp; (try (with_reducible rfl)); done) | (refine Or.inr ⟨by rfl, ?_⟩; with_reducible rfl)
      try simp only [Act.put, List.setIfInBounds_toArray, List.set_cons_zero, List.set_cons_succ]
      refine wpAnyH_ready (rs := [5]) (by kernel_rfl) (by simp) ?_
      refine AllReadyH.cons (o := { dst := some 15, op := Go.Op.call { callee := Go.Callee.value (Go.Operand.func 14), args := #[Go.Operand.tmp 14], argTypes := #[32] }, type := 3, pos := _, after := _, guard := some (3, false) }) rfl (fun K hK => ?_) AllReadyH.nil
      go_simp
      refine (HOTH.out _ (Bl.then HB0.out HB0.out.size hB02)).mono ?_
      rintro e w3 ⟨he, hB3⟩
      rw [← HO.out] at he
      subst he
      have hB03 := Bl.then hB02 hB02.size hB3
      simp only []
      refine hK.out _ _ ?_ (fun hHeld => ?_)
      · exact hB03
      clear hK K
      try simp only [Act.put, List.setIfInBounds_toArray, List.set_cons_zero, List.set_cons_succ]
      refine wpAnyH_take (i := 17) (oi := { dst := some 27, op := Go.Op.binOp Go.BinOp.gtr 3 (Go.Operand.tmp 15) (Go.Operand.tmp 26) 3, type := 4, pos := _, after := _, guard := some (3, false) }) (v := ?_) rfl (by kernel_rfl) (by kernel_rfl) (by kernel_rfl) (fun _ _ _ h => h) ?_ (by assumption) ?_
      rotate_left
      · first | (refine Or.inl ⟨by rfl, ?_⟩; intro w hSw; have z0 := cell_bl hSw b0; have z1 := cell_bl hSw b1; have z2 := cell_bl hSw b2; have z3 := cell_bl hSw b3; have z4 := cell_bl hSw b4; have z5 := cell_bl hSw b5; have z6 := cell_bl hSw b6; have z7 := cell_bl hSw b7; have z8 := cell_bl hSw b8; go_simp; (try (with_reducible rfl)); done) | (refine Or.inr ⟨by rfl, ?_⟩; with_reducible rfl)
      try simp only [Act.put, List.setIfInBounds_toArray, List.set_cons_zero, List.set_cons_succ]
      refine wpAnyH_take (i := 18) (oi := { dst := some 28, op := Go.Op.pick (Go.Operand.tmp 13) (Go.Operand.const (Go.Value.bool true)) (Go.Operand.tmp 27), type := 4, pos := _, after := _, guard := none }) (v := ?_) rfl (by kernel_rfl) (by kernel_rfl) (by kernel_rfl) (fun _ _ _ h => h) ?_ (by assumption) ?_
      rotate_left
      · first | (refine Or.inl ⟨by rfl, ?_⟩; intro w hSw; have z0 := cell_bl hSw b0; have z1 := cell_bl hSw b1; have z2 := cell_bl hSw b2; have z3 := cell_bl hSw b3; have z4 := cell_bl hSw b4; have z5 := cell_bl hSw b5; have z6 := cell_bl hSw b6; have z7 := cell_bl hSw b7; have z8 := cell_bl hSw b8; go_simp; (try (with_reducible rfl)); done) | (refine Or.inr ⟨by rfl, ?_⟩; with_reducible rfl)
      try simp only [Act.put, List.setIfInBounds_toArray, List.set_cons_zero, List.set_cons_succ]
      refine wpAnyH_done (by kernel_rfl) ?_ _
      have HB03 := hide hB03
      have b0 := cell_bl hB03 b0
      have b1 := cell_bl hB03 b1
      have b2 := cell_bl hB03 b2
      have b3 := cell_bl hB03 b3
      have b4 := cell_bl hB03 b4
      have b5 := cell_bl hB03 b5
      have b6 := cell_bl hB03 b6
      have b7 := cell_bl hB03 b7
      have b8 := cell_bl hB03 b8
      clear hB03 hB3 hB02 hB2
      go_wp2_with fail
      refine (HN.out w3 (Bl.then HB0.out HB0.out.size HB03.out)).mono ?_
      rintro e w4 ⟨hB4, hcase⟩
      rcases hcase with ⟨hno, _⟩ | ⟨_, nb, vb, vtp, rb, B0, rfl, hN, _, hnb, hvb, hB0, hB0'⟩
      · exact absurd HFF.out.ok hno
      have c0 := cell_bl hB4 b0
      have c1 := cell_bl hB4 b1
      have c2 := cell_bl hB4 b2
      have c3 := cell_bl hB4 b3
      have c4 := cell_bl hB4 b4
      have c5 := cell_bl hB4 b5
      have c6 := cell_bl hB4 b6
      have c7 := cell_bl hB4 b7
      have c8 := cell_bl hB4 b8
      have HB4 := hide hB4; have HNR := hide hN
      clear hB4 hN
      go_upto_region 7 with fail
      obtain ⟨bb, hbb⟩ : ∃ bb, bb = w4.heap.size := ⟨_, rfl⟩
      obtain ⟨W5, hW5⟩ : ∃ W5, W5 = w4.alloc (.cells #[.int .u64 p, .int .i64 N, .int .i64 T, .slice Ac corrupt.length cc, .slice Ad devs.length cd, .slice At tapes.length ct, .int .u8 wh, .slice Al DL cl, .slice As spoil.length cs] 32) := ⟨_, rfl⟩
      have hx5 : W5.heap[bb]? = some (.cells #[.int .u64 p, .int .i64 N, .int .i64 T, .slice Ac corrupt.length cc, .slice Ad devs.length cd, .slice At tapes.length ct, .int .u8 wh, .slice Al DL cl, .slice As spoil.length cs] 32 (0, 0)) := by rw [hW5, hbb]; exact heap_alloc_new w4 _
      have hB45 : Bl w4 W5 := by rw [hW5]; exact (Below.refl _ _).alloc (Nat.le_refl _) _
      rw [← hW5, ← hbb]
      have d8 : W5.cell? ⟨bb, 8, none⟩ = some (.slice As spoil.length cs) := by simp [World.cell?, hx5]
      have fr8 : W5.frozen? ⟨bb, 8, none⟩ = false := by simp [World.frozen?, hx5]
      have HX5 := hide hx5; have HB45 := hide hB45; have HBBE := hide hbb
      clear hx5 hB45 hbb hW5
      go_upto_region 8 with fail
      obtain ⟨W6, hW6⟩ : ∃ W6, W6 = W5.setCell ⟨bb, 8, none⟩ (.slice none 0 0) := ⟨_, rfl⟩
      rw [← hW6]
      have hx6 : W6.heap[bb]? = some (.cells #[.int .u64 p, .int .i64 N, .int .i64 T, .slice Ac corrupt.length cc, .slice Ad devs.length cd, .slice At tapes.length ct, .int .u8 wh, .slice Al DL cl, .slice none 0 0] 32 (0, 0)) := by rw [hW6]; simp [World.setCell, Array.getElem?_modify, HX5.out]
      have hB46 : Bl w4 W6 := by rw [hW6]; exact HB45.out.setCell (by rw [HBBE.out]; exact Nat.le_refl _) _
      clear d8 fr8 hW6
      have d0 : W6.cell? ⟨bb, 0, none⟩ = some (.int .u64 p) := by simp [World.cell?, hx6]
      have d1 : W6.cell? ⟨bb, 1, none⟩ = some (.int .i64 N) := by simp [World.cell?, hx6]
      have d2 : W6.cell? ⟨bb, 2, none⟩ = some (.int .i64 T) := by simp [World.cell?, hx6]
      have d3 : W6.cell? ⟨bb, 3, none⟩ = some (.slice Ac corrupt.length cc) := by simp [World.cell?, hx6]
      have d4 : W6.cell? ⟨bb, 4, none⟩ = some (.slice Ad devs.length cd) := by simp [World.cell?, hx6]
      have d5 : W6.cell? ⟨bb, 5, none⟩ = some (.slice At tapes.length ct) := by simp [World.cell?, hx6]
      have d6 : W6.cell? ⟨bb, 6, none⟩ = some (.int .u8 wh) := by simp [World.cell?, hx6]
      have d7 : W6.cell? ⟨bb, 7, none⟩ = some (.slice Al DL cl) := by simp [World.cell?, hx6]
      have d8 : W6.cell? ⟨bb, 8, none⟩ = some (.slice none 0 0) := by simp [World.cell?, hx6]
      have HB46 := hide hB46; clear hx6 hB46
      have hBw4 := Bl.then (Bl.then HB0.out HB0.out.size HB03.out) (Bl.then HB0.out HB0.out.size HB03.out).size HB4.out
      have HBW4 := hide hBw4; clear hBw4
      go_wp2_with fail
      refine (HNUX.out W6 (Bl.then HBW4.out HBW4.out.size HB46.out)).mono ?_
      rintro e w7 ⟨hB7, vx, rfl, hrx⟩
      obtain ⟨Ax, cx, hvx, _, _⟩ := kS_len hrx
      rw [HNLX.out] at hvx
      subst hvx
      have hB47 := Bl.then HB46.out HB46.out.size hB7
      have hB37 := Bl.then HB4.out HB4.out.size hB47
      have HRX := hide hrx; have HB47 := hide hB47; have HB37 := hide hB37
      have h46 := HB46.out.size
      clear hrx hB7 hB47 hB37 c0 c1 c2 c3 c4 c5 c6 c7 c8 d0 d1 d2 d3 d4 d5 d6 d7 d8
      go_wp2_with fail
      refine wp_region_held_drew (S := fun w' => Bl w3 w') (by kernel_rfl) (Bl.dr HB37.out (Dr.one (Dr.refl w7))) (fun hHeld => ?_)
      refine wpAnyH_take (i := 0) (oi := { dst := some 43, op := Go.Op.move (Go.Operand.tmp 3), type := 36, pos := _, after := _, guard := none }) (v := ?_) rfl (by kernel_rfl) (by kernel_rfl) (by kernel_rfl) (fun _ _ _ h => h) ?_ (by assumption) ?_
      rotate_left
      · first | (refine Or.inl ⟨by rfl, ?_⟩; intro w hSw; have z0 := cell_bl hSw b0; have z1 := cell_bl hSw b1; have z2 := cell_bl hSw b2; have z3 := cell_bl hSw b3; have z4 := cell_bl hSw b4; have z5 := cell_bl hSw b5; have z6 := cell_bl hSw b6; have z7 := cell_bl hSw b7; have z8 := cell_bl hSw b8; go_simp; (try (with_reducible rfl)); done) | (refine Or.inr ⟨by rfl, ?_⟩; with_reducible rfl)
      try simp only [Act.put, List.setIfInBounds_toArray, List.set_cons_zero, List.set_cons_succ]
      refine wpAnyH_take (i := 1) (oi := { dst := some 44, op := Go.Op.load 32 (Go.Operand.tmp 1), type := 32, pos := _, after := _, guard := none }) (v := ?_) rfl (by kernel_rfl) (by kernel_rfl) (by kernel_rfl) (fun _ _ _ h => h) ?_ (by assumption) ?_
      rotate_left
      · first | (refine Or.inl ⟨by rfl, ?_⟩; intro w hSw; have z0 := cell_bl hSw b0; have z1 := cell_bl hSw b1; have z2 := cell_bl hSw b2; have z3 := cell_bl hSw b3; have z4 := cell_bl hSw b4; have z5 := cell_bl hSw b5; have z6 := cell_bl hSw b6; have z7 := cell_bl hSw b7; have z8 := cell_bl hSw b8; go_simp; (try (with_reducible rfl)); done) | (refine Or.inr ⟨by rfl, ?_⟩; with_reducible rfl)
      try simp only [Act.put, List.setIfInBounds_toArray, List.set_cons_zero, List.set_cons_succ]
      refine wpAnyH_take (i := 3) (oi := { dst := some 46, op := Go.Op.load 32 (Go.Operand.tmp 1), type := 32, pos := _, after := _, guard := none }) (v := ?_) rfl (by kernel_rfl) (by kernel_rfl) (by kernel_rfl) (fun _ _ _ h => h) ?_ (by assumption) ?_
      rotate_left
      · first | (refine Or.inl ⟨by rfl, ?_⟩; intro w hSw; have z0 := cell_bl hSw b0; have z1 := cell_bl hSw b1; have z2 := cell_bl hSw b2; have z3 := cell_bl hSw b3; have z4 := cell_bl hSw b4; have z5 := cell_bl hSw b5; have z6 := cell_bl hSw b6; have z7 := cell_bl hSw b7; have z8 := cell_bl hSw b8; go_simp; (try (with_reducible rfl)); done) | (refine Or.inr ⟨by rfl, ?_⟩; with_reducible rfl)
      try simp only [Act.put, List.setIfInBounds_toArray, List.set_cons_zero, List.set_cons_succ]
      refine wpAnyH_ready (rs := [2]) (by kernel_rfl) (by simp) ?_
      refine AllReadyH.cons (o := { dst := some 45, op := Go.Op.call { callee := Go.Callee.value (Go.Operand.func 19), args := #[Go.Operand.tmp 44], argTypes := #[32] }, type := 3, pos := _, after := _, guard := none }) rfl (fun K hK => ?_) AllReadyH.nil
      go_simp
      refine (HWHO.out _).mono ?_
      rintro e w8 ⟨rfl, hB8⟩
      have hB78 : Bl w7 w8 := (Bl.dr (Below.refl _ _) (Dr.one (Dr.refl _))).trans hB8
      have hB38 := Bl.then HB37.out HB37.out.size hB78
      simp only []
      refine hK.out _ _ ?_ (fun hHeld => ?_)
      · exact hB38
      clear hK K
      try simp only [Act.put, List.setIfInBounds_toArray, List.set_cons_zero, List.set_cons_succ]
      refine wpAnyH_ready (rs := [4]) (by kernel_rfl) (by simp) ?_
      refine AllReadyH.cons (o := { dst := some 47, op := Go.Op.call { callee := Go.Callee.value (Go.Operand.func 17), args := #[Go.Operand.tmp 46], argTypes := #[32] }, type := 40, pos := _, after := _, guard := none }) rfl (fun K hK => ?_) AllReadyH.nil
      go_simp
      refine (HNUM.out _ (Bl.then (Bl.then HB0.out HB0.out.size HB03.out) (Bl.then HB0.out HB0.out.size HB03.out).size hB38)).mono ?_
      rintro e w9 ⟨hB9, v9, rfl, hr9⟩
      obtain ⟨A9, c9, hv9, _, _⟩ := kS_len hr9
      rw [HNL.out] at hv9
      subst hv9
      have hB79 := Bl.then hB78 hB78.size hB9
      have hB39 := Bl.then HB37.out HB37.out.size hB79
      have hB49 := Bl.then HB47.out HB47.out.size hB79
      have h49 := hB49.size
      have h48 := Nat.le_trans HB47.out.size hB78.size
      have hrec := recover_any w9 B0 (fun b => b = nb ∨ b = vb) nb ⟨p, N, T, corrupt, devs⟩ _ _ _ 0 q DL (fun _ => []) _ _ (HNR.out.bl hB49) (Nat.le_trans hB0' h49) (fun b hb => by
        rcases hb with rfl | rfl <;> omega) HFF.out.hp HFF.out.n4 HFF.out.n13 HFF.out.np HFF.out.t1 HFF.out.t3 HFF.out.dv hr9 (fun b hb hF => by
        rcases hF with rfl | rfl <;> omega) HNL.out (by omega) HNOK.out hq1 hqN (by omega) (fun j => by simp)
      simp only []
      refine hK.out _ _ ?_ (fun hHeld => ?_)
      · exact hB39
      clear hK K
      try simp only [Act.put, List.setIfInBounds_toArray, List.set_cons_zero, List.set_cons_succ]
      refine wpAnyH_ready (rs := [5]) (by kernel_rfl) (by simp) ?_
      refine AllReadyH.cons (o := { dst := some 48, op := Go.Op.call { callee := Go.Callee.value (Go.Operand.func 18), args := #[Go.Operand.tmp 43, Go.Operand.tmp 45, Go.Operand.tmp 47], argTypes := #[36, 3, 40] }, type := 27, pos := _, after := _, guard := none }) rfl (fun K hK => ?_) AllReadyH.nil
      go_simp
      refine hrec.mono ?_
      rintro e w10 ⟨hF10, F', v10, rfl, hF', hN10, hr10⟩
      obtain ⟨A10, c10, hv10, _, _⟩ := kS_len hr10
      rw [List.length_map, List.length_range] at hv10
      subst hv10
      have hB310 : Bl w3 w10 := hB39.trans (hF10.below hB39.size fun b hb hF => by
        have h1 := HNR.out.base b hF; omega)
      simp only []
      refine hK.out _ _ ?_ (fun hHeld => ?_)
      · exact hB310
      clear hK K
      try simp only [Act.put, List.setIfInBounds_toArray, List.set_cons_zero, List.set_cons_succ]
      refine wpAnyH_take (i := 6) (oi := { dst := some 8, op := Go.Op.assign (Go.Operand.tmp 48), type := 27, pos := _, after := _, guard := none }) (v := ?_) rfl (by kernel_rfl) (by kernel_rfl) (by kernel_rfl) (fun _ _ _ h => h) ?_ (by assumption) ?_
      rotate_left
      · first | (refine Or.inl ⟨by rfl, ?_⟩; intro w hSw; have z0 := cell_bl hSw b0; have z1 := cell_bl hSw b1; have z2 := cell_bl hSw b2; have z3 := cell_bl hSw b3; have z4 := cell_bl hSw b4; have z5 := cell_bl hSw b5; have z6 := cell_bl hSw b6; have z7 := cell_bl hSw b7; have z8 := cell_bl hSw b8; go_simp; (try (with_reducible rfl)); done) | (refine Or.inr ⟨by rfl, ?_⟩; with_reducible rfl)
      try simp only [Act.put, List.setIfInBounds_toArray, List.set_cons_zero, List.set_cons_succ]
      refine wpAnyH_done (by kernel_rfl) ?_ _
      have hrx10 : (kS (kS (kS kU))).R w10 (fun b => W6.heap.size ≤ b) [.slice Ax DL cx] (numL p N T corrupt [] L) := (kS (kS (kS kU))).kp HRX.out fun b hb hs => by
        rw [hF10.block b (Nat.lt_of_lt_of_le hb hB79.size) (fun hF => by rcases hF with rfl | rfl <;> omega), hB79.block b hb]
      have hr10 : (kS (kS kU)).R w10 (fun b => ¬ F' b ∧ w9.heap.size ≤ b) [.slice A10 DL c10] ((List.range DL).map (recRow p N T q DL (rcHeard p corrupt devs q DL (rw2 (numL p N T corrupt spoil L))))) := hr10
      have HRX10 := hide hrx10; have HB310 := hide hB310; have HR10 := hide hr10
      clear hrx10 hB310 hr10 hN10 hF' hF10 hrec hr9 hB9 hB8 hB78 hB38 hB79 hB39 hB49 h49 h48 h46 HRX
      obtain ⟨q1, hq1e⟩ : ∃ q1, q1 = q - 1 := ⟨_, rfl⟩
      have hqi : (q : Int) - 1 = (q1 : Int) := by omega
      have hqw : IntKind.i64.wrap (q1 : Int) = (q1 : Int) := by rw [IntWalk.i64_in _ (by omega)]
      have hq1N : q1 < N := by omega
      have hq1i : (q1 : Int) < (N : Int) := by omega
      have hq10 : (0 : Int) ≤ (q1 : Int) := by omega
      have hnr : ∀ k, numRow p T corrupt [] L k q1 = rowB p (T + 1) (nsM p T (secK L k) (wrdK L k)) q := fun k => by
        unfold numRow
        rw [if_neg (fun h => by have := h.2; simp at this), show q1 + 1 = q by omega]
      have hrow : ∀ k, k < DL → recRow p N T q DL (rcHeard p corrupt devs q DL (rw2 (numL p N T corrupt spoil L))) k = rowB p (T + 1) (nsM p T (secK L k) (wrdK L k)) q := fun k hk => HRR.out (by rw [← HBD.out]; exact HOB.out) k hk
      have HNRW := hide hnr; have HROW := hide hrow
      clear hnr hrow hq1e
      go_wp2_with fail
      go_loopw [9] (fun ix wr => ∃ k : Nat, k ≤ DL ∧ ix = .int .i64 k ∧ Bl w10 wr) (fun ix _ => DL - (intOf ix).toNat)
      case atStart => exact ⟨0, by omega, rfl, Below.refl _ _⟩
      case round =>
        obtain ⟨k, hk, rfl, hBk⟩ := hrel
        have hB3k := Bl.then HB310.out HB310.out.size hBk
        by_cases hkD : k < DL
        · as_aux_lemma =>
          have hki : (k : Int) < (DL : Int) := by omega
          have hk0 : (0 : Int) ≤ (k : Int) := by omega
          obtain ⟨A', c', e', _, hel⟩ := rd_open rfl HR10.out
          obtain ⟨ad, u, hA, _, hu, hcu⟩ := hel k _ (by rw [List.getElem?_map, List.getElem?_range hkD]; rfl)
          injection e' with e'1 e'2 e'3
          subst e'1
          subst hA
          rw [HROW.out k hkD] at hu
          obtain ⟨Ax', cx', e'', _, helx⟩ := rd_open rfl HRX10.out
          obtain ⟨adx, ux, hAx, _, hux, hcux⟩ := helx k (numSh p N T corrupt [] L k) (by unfold numL; rw [List.getElem?_map, List.getElem?_range (by rw [← HDL.out]; exact hkD)]; rfl)
          injection e'' with e''1 e''2 e''3
          subst e''1
          subst hAx
          obtain ⟨Ay, cy, rfl, ⟨hy1, hy2⟩, hely⟩ := rd_open rfl hux
          obtain ⟨ady, uy, rfl, _, huy, hcuy⟩ := hely q1 (numRow p T corrupt [] L k q1) (by unfold numSh; rw [List.getElem?_map, List.getElem?_range hq1N]; rfl)
          rw [HNRW.out k] at huy
          have hsl : (numSh p N T corrupt [] L k).length = N := by unfold numSh; rw [List.length_map, List.length_range]
          rw [hsl] at hcux hy1
          obtain ⟨Au, cu, hvu, _, _⟩ := kS_len hu
          obtain ⟨Av, cv, hvv, _, _⟩ := kS_len huy
          rw [rowB_len] at hvu hvv
          subst hvu; subst hvv
          have f1 := cell_bl hBk hcu
          have f2 := cell_bl hBk hcux
          have f3 := cell_bl hBk hcuy
          have g0 := cell_bl hB3k b0
          have g1 := cell_bl hB3k b1
          have g2 := cell_bl hB3k b2
          have g3 := cell_bl hB3k b3
          have g4 := cell_bl hB3k b4
          have g5 := cell_bl hB3k b5
          have g6 := cell_bl hB3k b6
          have g7 := cell_bl hB3k b7
          have g8 := cell_bl hB3k b8
          have hwd := fun W2 (h : Bl w10 W2) => (words_any _ _ _ _ _ _ W2 ((kS kU).bl ((kS kU).low hu) h) ((kS kU).bl ((kS kU).low huy) h)).mono (R' := fun e w' => e = .returned (.bool true) ∧ Dr W2 w') fun e w' h => ⟨by rw [h.1, decide_eq_true rfl], h.2⟩
          have HWD := hide hwd; have HBK := hide hBk
          clear hwd hBk hB3k b0 b1 b2 b3 b4 b5 b6 b7 b8 hu huy hux hel helx hely hcu hcux hcuy hsl e'2 e'3 e''2 e''3
          go_wp2_with fail
          refine wp_region_held_drew (S := fun w' => Bl wr w') (by kernel_rfl) ((Dr.one (Dr.refl wr)).below _) (fun hHeld => ?_)
          refine wpAnyH_take (i := 0) (oi := { dst := some 60, op := Go.Op.move (Go.Operand.tmp 8), type := 27, pos := _, after := _, guard := none }) (v := ?_) rfl (by kernel_rfl) (by kernel_rfl) (by kernel_rfl) (fun _ _ _ h => h) ?_ (by assumption) ?_
          rotate_left
          · first | (refine Or.inl ⟨by rfl, ?_⟩; intro w hSw; have z0 := cell_bl hSw f1; have z1 := cell_bl hSw f2; have z2 := cell_bl hSw f3; have z3 := cell_bl hSw g0; have z4 := cell_bl hSw g1; have z5 := cell_bl hSw g2; have z6 := cell_bl hSw g3; have z7 := cell_bl hSw g4; have z8 := cell_bl hSw g5; have z9 := cell_bl hSw g6; have z10 := cell_bl hSw g7; have z11 := cell_bl hSw g8; go_simp; (try (with_reducible rfl)); done) | (refine Or.inr ⟨by rfl, ?_⟩; with_reducible rfl)
          try simp only [Act.put, List.setIfInBounds_toArray, List.set_cons_zero, List.set_cons_succ]
          refine wpAnyH_take (i := 1) (oi := { dst := some 61, op := Go.Op.move (Go.Operand.tmp 9), type := 3, pos := _, after := _, guard := none }) (v := ?_) rfl (by kernel_rfl) (by kernel_rfl) (by kernel_rfl) (fun _ _ _ h => h) ?_ (by assumption) ?_
          rotate_left
          · first | (refine Or.inl ⟨by rfl, ?_⟩; intro w hSw; have z0 := cell_bl hSw f1; have z1 := cell_bl hSw f2; have z2 := cell_bl hSw f3; have z3 := cell_bl hSw g0; have z4 := cell_bl hSw g1; have z5 := cell_bl hSw g2; have z6 := cell_bl hSw g3; have z7 := cell_bl hSw g4; have z8 := cell_bl hSw g5; have z9 := cell_bl hSw g6; have z10 := cell_bl hSw g7; have z11 := cell_bl hSw g8; go_simp; (try (with_reducible rfl)); done) | (refine Or.inr ⟨by rfl, ?_⟩; with_reducible rfl)
          try simp only [Act.put, List.setIfInBounds_toArray, List.set_cons_zero, List.set_cons_succ]
          refine wpAnyH_take (i := 2) (oi := { dst := some 62, op := Go.Op.indexAddr 27 (Go.Operand.tmp 60) (Go.Operand.tmp 61), type := 0, pos := _, after := _, guard := none }) (v := ?_) rfl (by kernel_rfl) (by kernel_rfl) (by kernel_rfl) (fun _ _ _ h => h) ?_ (by assumption) ?_
          rotate_left
          · first | (refine Or.inl ⟨by rfl, ?_⟩; intro w hSw; have z0 := cell_bl hSw f1; have z1 := cell_bl hSw f2; have z2 := cell_bl hSw f3; have z3 := cell_bl hSw g0; have z4 := cell_bl hSw g1; have z5 := cell_bl hSw g2; have z6 := cell_bl hSw g3; have z7 := cell_bl hSw g4; have z8 := cell_bl hSw g5; have z9 := cell_bl hSw g6; have z10 := cell_bl hSw g7; have z11 := cell_bl hSw g8; go_simp; (try (with_reducible rfl)); done) | (refine Or.inr ⟨by rfl, ?_⟩; with_reducible rfl)
          try simp only [Act.put, List.setIfInBounds_toArray, List.set_cons_zero, List.set_cons_succ]
          refine wpAnyH_take (i := 3) (oi := { dst := some 63, op := Go.Op.load 30 (Go.Operand.tmp 62), type := 30, pos := _, after := _, guard := none }) (v := ?_) rfl (by kernel_rfl) (by kernel_rfl) (by kernel_rfl) (fun _ _ _ h => h) ?_ (by assumption) ?_
          rotate_left
          · first | (refine Or.inl ⟨by rfl, ?_⟩; intro w hSw; have z0 := cell_bl hSw f1; have z1 := cell_bl hSw f2; have z2 := cell_bl hSw f3; have z3 := cell_bl hSw g0; have z4 := cell_bl hSw g1; have z5 := cell_bl hSw g2; have z6 := cell_bl hSw g3; have z7 := cell_bl hSw g4; have z8 := cell_bl hSw g5; have z9 := cell_bl hSw g6; have z10 := cell_bl hSw g7; have z11 := cell_bl hSw g8; go_simp; (try (with_reducible rfl)); done) | (refine Or.inr ⟨by rfl, ?_⟩; with_reducible rfl)
          try simp only [Act.put, List.setIfInBounds_toArray, List.set_cons_zero, List.set_cons_succ]
          refine wpAnyH_take (i := 4) (oi := { dst := some 64, op := Go.Op.move (Go.Operand.tmp 7), type := 40, pos := _, after := _, guard := none }) (v := ?_) rfl (by kernel_rfl) (by kernel_rfl) (by kernel_rfl) (fun _ _ _ h => h) ?_ (by assumption) ?_
          rotate_left
          · first | (refine Or.inl ⟨by rfl, ?_⟩; intro w hSw; have z0 := cell_bl hSw f1; have z1 := cell_bl hSw f2; have z2 := cell_bl hSw f3; have z3 := cell_bl hSw g0; have z4 := cell_bl hSw g1; have z5 := cell_bl hSw g2; have z6 := cell_bl hSw g3; have z7 := cell_bl hSw g4; have z8 := cell_bl hSw g5; have z9 := cell_bl hSw g6; have z10 := cell_bl hSw g7; have z11 := cell_bl hSw g8; go_simp; (try (with_reducible rfl)); done) | (refine Or.inr ⟨by rfl, ?_⟩; with_reducible rfl)
          try simp only [Act.put, List.setIfInBounds_toArray, List.set_cons_zero, List.set_cons_succ]
          refine wpAnyH_take (i := 5) (oi := { dst := some 65, op := Go.Op.move (Go.Operand.tmp 9), type := 3, pos := _, after := _, guard := none }) (v := ?_) rfl (by kernel_rfl) (by kernel_rfl) (by kernel_rfl) (fun _ _ _ h => h) ?_ (by assumption) ?_
          rotate_left
          · first | (refine Or.inl ⟨by rfl, ?_⟩; intro w hSw; have z0 := cell_bl hSw f1; have z1 := cell_bl hSw f2; have z2 := cell_bl hSw f3; have z3 := cell_bl hSw g0; have z4 := cell_bl hSw g1; have z5 := cell_bl hSw g2; have z6 := cell_bl hSw g3; have z7 := cell_bl hSw g4; have z8 := cell_bl hSw g5; have z9 := cell_bl hSw g6; have z10 := cell_bl hSw g7; have z11 := cell_bl hSw g8; go_simp; (try (with_reducible rfl)); done) | (refine Or.inr ⟨by rfl, ?_⟩; with_reducible rfl)
          try simp only [Act.put, List.setIfInBounds_toArray, List.set_cons_zero, List.set_cons_succ]
          refine wpAnyH_take (i := 6) (oi := { dst := some 66, op := Go.Op.indexAddr 40 (Go.Operand.tmp 64) (Go.Operand.tmp 65), type := 0, pos := _, after := _, guard := none }) (v := ?_) rfl (by kernel_rfl) (by kernel_rfl) (by kernel_rfl) (fun _ _ _ h => h) ?_ (by assumption) ?_
          rotate_left
          · first | (refine Or.inl ⟨by rfl, ?_⟩; intro w hSw; have z0 := cell_bl hSw f1; have z1 := cell_bl hSw f2; have z2 := cell_bl hSw f3; have z3 := cell_bl hSw g0; have z4 := cell_bl hSw g1; have z5 := cell_bl hSw g2; have z6 := cell_bl hSw g3; have z7 := cell_bl hSw g4; have z8 := cell_bl hSw g5; have z9 := cell_bl hSw g6; have z10 := cell_bl hSw g7; have z11 := cell_bl hSw g8; go_simp; (try (with_reducible rfl)); done) | (refine Or.inr ⟨by rfl, ?_⟩; with_reducible rfl)
          try simp only [Act.put, List.setIfInBounds_toArray, List.set_cons_zero, List.set_cons_succ]
          refine wpAnyH_take (i := 7) (oi := { dst := some 67, op := Go.Op.load 44 (Go.Operand.tmp 66), type := 44, pos := _, after := _, guard := none }) (v := ?_) rfl (by kernel_rfl) (by kernel_rfl) (by kernel_rfl) (fun _ _ _ h => h) ?_ (by assumption) ?_
          rotate_left
          · first | (refine Or.inl ⟨by rfl, ?_⟩; intro w hSw; have z0 := cell_bl hSw f1; have z1 := cell_bl hSw f2; have z2 := cell_bl hSw f3; have z3 := cell_bl hSw g0; have z4 := cell_bl hSw g1; have z5 := cell_bl hSw g2; have z6 := cell_bl hSw g3; have z7 := cell_bl hSw g4; have z8 := cell_bl hSw g5; have z9 := cell_bl hSw g6; have z10 := cell_bl hSw g7; have z11 := cell_bl hSw g8; go_simp; (try (with_reducible rfl)); done) | (refine Or.inr ⟨by rfl, ?_⟩; with_reducible rfl)
          try simp only [Act.put, List.setIfInBounds_toArray, List.set_cons_zero, List.set_cons_succ]
          refine wpAnyH_take (i := 8) (oi := { dst := some 68, op := Go.Op.load 32 (Go.Operand.tmp 1), type := 32, pos := _, after := _, guard := none }) (v := ?_) rfl (by kernel_rfl) (by kernel_rfl) (by kernel_rfl) (fun _ _ _ h => h) ?_ (by assumption) ?_
          rotate_left
          · first | (refine Or.inl ⟨by rfl, ?_⟩; intro w hSw; have z0 := cell_bl hSw f1; have z1 := cell_bl hSw f2; have z2 := cell_bl hSw f3; have z3 := cell_bl hSw g0; have z4 := cell_bl hSw g1; have z5 := cell_bl hSw g2; have z6 := cell_bl hSw g3; have z7 := cell_bl hSw g4; have z8 := cell_bl hSw g5; have z9 := cell_bl hSw g6; have z10 := cell_bl hSw g7; have z11 := cell_bl hSw g8; go_simp; (try (with_reducible rfl)); done) | (refine Or.inr ⟨by rfl, ?_⟩; with_reducible rfl)
          try simp only [Act.put, List.setIfInBounds_toArray, List.set_cons_zero, List.set_cons_succ]
          refine wpAnyH_ready (rs := [9]) (by kernel_rfl) (by simp) ?_
          refine AllReadyH.cons (o := { dst := some 69, op := Go.Op.call { callee := Go.Callee.value (Go.Operand.func 19), args := #[Go.Operand.tmp 68], argTypes := #[32] }, type := 3, pos := _, after := _, guard := none }) rfl (fun K hK => ?_) AllReadyH.nil
          go_simp
          refine (HWHO.out _).mono ?_
          rintro e w11 ⟨rfl, hB11⟩
          have hBr11 : Bl wr w11 := (Bl.dr (Below.refl _ _) (Dr.one (Dr.refl _))).trans hB11
          simp only []
          refine hK.out _ _ ?_ (fun hHeld => ?_)
          · exact hBr11
          clear hK K
          try simp only [Act.put, List.setIfInBounds_toArray, List.set_cons_zero, List.set_cons_succ]
          refine wpAnyH_take (i := 10) (oi := { dst := some 70, op := Go.Op.binOp Go.BinOp.sub 3 (Go.Operand.tmp 69) (Go.Operand.const (Go.Value.int Go.IntKind.i64 1)) 3, type := 3, pos := _, after := _, guard := none }) (v := ?_) rfl (by kernel_rfl) (by kernel_rfl) (by kernel_rfl) (fun _ _ _ h => h) ?_ (by assumption) ?_
          rotate_left
          · first | (refine Or.inl ⟨by rfl, ?_⟩; intro w hSw; have z0 := cell_bl hSw f1; have z1 := cell_bl hSw f2; have z2 := cell_bl hSw f3; have z3 := cell_bl hSw g0; have z4 := cell_bl hSw g1; have z5 := cell_bl hSw g2; have z6 := cell_bl hSw g3; have z7 := cell_bl hSw g4; have z8 := cell_bl hSw g5; have z9 := cell_bl hSw g6; have z10 := cell_bl hSw g7; have z11 := cell_bl hSw g8; go_simp; (try (with_reducible rfl)); done) | (refine Or.inr ⟨by rfl, ?_⟩; with_reducible rfl)
          try simp only [Act.put, List.setIfInBounds_toArray, List.set_cons_zero, List.set_cons_succ]
          refine wpAnyH_take (i := 11) (oi := { dst := some 71, op := Go.Op.indexAddr 44 (Go.Operand.tmp 67) (Go.Operand.tmp 70), type := 0, pos := _, after := _, guard := none }) (v := ?_) rfl (by kernel_rfl) (by kernel_rfl) (by kernel_rfl) (fun _ _ _ h => h) ?_ (by assumption) ?_
          rotate_left
          · first | (refine Or.inl ⟨by rfl, ?_⟩; intro w hSw; have z0 := cell_bl hSw f1; have z1 := cell_bl hSw f2; have z2 := cell_bl hSw f3; have z3 := cell_bl hSw g0; have z4 := cell_bl hSw g1; have z5 := cell_bl hSw g2; have z6 := cell_bl hSw g3; have z7 := cell_bl hSw g4; have z8 := cell_bl hSw g5; have z9 := cell_bl hSw g6; have z10 := cell_bl hSw g7; have z11 := cell_bl hSw g8; go_simp; (try (with_reducible rfl)); done) | (refine Or.inr ⟨by rfl, ?_⟩; with_reducible rfl)
          try simp only [Act.put, List.setIfInBounds_toArray, List.set_cons_zero, List.set_cons_succ]
          refine wpAnyH_take (i := 12) (oi := { dst := some 72, op := Go.Op.load 30 (Go.Operand.tmp 71), type := 30, pos := _, after := _, guard := none }) (v := ?_) rfl (by kernel_rfl) (by kernel_rfl) (by kernel_rfl) (fun _ _ _ h => h) ?_ (by assumption) ?_
          rotate_left
          · first | (refine Or.inl ⟨by rfl, ?_⟩; intro w hSw; have z0 := cell_bl hSw f1; have z1 := cell_bl hSw f2; have z2 := cell_bl hSw f3; have z3 := cell_bl hSw g0; have z4 := cell_bl hSw g1; have z5 := cell_bl hSw g2; have z6 := cell_bl hSw g3; have z7 := cell_bl hSw g4; have z8 := cell_bl hSw g5; have z9 := cell_bl hSw g6; have z10 := cell_bl hSw g7; have z11 := cell_bl hSw g8; go_simp; (try (with_reducible rfl)); done) | (refine Or.inr ⟨by rfl, ?_⟩; with_reducible rfl)
          try simp only [Act.put, List.setIfInBounds_toArray, List.set_cons_zero, List.set_cons_succ]
          refine wpAnyH_ready (rs := [13]) (by kernel_rfl) (by simp) ?_
          refine AllReadyH.cons (o := { dst := some 73, op := Go.Op.call { callee := Go.Callee.value (Go.Operand.func 20), args := #[Go.Operand.tmp 63, Go.Operand.tmp 72], argTypes := #[30, 30] }, type := 4, pos := _, after := _, guard := none }) rfl (fun K hK => ?_) AllReadyH.nil
          go_simp
          refine (HWD.out _ (Bl.then HBK.out HBK.out.size hBr11)).mono ?_
          rintro e w12 ⟨rfl, hD12⟩
          have hBr12 := Bl.dr hBr11 hD12
          simp only []
          refine hK.out _ _ ?_ (fun hHeld => ?_)
          · exact hBr12
          clear hK K
          try simp only [Act.put, List.setIfInBounds_toArray, List.set_cons_zero, List.set_cons_succ]
          refine wpAnyH_take (i := 14) (oi := { dst := some 74, op := Go.Op.unOp Go.UnOp.not 4 (Go.Operand.tmp 73), type := 4, pos := _, after := _, guard := none }) (v := ?_) rfl (by kernel_rfl) (by kernel_rfl) (by kernel_rfl) (fun _ _ _ h => h) ?_ (by assumption) ?_
          rotate_left
          · first | (refine Or.inl ⟨by rfl, ?_⟩; intro w hSw; have z0 := cell_bl hSw f1; have z1 := cell_bl hSw f2; have z2 := cell_bl hSw f3; have z3 := cell_bl hSw g0; have z4 := cell_bl hSw g1; have z5 := cell_bl hSw g2; have z6 := cell_bl hSw g3; have z7 := cell_bl hSw g4; have z8 := cell_bl hSw g5; have z9 := cell_bl hSw g6; have z10 := cell_bl hSw g7; have z11 := cell_bl hSw g8; go_simp; (try (with_reducible rfl)); done) | (refine Or.inr ⟨by rfl, ?_⟩; with_reducible rfl)
          try simp only [Act.put, List.setIfInBounds_toArray, List.set_cons_zero, List.set_cons_succ]
          refine wpAnyH_done (by kernel_rfl) ?_ _
          have HB12 := hide (Bl.then HBK.out HBK.out.size hBr12)
          clear hBr12 hD12 hBr11 hB11
          go_wp2_with fail
          go_round
          case rel => exact ⟨k + 1, by omega, by go_num, HB12.out⟩
          case measure => simp [intOf]; omega
        · as_aux_lemma =>
          obtain rfl : k = DL := by omega
          have hB0k : Bl w wr := Bl.then (Bl.then HB0.out HB0.out.size HB03.out) (Bl.then HB0.out HB0.out.size HB03.out).size hB3k
          have HB0K := hide hB0k
          clear hB0k hB3k hBk b0 b1 b2 b3 b4 b5 b6 b7 b8
          go_wp2_with fail
          refine (HAW.out wr HB0K.out).mono ?_
          rintro e w11 ⟨rfl, hB11⟩
          have HB11 := hide (Bl.then HB0K.out HB0K.out.size hB11)
          clear hB11
          go_wp2_with fail
          go_ret
          exact ⟨rfl, HB11.out⟩
    · have hgt : decide (bd < O) = true := decide_eq_true (by omega)
      have hgti : decide ((bd : Int) < (O : Int)) = true := decide_eq_true (by omega)
      clear hob
      go_enter Tryd.func3, Tryd.ntmps3
      go_wp2_with fail
      rw [← HW0.out]
      have b0 := HBX.out 0 _ rfl
      have b1 := HBX.out 1 _ rfl
      have b2 := HBX.out 2 _ rfl
      have b3 := HBX.out 3 _ rfl
      have b4 := HBX.out 4 _ rfl
      have b5 := HBX.out 5 _ rfl
      have b6 := HBX.out 6 _ rfl
      have b7 := HBX.out 7 _ rfl
      have b8 := HBX.out 8 _ rfl
      refine wp_region_held_drew (S := fun w' => Bl W0 w') (by kernel_rfl) ((Dr.one (Dr.refl W0)).below _) (fun hHeld => ?_)
      refine wpAnyH_take (i := 0) (oi := { dst := some 10, op := Go.Op.load 32 (Go.Operand.tmp 1), type := 32, pos := _, after := _, guard := none }) (v := ?_) rfl (by kernel_rfl) (by kernel_rfl) (by kernel_rfl) (fun _ _ _ h => h) ?_ (by assumption) ?_
      rotate_left
      · first | (refine Or.inl ⟨by rfl, ?_⟩; intro w hSw; have z0 := cell_bl hSw b0; have z1 := cell_bl hSw b1; have z2 := cell_bl hSw b2; have z3 := cell_bl hSw b3; have z4 := cell_bl hSw b4; have z5 := cell_bl hSw b5; have z6 := cell_bl hSw b6; have z7 := cell_bl hSw b7; have z8 := cell_bl hSw b8; go_simp; (try (with_reducible rfl)); done) | (refine Or.inr ⟨by rfl, ?_⟩; with_reducible rfl)
      try simp only [Act.put, List.setIfInBounds_toArray, List.set_cons_zero, List.set_cons_succ]
      refine wpAnyH_ready (rs := [1]) (by kernel_rfl) (by simp) ?_
      refine AllReadyH.cons (o := { dst := some 11, op := Go.Op.call { callee := Go.Callee.value (Go.Operand.func 13), args := #[Go.Operand.tmp 10], argTypes := #[32] }, type := 4, pos := _, after := _, guard := none }) rfl (fun K hK => ?_) AllReadyH.nil
      go_simp
      refine (HMC.out _ (Bl.dr HB0.out (Dr.one (Dr.refl W0)))).mono ?_
      rintro e w2 ⟨rfl, hB2⟩
      have hB02 : Bl W0 w2 := (Bl.dr (Below.refl _ _) (Dr.one (Dr.refl _))).trans hB2
      simp only []
      refine hK.out _ _ ?_ (fun hHeld => ?_)
      · exact hB02
      clear hK K
      try simp only [Act.put, List.setIfInBounds_toArray, List.set_cons_zero, List.set_cons_succ]
      refine wpAnyH_take (i := 2) (oi := { dst := some 12, op := Go.Op.unOp Go.UnOp.not 4 (Go.Operand.tmp 11), type := 4, pos := _, after := _, guard := none }) (v := ?_) rfl (by kernel_rfl) (by kernel_rfl) (by kernel_rfl) (fun _ _ _ h => h) ?_ (by assumption) ?_
      rotate_left
      · first | (refine Or.inl ⟨by rfl, ?_⟩; intro w hSw; have z0 := cell_bl hSw b0; have z1 := cell_bl hSw b1; have z2 := cell_bl hSw b2; have z3 := cell_bl hSw b3; have z4 := cell_bl hSw b4; have z5 := cell_bl hSw b5; have z6 := cell_bl hSw b6; have z7 := cell_bl hSw b7; have z8 := cell_bl hSw b8; go_simp; (try (with_reducible rfl)); done) | (refine Or.inr ⟨by rfl, ?_⟩; with_reducible rfl)
      try simp only [Act.put, List.setIfInBounds_toArray, List.set_cons_zero, List.set_cons_succ]
      refine wpAnyH_take (i := 3) (oi := { dst := some 13, op := Go.Op.move (Go.Operand.tmp 12), type := 4, pos := _, after := _, guard := none }) (v := ?_) rfl (by kernel_rfl) (by kernel_rfl) (by kernel_rfl) (fun _ _ _ h => h) ?_ (by assumption) ?_
      rotate_left
      · first | (refine Or.inl ⟨by rfl, ?_⟩; intro w hSw; have z0 := cell_bl hSw b0; have z1 := cell_bl hSw b1; have z2 := cell_bl hSw b2; have z3 := cell_bl hSw b3; have z4 := cell_bl hSw b4; have z5 := cell_bl hSw b5; have z6 := cell_bl hSw b6; have z7 := cell_bl hSw b7; have z8 := cell_bl hSw b8; go_simp; (try (with_reducible rfl)); done) | (refine Or.inr ⟨by rfl, ?_⟩; with_reducible rfl)
      try simp only [Act.put, List.setIfInBounds_toArray, List.set_cons_zero, List.set_cons_succ]
      refine wpAnyH_take (i := 4) (oi := { dst := some 14, op := Go.Op.load 32 (Go.Operand.tmp 1), type := 32, pos := _, after := _, guard := some (3, false) }) (v := ?_) rfl (by kernel_rfl) (by kernel_rfl) (by kernel_rfl) (fun _ _ _ h => h) ?_ (by assumption) ?_
      rotate_left
      · first | (refine Or.inl ⟨by rfl, ?_⟩; intro w hSw; have z0 := cell_bl hSw b0; have z1 := cell_bl hSw b1; have z2 := cell_bl hSw b2; have z3 := cell_bl hSw b3; have z4 := cell_bl hSw b4; have z5 := cell_bl hSw b5; have z6 := cell_bl hSw b6; have z7 := cell_bl hSw b7; have z8 := cell_bl hSw b8; go_simp; (try (with_reducible rfl)); done) | (refine Or.inr ⟨by rfl, ?_⟩; with_reducible rfl)
      try simp only [Act.put, List.setIfInBounds_toArray, List.set_cons_zero, List.set_cons_succ]
      refine wpAnyH_take (i := 6) (oi := { dst := some 16, op := Go.Op.fieldAddr 32 (Go.Operand.tmp 1) 0, type := 0, pos := _, after := _, guard := some (3, false) }) (v := ?_) rfl (by kernel_rfl) (by kernel_rfl) (by kernel_rfl) (fun _ _ _ h => h) ?_ (by assumption) ?_
      rotate_left
      · first | (refine Or.inl ⟨by rfl, ?_⟩; intro w hSw; have z0 := cell_bl hSw b0; have z1 := cell_bl hSw b1; have z2 := cell_bl hSw b2; have z3 := cell_bl hSw b3; have z4 := cell_bl hSw b4; have z5 := cell_bl hSw b5; have z6 := cell_bl hSw b6; have z7 := cell_bl hSw b7; have z8 := cell_bl hSw b8; go_simp; (try (with_reducible rfl)); done) | (refine Or.inr ⟨by rfl, ?_⟩; with_reducible rfl)
      try simp only [Act.put, List.setIfInBounds_toArray, List.set_cons_zero, List.set_cons_succ]
      refine wpAnyH_take (i := 7) (oi := { dst := some 17, op := Go.Op.fieldAddr 29 (Go.Operand.tmp 16) 0, type := 0, pos := _, after := _, guard := some (3, false) }) (v := ?_) rfl (by kernel_rfl) (by kernel_rfl) (by kernel_rfl) (fun _ _ _ h => h) ?_ (by assumption) ?_
      rotate_left
      · first | (refine Or.inl ⟨by rfl, ?_⟩; intro w hSw; have z0 := cell_bl hSw b0; have z1 := cell_bl hSw b1; have z2 := cell_bl hSw b2; have z3 := cell_bl hSw b3; have z4 := cell_bl hSw b4; have z5 := cell_bl hSw b5; have z6 := cell_bl hSw b6; have z7 := cell_bl hSw b7; have z8 := cell_bl hSw b8; go_simp; (try (with_reducible rfl)); done) | (refine Or.inr ⟨by rfl, ?_⟩; with_reducible rfl)
      try simp only [Act.put, List.setIfInBounds_toArray, List.set_cons_zero, List.set_cons_succ]
      refine wpAnyH_take (i := 8) (oi := { dst := some 18, op := Go.Op.fieldAddr 24 (Go.Operand.tmp 17) 1, type := 0, pos := _, after := _, guard := some (3, false) }) (v := ?_) rfl (by kernel_rfl) (by kernel_rfl) (by kernel_rfl) (fun _ _ _ h => h) ?_ (by assumption) ?_
      rotate_left
      · first | (refine Or.inl ⟨by rfl, ?_⟩; intro w hSw; have z0 := cell_bl hSw b0; have z1 := cell_bl hSw b1; have z2 := cell_bl hSw b2; have z3 := cell_bl hSw b3; have z4 := cell_bl hSw b4; have z5 := cell_bl hSw b5; have z6 := cell_bl hSw b6; have z7 := cell_bl hSw b7; have z8 := cell_bl hSw b8; go_simp; (try (with_reducible rfl)); done) | (refine Or.inr ⟨by rfl, ?_⟩; with_reducible rfl)
      try simp only [Act.put, List.setIfInBounds_toArray, List.set_cons_zero, List.set_cons_succ]
      refine wpAnyH_take (i := 9) (oi := { dst := some 19, op := Go.Op.load 3 (Go.Operand.tmp 18), type := 3, pos := _, after := _, guard := some (3, false) }) (v := ?_) rfl (by kernel_rfl) (by kernel_rfl) (by kernel_rfl) (fun _ _ _ h => h) ?_ (by assumption) ?_
      rotate_left
      · first | (refine Or.inl ⟨by rfl, ?_⟩; intro w hSw; have z0 := cell_bl hSw b0; have z1 := cell_bl hSw b1; have z2 := cell_bl hSw b2; have z3 := cell_bl hSw b3; have z4 := cell_bl hSw b4; have z5 := cell_bl hSw b5; have z6 := cell_bl hSw b6; have z7 := cell_bl hSw b7; have z8 := cell_bl hSw b8; go_simp; (try (with_reducible rfl)); done) | (refine Or.inr ⟨by rfl, ?_⟩; with_reducible rfl)
      try simp only [Act.put, List.setIfInBounds_toArray, List.set_cons_zero, List.set_cons_succ]
      refine wpAnyH_take (i := 10) (oi := { dst := some 20, op := Go.Op.binOp Go.BinOp.sub 3 (Go.Operand.tmp 19) (Go.Operand.const (Go.Value.int Go.IntKind.i64 2)) 3, type := 3, pos := _, after := _, guard := some (3, false) }) (v := ?_) rfl (by kernel_rfl) (by kernel_rfl) (by kernel_rfl) (fun _ _ _ h => h) ?_ (by assumption) ?_
      rotate_left
      · first | (refine Or.inl ⟨by rfl, ?_⟩; intro w hSw; have z0 := cell_bl hSw b0; have z1 := cell_bl hSw b1; have z2 := cell_bl hSw b2; have z3 := cell_bl hSw b3; have z4 := cell_bl hSw b4; have z5 := cell_bl hSw b5; have z6 := cell_bl hSw b6; have z7 := cell_bl hSw b7; have z8 := cell_bl hSw b8; go_simp; (try (with_reducible rfl)); done) | (refine Or.inr ⟨by rfl, ?_⟩; with_reducible rfl)
      try simp only [Act.put, List.setIfInBounds_toArray, List.set_cons_zero, List.set_cons_succ]
      refine wpAnyH_take (i := 11) (oi := { dst := some 21, op := Go.Op.fieldAddr 32 (Go.Operand.tmp 1) 0, type := 0, pos := _, after := _, guard := some (3, false) }) (v := ?_) rfl (by kernel_rfl) (by kernel_rfl) (by kernel_rfl) (fun _ _ _ h => h) ?_ (by assumption) ?_
      rotate_left
      · first | (refine Or.inl ⟨by rfl, ?_⟩; intro w hSw; have z0 := cell_bl hSw b0; have z1 := cell_bl hSw b1; have z2 := cell_bl hSw b2; have z3 := cell_bl hSw b3; have z4 := cell_bl hSw b4; have z5 := cell_bl hSw b5; have z6 := cell_bl hSw b6; have z7 := cell_bl hSw b7; have z8 := cell_bl hSw b8; go_simp; (try (with_reducible rfl)); done) | (refine Or.inr ⟨by rfl, ?_⟩; with_reducible rfl)
      try simp only [Act.put, List.setIfInBounds_toArray, List.set_cons_zero, List.set_cons_succ]
      refine wpAnyH_take (i := 12) (oi := { dst := some 22, op := Go.Op.fieldAddr 29 (Go.Operand.tmp 21) 0, type := 0, pos := _, after := _, guard := some (3, false) }) (v := ?_) rfl (by kernel_rfl) (by kernel_rfl) (by kernel_rfl) (fun _ _ _ h => h) ?_ (by assumption) ?_
      rotate_left
      · first | (refine Or.inl ⟨by rfl, ?_⟩; intro w hSw; have z0 := cell_bl hSw b0; have z1 := cell_bl hSw b1; have z2 := cell_bl hSw b2; have z3 := cell_bl hSw b3; have z4 := cell_bl hSw b4; have z5 := cell_bl hSw b5; have z6 := cell_bl hSw b6; have z7 := cell_bl hSw b7; have z8 := cell_bl hSw b8; go_simp; (try (with_reducible rfl)); done) | (refine Or.inr ⟨by rfl, ?_⟩; with_reducible rfl)
      try simp only [Act.put, List.setIfInBounds_toArray, List.set_cons_zero, List.set_cons_succ]
      refine wpAnyH_take (i := 13) (oi := { dst := some 23, op := Go.Op.fieldAddr 24 (Go.Operand.tmp 22) 2, type := 0, pos := _, after := _, guard := some (3, false) }) (v := ?_) rfl (by kernel_rfl) (by kernel_rfl) (by kernel_rfl) (fun _ _ _ h => h) ?_ (by assumption) ?_
      rotate_left
      · first | (refine Or.inl ⟨by rfl, ?_⟩; intro w hSw; have z0 := cell_bl hSw b0; have z1 := cell_bl hSw b1; have z2 := cell_bl hSw b2; have z3 := cell_bl hSw b3; have z4 := cell_bl hSw b4; have z5 := cell_bl hSw b5; have z6 := cell_bl hSw b6; have z7 := cell_bl hSw b7; have z8 := cell_bl hSw b8; go_simp; (try (with_reducible rfl)); done) | (refine Or.inr ⟨by rfl, ?_⟩; with_reducible rfl)
      try simp only [Act.put, List.setIfInBounds_toArray, List.set_cons_zero, List.set_cons_succ]
      refine wpAnyH_take (i := 14) (oi := { dst := some 24, op := Go.Op.load 3 (Go.Operand.tmp 23), type := 3, pos := _, after := _, guard := some (3, false) }) (v := ?_) rfl (by kernel_rfl) (by kernel_rfl) (by kernel_rfl) (fun _ _ _ h => h) ?_ (by assumption) ?_
      rotate_left
      · first | (refine Or.inl ⟨by rfl, ?_⟩; intro w hSw; have z0 := cell_bl hSw b0; have z1 := cell_bl hSw b1; have z2 := cell_bl hSw b2; have z3 := cell_bl hSw b3; have z4 := cell_bl hSw b4; have z5 := cell_bl hSw b5; have z6 := cell_bl hSw b6; have z7 := cell_bl hSw b7; have z8 := cell_bl hSw b8; go_simp; (try (with_reducible rfl)); done) | (refine Or.inr ⟨by rfl, ?_⟩; with_reducible rfl)
      try simp only [Act.put, List.setIfInBounds_toArray, List.set_cons_zero, List.set_cons_succ]
      refine wpAnyH_take (i := 15) (oi := { dst := some 25, op := Go.Op.binOp Go.BinOp.sub 3 (Go.Operand.tmp 20) (Go.Operand.tmp 24) 3, type := 3, pos := _, after := _, guard := some (3, false) }) (v := ?_) rfl (by kernel_rfl) (by kernel_rfl) (by kernel_rfl) (fun _ _ _ h => h) ?_ (by assumption) ?_
      rotate_left
      · first | (refine Or.inl ⟨by rfl, ?_⟩; intro w hSw; have z0 := cell_bl hSw b0; have z1 := cell_bl hSw b1; have z2 := cell_bl hSw b2; have z3 := cell_bl hSw b3; have z4 := cell_bl hSw b4; have z5 := cell_bl hSw b5; have z6 := cell_bl hSw b6; have z7 := cell_bl hSw b7; have z8 := cell_bl hSw b8; go_simp; (try (with_reducible rfl)); done) | (refine Or.inr ⟨by rfl, ?_⟩; with_reducible rfl)
      try simp only [Act.put, List.setIfInBounds_toArray, List.set_cons_zero, List.set_cons_succ]
      refine wpAnyH_take (i := 16) (oi := { dst := some 26, op := Go.Op.binOp Go.BinOp.quo 3 (Go.Operand.tmp 25) (Go.Operand.const (Go.Value.int Go.IntKind.i64 2)) 3, type := 3, pos := _, after := _, guard := some (3, false) }) (v := ?_) rfl (by kernel_rfl) (by kernel_rfl) (by kernel_rfl) (fun _ _ _ h => h) ?_ (by assumption) ?_
      rotate_left
      · first | (refine Or.inl ⟨by rfl, ?_⟩; intro w hSw; have z0 := cell_bl hSw b0; have z1 := cell_bl hSw b1; have z2 := cell_bl hSw b2; have z3 := cell_bl hSw b3; have z4 := cell_bl hSw b4; have z5 := cell_bl hSw b5; have z6 := cell_bl hSw b6; have z7 := cell_bl hSw b7; have z8 := cell_bl hSw b8; go_simp; (try (with_reducible rfl)); done) | (refine Or.inr ⟨by rfl, ?_⟩; with_reducible rfl)
      try simp only [Act.put, List.setIfInBounds_toArray, List.set_cons_zero, List.set_cons_succ]
      refine wpAnyH_ready (rs := [5]) (by kernel_rfl) (by simp) ?_
      refine AllReadyH.cons (o := { dst := some 15, op := Go.Op.call { callee := Go.Callee.value (Go.Operand.func 14), args := #[Go.Operand.tmp 14], argTypes := #[32] }, type := 3, pos := _, after := _, guard := some (3, false) }) rfl (fun K hK => ?_) AllReadyH.nil
      go_simp
      refine (HOTH.out _ (Bl.then HB0.out HB0.out.size hB02)).mono ?_
      rintro e w3 ⟨he, hB3⟩
      rw [← HO.out] at he
      subst he
      have hB03 := Bl.then hB02 hB02.size hB3
      simp only []
      refine hK.out _ _ ?_ (fun hHeld => ?_)
      · exact hB03
      clear hK K
      try simp only [Act.put, List.setIfInBounds_toArray, List.set_cons_zero, List.set_cons_succ]
      refine wpAnyH_take (i := 17) (oi := { dst := some 27, op := Go.Op.binOp Go.BinOp.gtr 3 (Go.Operand.tmp 15) (Go.Operand.tmp 26) 3, type := 4, pos := _, after := _, guard := some (3, false) }) (v := ?_) rfl (by kernel_rfl) (by kernel_rfl) (by kernel_rfl) (fun _ _ _ h => h) ?_ (by assumption) ?_
      rotate_left
      · first | (refine Or.inl ⟨by rfl, ?_⟩; intro w hSw; have z0 := cell_bl hSw b0; have z1 := cell_bl hSw b1; have z2 := cell_bl hSw b2; have z3 := cell_bl hSw b3; have z4 := cell_bl hSw b4; have z5 := cell_bl hSw b5; have z6 := cell_bl hSw b6; have z7 := cell_bl hSw b7; have z8 := cell_bl hSw b8; go_simp; (try (with_reducible rfl)); done) | (refine Or.inr ⟨by rfl, ?_⟩; with_reducible rfl)
      try simp only [Act.put, List.setIfInBounds_toArray, List.set_cons_zero, List.set_cons_succ]
      refine wpAnyH_take (i := 18) (oi := { dst := some 28, op := Go.Op.pick (Go.Operand.tmp 13) (Go.Operand.const (Go.Value.bool true)) (Go.Operand.tmp 27), type := 4, pos := _, after := _, guard := none }) (v := ?_) rfl (by kernel_rfl) (by kernel_rfl) (by kernel_rfl) (fun _ _ _ h => h) ?_ (by assumption) ?_
      rotate_left
      · first | (refine Or.inl ⟨by rfl, ?_⟩; intro w hSw; have z0 := cell_bl hSw b0; have z1 := cell_bl hSw b1; have z2 := cell_bl hSw b2; have z3 := cell_bl hSw b3; have z4 := cell_bl hSw b4; have z5 := cell_bl hSw b5; have z6 := cell_bl hSw b6; have z7 := cell_bl hSw b7; have z8 := cell_bl hSw b8; go_simp; (try (with_reducible rfl)); done) | (refine Or.inr ⟨by rfl, ?_⟩; with_reducible rfl)
      try simp only [Act.put, List.setIfInBounds_toArray, List.set_cons_zero, List.set_cons_succ]
      refine wpAnyH_done (by kernel_rfl) ?_ _
      have HB03 := hide (Bl.then HB0.out HB0.out.size hB03)
      clear hB03 hB3 hB02 hB2 b0 b1 b2 b3 b4 b5 b6 b7 b8
      go_wp2_with fail
      refine (HAW.out _ HB03.out).mono ?_
      rintro e w11 ⟨rfl, hB11⟩
      have HB11 := hide (Bl.then HB03.out HB03.out.size hB11)
      clear hB11
      go_wp2_with fail
      go_ret
      exact ⟨rfl, HB11.out⟩
  · have hmc := fun W2 (h : Bl w W2) => (hmc W2 h).mono (R' := fun e w' => e = .returned (.bool false) ∧ Bl W2 w') (fun e w' h => by
      obtain ⟨h1, b, rfl, hb⟩ := h
      cases b with
      | true => exact absurd (hb.1 rfl) hmay
      | false => exact ⟨rfl, h1⟩)
    have haw := fun W2 (h : Bl w W2) => awake_any W2 (hL.bl h)
    simp only [askVal] at hmc ⊢
    have HB0 := hide hB0; have HMC := hide hmc; have HAW := hide haw; have HW0 := hide hW0; have HBX := hide hbox
    clear hB0 hbox hmc haw hL hW0 hclow hdlow htlow hllow hslow hc hd ht hl hs hmay
    go_enter Tryd.func3, Tryd.ntmps3
    go_wp2_with fail
    rw [← HW0.out]
    have b0 := HBX.out 0 _ rfl
    have b1 := HBX.out 1 _ rfl
    have b2 := HBX.out 2 _ rfl
    have b3 := HBX.out 3 _ rfl
    have b4 := HBX.out 4 _ rfl
    have b5 := HBX.out 5 _ rfl
    have b6 := HBX.out 6 _ rfl
    have b7 := HBX.out 7 _ rfl
    have b8 := HBX.out 8 _ rfl
    refine wp_region_held_drew (S := fun w' => Bl W0 w') (by kernel_rfl) ((Dr.one (Dr.refl W0)).below _) (fun hHeld => ?_)
    refine wpAnyH_take (i := 0) (oi := { dst := some 10, op := Go.Op.load 32 (Go.Operand.tmp 1), type := 32, pos := _, after := _, guard := none }) (v := ?_) rfl (by kernel_rfl) (by kernel_rfl) (by kernel_rfl) (fun _ _ _ h => h) ?_ (by assumption) ?_
    rotate_left
    · first | (refine Or.inl ⟨by rfl, ?_⟩; intro w hSw; have z0 := cell_bl hSw b0; have z1 := cell_bl hSw b1; have z2 := cell_bl hSw b2; have z3 := cell_bl hSw b3; have z4 := cell_bl hSw b4; have z5 := cell_bl hSw b5; have z6 := cell_bl hSw b6; have z7 := cell_bl hSw b7; have z8 := cell_bl hSw b8; go_simp; (try (with_reducible rfl)); done) | (refine Or.inr ⟨by rfl, ?_⟩; with_reducible rfl)
    try simp only [Act.put, List.setIfInBounds_toArray, List.set_cons_zero, List.set_cons_succ]
    refine wpAnyH_ready (rs := [1]) (by kernel_rfl) (by simp) ?_
    refine AllReadyH.cons (o := { dst := some 11, op := Go.Op.call { callee := Go.Callee.value (Go.Operand.func 13), args := #[Go.Operand.tmp 10], argTypes := #[32] }, type := 4, pos := _, after := _, guard := none }) rfl (fun K hK => ?_) AllReadyH.nil
    go_simp
    refine (HMC.out _ (Bl.dr HB0.out (Dr.one (Dr.refl W0)))).mono ?_
    rintro e w2 ⟨rfl, hB2⟩
    have hB02 : Bl W0 w2 := (Bl.dr (Below.refl _ _) (Dr.one (Dr.refl _))).trans hB2
    simp only []
    refine hK.out _ _ ?_ (fun hHeld => ?_)
    · exact hB02
    clear hK K
    try simp only [Act.put, List.setIfInBounds_toArray, List.set_cons_zero, List.set_cons_succ]
    refine wpAnyH_take (i := 2) (oi := { dst := some 12, op := Go.Op.unOp Go.UnOp.not 4 (Go.Operand.tmp 11), type := 4, pos := _, after := _, guard := none }) (v := ?_) rfl (by kernel_rfl) (by kernel_rfl) (by kernel_rfl) (fun _ _ _ h => h) ?_ (by assumption) ?_
    rotate_left
    · first | (refine Or.inl ⟨by rfl, ?_⟩; intro w hSw; have z0 := cell_bl hSw b0; have z1 := cell_bl hSw b1; have z2 := cell_bl hSw b2; have z3 := cell_bl hSw b3; have z4 := cell_bl hSw b4; have z5 := cell_bl hSw b5; have z6 := cell_bl hSw b6; have z7 := cell_bl hSw b7; have z8 := cell_bl hSw b8; go_simp; (try (with_reducible rfl)); done) | (refine Or.inr ⟨by rfl, ?_⟩; with_reducible rfl)
    try simp only [Act.put, List.setIfInBounds_toArray, List.set_cons_zero, List.set_cons_succ]
    refine wpAnyH_take (i := 3) (oi := { dst := some 13, op := Go.Op.move (Go.Operand.tmp 12), type := 4, pos := _, after := _, guard := none }) (v := ?_) rfl (by kernel_rfl) (by kernel_rfl) (by kernel_rfl) (fun _ _ _ h => h) ?_ (by assumption) ?_
    rotate_left
    · first | (refine Or.inl ⟨by rfl, ?_⟩; intro w hSw; have z0 := cell_bl hSw b0; have z1 := cell_bl hSw b1; have z2 := cell_bl hSw b2; have z3 := cell_bl hSw b3; have z4 := cell_bl hSw b4; have z5 := cell_bl hSw b5; have z6 := cell_bl hSw b6; have z7 := cell_bl hSw b7; have z8 := cell_bl hSw b8; go_simp; (try (with_reducible rfl)); done) | (refine Or.inr ⟨by rfl, ?_⟩; with_reducible rfl)
    try simp only [Act.put, List.setIfInBounds_toArray, List.set_cons_zero, List.set_cons_succ]
    refine wpAnyH_take (i := 4) (oi := { dst := some 14, op := Go.Op.load 32 (Go.Operand.tmp 1), type := 32, pos := _, after := _, guard := some (3, false) }) (v := ?_) rfl (by kernel_rfl) (by kernel_rfl) (by kernel_rfl) (fun _ _ _ h => h) ?_ (by assumption) ?_
    rotate_left
    · first | (refine Or.inl ⟨by rfl, ?_⟩; intro w hSw; have z0 := cell_bl hSw b0; have z1 := cell_bl hSw b1; have z2 := cell_bl hSw b2; have z3 := cell_bl hSw b3; have z4 := cell_bl hSw b4; have z5 := cell_bl hSw b5; have z6 := cell_bl hSw b6; have z7 := cell_bl hSw b7; have z8 := cell_bl hSw b8; go_simp; (try (with_reducible rfl)); done) | (refine Or.inr ⟨by rfl, ?_⟩; with_reducible rfl)
    try simp only [Act.put, List.setIfInBounds_toArray, List.set_cons_zero, List.set_cons_succ]
    refine wpAnyH_take (i := 6) (oi := { dst := some 16, op := Go.Op.fieldAddr 32 (Go.Operand.tmp 1) 0, type := 0, pos := _, after := _, guard := some (3, false) }) (v := ?_) rfl (by kernel_rfl) (by kernel_rfl) (by kernel_rfl) (fun _ _ _ h => h) ?_ (by assumption) ?_
    rotate_left
    · first | (refine Or.inl ⟨by rfl, ?_⟩; intro w hSw; have z0 := cell_bl hSw b0; have z1 := cell_bl hSw b1; have z2 := cell_bl hSw b2; have z3 := cell_bl hSw b3; have z4 := cell_bl hSw b4; have z5 := cell_bl hSw b5; have z6 := cell_bl hSw b6; have z7 := cell_bl hSw b7; have z8 := cell_bl hSw b8; go_simp; (try (with_reducible rfl)); done) | (refine Or.inr ⟨by rfl, ?_⟩; with_reducible rfl)
    try simp only [Act.put, List.setIfInBounds_toArray, List.set_cons_zero, List.set_cons_succ]
    refine wpAnyH_take (i := 7) (oi := { dst := some 17, op := Go.Op.fieldAddr 29 (Go.Operand.tmp 16) 0, type := 0, pos := _, after := _, guard := some (3, false) }) (v := ?_) rfl (by kernel_rfl) (by kernel_rfl) (by kernel_rfl) (fun _ _ _ h => h) ?_ (by assumption) ?_
    rotate_left
    · first | (refine Or.inl ⟨by rfl, ?_⟩; intro w hSw; have z0 := cell_bl hSw b0; have z1 := cell_bl hSw b1; have z2 := cell_bl hSw b2; have z3 := cell_bl hSw b3; have z4 := cell_bl hSw b4; have z5 := cell_bl hSw b5; have z6 := cell_bl hSw b6; have z7 := cell_bl hSw b7; have z8 := cell_bl hSw b8; go_simp; (try (with_reducible rfl)); done) | (refine Or.inr ⟨by rfl, ?_⟩; with_reducible rfl)
    try simp only [Act.put, List.setIfInBounds_toArray, List.set_cons_zero, List.set_cons_succ]
    refine wpAnyH_take (i := 8) (oi := { dst := some 18, op := Go.Op.fieldAddr 24 (Go.Operand.tmp 17) 1, type := 0, pos := _, after := _, guard := some (3, false) }) (v := ?_) rfl (by kernel_rfl) (by kernel_rfl) (by kernel_rfl) (fun _ _ _ h => h) ?_ (by assumption) ?_
    rotate_left
    · first | (refine Or.inl ⟨by rfl, ?_⟩; intro w hSw; have z0 := cell_bl hSw b0; have z1 := cell_bl hSw b1; have z2 := cell_bl hSw b2; have z3 := cell_bl hSw b3; have z4 := cell_bl hSw b4; have z5 := cell_bl hSw b5; have z6 := cell_bl hSw b6; have z7 := cell_bl hSw b7; have z8 := cell_bl hSw b8; go_simp; (try (with_reducible rfl)); done) | (refine Or.inr ⟨by rfl, ?_⟩; with_reducible rfl)
    try simp only [Act.put, List.setIfInBounds_toArray, List.set_cons_zero, List.set_cons_succ]
    refine wpAnyH_take (i := 9) (oi := { dst := some 19, op := Go.Op.load 3 (Go.Operand.tmp 18), type := 3, pos := _, after := _, guard := some (3, false) }) (v := ?_) rfl (by kernel_rfl) (by kernel_rfl) (by kernel_rfl) (fun _ _ _ h => h) ?_ (by assumption) ?_
    rotate_left
    · first | (refine Or.inl ⟨by rfl, ?_⟩; intro w hSw; have z0 := cell_bl hSw b0; have z1 := cell_bl hSw b1; have z2 := cell_bl hSw b2; have z3 := cell_bl hSw b3; have z4 := cell_bl hSw b4; have z5 := cell_bl hSw b5; have z6 := cell_bl hSw b6; have z7 := cell_bl hSw b7; have z8 := cell_bl hSw b8; go_simp; (try (with_reducible rfl)); done) | (refine Or.inr ⟨by rfl, ?_⟩; with_reducible rfl)
    try simp only [Act.put, List.setIfInBounds_toArray, List.set_cons_zero, List.set_cons_succ]
    refine wpAnyH_take (i := 10) (oi := { dst := some 20, op := Go.Op.binOp Go.BinOp.sub 3 (Go.Operand.tmp 19) (Go.Operand.const (Go.Value.int Go.IntKind.i64 2)) 3, type := 3, pos := _, after := _, guard := some (3, false) }) (v := ?_) rfl (by kernel_rfl) (by kernel_rfl) (by kernel_rfl) (fun _ _ _ h => h) ?_ (by assumption) ?_
    rotate_left
    · first | (refine Or.inl ⟨by rfl, ?_⟩; intro w hSw; have z0 := cell_bl hSw b0; have z1 := cell_bl hSw b1; have z2 := cell_bl hSw b2; have z3 := cell_bl hSw b3; have z4 := cell_bl hSw b4; have z5 := cell_bl hSw b5; have z6 := cell_bl hSw b6; have z7 := cell_bl hSw b7; have z8 := cell_bl hSw b8; go_simp; (try (with_reducible rfl)); done) | (refine Or.inr ⟨by rfl, ?_⟩; with_reducible rfl)
    try simp only [Act.put, List.setIfInBounds_toArray, List.set_cons_zero, List.set_cons_succ]
    refine wpAnyH_take (i := 11) (oi := { dst := some 21, op := Go.Op.fieldAddr 32 (Go.Operand.tmp 1) 0, type := 0, pos := _, after := _, guard := some (3, false) }) (v := ?_) rfl (by kernel_rfl) (by kernel_rfl) (by kernel_rfl) (fun _ _ _ h => h) ?_ (by assumption) ?_
    rotate_left
    · first | (refine Or.inl ⟨by rfl, ?_⟩; intro w hSw; have z0 := cell_bl hSw b0; have z1 := cell_bl hSw b1; have z2 := cell_bl hSw b2; have z3 := cell_bl hSw b3; have z4 := cell_bl hSw b4; have z5 := cell_bl hSw b5; have z6 := cell_bl hSw b6; have z7 := cell_bl hSw b7; have z8 := cell_bl hSw b8; go_simp; (try (with_reducible rfl)); done) | (refine Or.inr ⟨by rfl, ?_⟩; with_reducible rfl)
    try simp only [Act.put, List.setIfInBounds_toArray, List.set_cons_zero, List.set_cons_succ]
    refine wpAnyH_take (i := 12) (oi := { dst := some 22, op := Go.Op.fieldAddr 29 (Go.Operand.tmp 21) 0, type := 0, pos := _, after := _, guard := some (3, false) }) (v := ?_) rfl (by kernel_rfl) (by kernel_rfl) (by kernel_rfl) (fun _ _ _ h => h) ?_ (by assumption) ?_
    rotate_left
    · first | (refine Or.inl ⟨by rfl, ?_⟩; intro w hSw; have z0 := cell_bl hSw b0; have z1 := cell_bl hSw b1; have z2 := cell_bl hSw b2; have z3 := cell_bl hSw b3; have z4 := cell_bl hSw b4; have z5 := cell_bl hSw b5; have z6 := cell_bl hSw b6; have z7 := cell_bl hSw b7; have z8 := cell_bl hSw b8; go_simp; (try (with_reducible rfl)); done) | (refine Or.inr ⟨by rfl, ?_⟩; with_reducible rfl)
    try simp only [Act.put, List.setIfInBounds_toArray, List.set_cons_zero, List.set_cons_succ]
    refine wpAnyH_take (i := 13) (oi := { dst := some 23, op := Go.Op.fieldAddr 24 (Go.Operand.tmp 22) 2, type := 0, pos := _, after := _, guard := some (3, false) }) (v := ?_) rfl (by kernel_rfl) (by kernel_rfl) (by kernel_rfl) (fun _ _ _ h => h) ?_ (by assumption) ?_
    rotate_left
    · first | (refine Or.inl ⟨by rfl, ?_⟩; intro w hSw; have z0 := cell_bl hSw b0; have z1 := cell_bl hSw b1; have z2 := cell_bl hSw b2; have z3 := cell_bl hSw b3; have z4 := cell_bl hSw b4; have z5 := cell_bl hSw b5; have z6 := cell_bl hSw b6; have z7 := cell_bl hSw b7; have z8 := cell_bl hSw b8; go_simp; (try (with_reducible rfl)); done) | (refine Or.inr ⟨by rfl, ?_⟩; with_reducible rfl)
    try simp only [Act.put, List.setIfInBounds_toArray, List.set_cons_zero, List.set_cons_succ]
    refine wpAnyH_take (i := 14) (oi := { dst := some 24, op := Go.Op.load 3 (Go.Operand.tmp 23), type := 3, pos := _, after := _, guard := some (3, false) }) (v := ?_) rfl (by kernel_rfl) (by kernel_rfl) (by kernel_rfl) (fun _ _ _ h => h) ?_ (by assumption) ?_
    rotate_left
    · first | (refine Or.inl ⟨by rfl, ?_⟩; intro w hSw; have z0 := cell_bl hSw b0; have z1 := cell_bl hSw b1; have z2 := cell_bl hSw b2; have z3 := cell_bl hSw b3; have z4 := cell_bl hSw b4; have z5 := cell_bl hSw b5; have z6 := cell_bl hSw b6; have z7 := cell_bl hSw b7; have z8 := cell_bl hSw b8; go_simp; (try (with_reducible rfl)); done) | (refine Or.inr ⟨by rfl, ?_⟩; with_reducible rfl)
    try simp only [Act.put, List.setIfInBounds_toArray, List.set_cons_zero, List.set_cons_succ]
    refine wpAnyH_take (i := 15) (oi := { dst := some 25, op := Go.Op.binOp Go.BinOp.sub 3 (Go.Operand.tmp 20) (Go.Operand.tmp 24) 3, type := 3, pos := _, after := _, guard := some (3, false) }) (v := ?_) rfl (by kernel_rfl) (by kernel_rfl) (by kernel_rfl) (fun _ _ _ h => h) ?_ (by assumption) ?_
    rotate_left
    · first | (refine Or.inl ⟨by rfl, ?_⟩; intro w hSw; have z0 := cell_bl hSw b0; have z1 := cell_bl hSw b1; have z2 := cell_bl hSw b2; have z3 := cell_bl hSw b3; have z4 := cell_bl hSw b4; have z5 := cell_bl hSw b5; have z6 := cell_bl hSw b6; have z7 := cell_bl hSw b7; have z8 := cell_bl hSw b8; go_simp; (try (with_reducible rfl)); done) | (refine Or.inr ⟨by rfl, ?_⟩; with_reducible rfl)
    try simp only [Act.put, List.setIfInBounds_toArray, List.set_cons_zero, List.set_cons_succ]
    refine wpAnyH_take (i := 16) (oi := { dst := some 26, op := Go.Op.binOp Go.BinOp.quo 3 (Go.Operand.tmp 25) (Go.Operand.const (Go.Value.int Go.IntKind.i64 2)) 3, type := 3, pos := _, after := _, guard := some (3, false) }) (v := ?_) rfl (by kernel_rfl) (by kernel_rfl) (by kernel_rfl) (fun _ _ _ h => h) ?_ (by assumption) ?_
    rotate_left
    · first | (refine Or.inl ⟨by rfl, ?_⟩; intro w hSw; have z0 := cell_bl hSw b0; have z1 := cell_bl hSw b1; have z2 := cell_bl hSw b2; have z3 := cell_bl hSw b3; have z4 := cell_bl hSw b4; have z5 := cell_bl hSw b5; have z6 := cell_bl hSw b6; have z7 := cell_bl hSw b7; have z8 := cell_bl hSw b8; go_simp; (try (with_reducible rfl)); done) | (refine Or.inr ⟨by rfl, ?_⟩; with_reducible rfl)
    try simp only [Act.put, List.setIfInBounds_toArray, List.set_cons_zero, List.set_cons_succ]
    refine wpAnyH_take (i := 5) (oi := { dst := some 15, op := Go.Op.call { callee := Go.Callee.value (Go.Operand.func 14), args := #[Go.Operand.tmp 14], argTypes := #[32] }, type := 3, pos := _, after := _, guard := some (3, false) }) (v := ?_) rfl (by kernel_rfl) (by kernel_rfl) (by kernel_rfl) (fun _ _ _ h => h) ?_ (by assumption) ?_
    rotate_left
    · (refine Or.inr ⟨by rfl, ?_⟩; with_reducible rfl)
    try simp only [Act.put, List.setIfInBounds_toArray, List.set_cons_zero, List.set_cons_succ]
    refine wpAnyH_take (i := 17) (oi := { dst := some 27, op := Go.Op.binOp Go.BinOp.gtr 3 (Go.Operand.tmp 15) (Go.Operand.tmp 26) 3, type := 4, pos := _, after := _, guard := some (3, false) }) (v := ?_) rfl (by kernel_rfl) (by kernel_rfl) (by kernel_rfl) (fun _ _ _ h => h) ?_ (by assumption) ?_
    rotate_left
    · first | (refine Or.inl ⟨by rfl, ?_⟩; intro w hSw; have z0 := cell_bl hSw b0; have z1 := cell_bl hSw b1; have z2 := cell_bl hSw b2; have z3 := cell_bl hSw b3; have z4 := cell_bl hSw b4; have z5 := cell_bl hSw b5; have z6 := cell_bl hSw b6; have z7 := cell_bl hSw b7; have z8 := cell_bl hSw b8; go_simp; (try (with_reducible rfl)); done) | (refine Or.inr ⟨by rfl, ?_⟩; with_reducible rfl)
    try simp only [Act.put, List.setIfInBounds_toArray, List.set_cons_zero, List.set_cons_succ]
    refine wpAnyH_take (i := 18) (oi := { dst := some 28, op := Go.Op.pick (Go.Operand.tmp 13) (Go.Operand.const (Go.Value.bool true)) (Go.Operand.tmp 27), type := 4, pos := _, after := _, guard := none }) (v := ?_) rfl (by kernel_rfl) (by kernel_rfl) (by kernel_rfl) (fun _ _ _ h => h) ?_ (by assumption) ?_
    rotate_left
    · first | (refine Or.inl ⟨by rfl, ?_⟩; intro w hSw; have z0 := cell_bl hSw b0; have z1 := cell_bl hSw b1; have z2 := cell_bl hSw b2; have z3 := cell_bl hSw b3; have z4 := cell_bl hSw b4; have z5 := cell_bl hSw b5; have z6 := cell_bl hSw b6; have z7 := cell_bl hSw b7; have z8 := cell_bl hSw b8; go_simp; (try (with_reducible rfl)); done) | (refine Or.inr ⟨by rfl, ?_⟩; with_reducible rfl)
    try simp only [Act.put, List.setIfInBounds_toArray, List.set_cons_zero, List.set_cons_succ]
    refine wpAnyH_done (by kernel_rfl) ?_ _
    have HB03 := hide (Bl.then HB0.out HB0.out.size hB02)
    clear hB02 hB2 b0 b1 b2 b3 b4 b5 b6 b7 b8
    go_wp2_with fail
    refine (HAW.out _ HB03.out).mono ?_
    rintro e w11 ⟨rfl, hB11⟩
    have HB11 := hide (Bl.then HB03.out HB03.out.size hB11)
    clear hB11
    go_wp2_with fail
    go_ret
    exact ⟨rfl, HB11.out⟩
end Pv
