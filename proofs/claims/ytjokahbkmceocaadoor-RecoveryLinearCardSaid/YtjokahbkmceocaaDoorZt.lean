import Derived.Test.YtjokahbkmceocaaDoorZp
import Derived.Test.YtjokahbkmceocaaDoorZq
import Derived.Test.YtjokahbkmceocaaDoorZa
import Derived.Deep.Slices
set_option linter.unusedVariables false
set_option linter.unusedSimpArgs false
namespace Pv
open Go Go.RowKit Go.Proofs

theorem shainfo : (Tryd.prog.info? 44).map (fun i => (i.zero, i.size, i.bytes)) = some (some (.slice none 0 0), 1, 24) := by kernel_rfl
def NumP (p N T : Nat) (corrupt : List Int) (spoil : List Nat) (L : List (List Nat)) (w : World) (e : Ending) (w' : World) : Prop :=
  Bl w w' ∧ ∃ v', e = .returned v' ∧ (kS (kS (kS kU))).R w' (fun b => w.heap.size ≤ b) [v'] (numL p N T corrupt spoil L)
theorem kS_drop {α : Type} {K : Kn α} (hK : K.sz = 1) {w : World} {S : Nat → Prop} {ad : Addr} {n c m : Nat} {xs : List α} (h : (kS K).R w S [.slice (some ad) n c] xs) (hm : m ≤ n) : (kS K).R w S [.slice (some (ad.add m)) (n - m) (c - m)] (xs.drop m) := by
  obtain ⟨A, c', e, ⟨h1, h2⟩, h3⟩ := rd_open hK h
  injection e with e1 e2 e3
  subst e1; subst e2; subst e3
  refine rd_mk hK (by simp) ⟨by omega, by omega⟩ fun j x hx => ?_
  rw [List.getElem?_drop] at hx
  obtain ⟨ad', u, e4, h5, h6, h7⟩ := h3 (m + j) x hx
  injection e4 with e4; subst e4
  exact ⟨_, u, rfl, by rw [add_block]; exact h5, h6, by rw [Go.Deep.add_add]; exact h7⟩
theorem kS_none {α : Type} (K : Kn α) (w : World) (S : Nat → Prop) (A : Option Addr) (c : Nat) (hc : c ≤ 9223372036854775807) : (kS K).R w S [.slice A 0 c] ([] : List α) :=
  ⟨A, 0, c, rfl, rfl, ⟨by omega, hc⟩, fun j x hx => by simp at hx⟩
set_option maxHeartbeats 4000000 in
set_option maxRecDepth 100000 in
theorem numbers_any (p N T : Nat) (vc vd vt vl vs : Value) (wh : Nat) (corrupt : List Int) (devs : List Dev) (tapes L : List (List Nat)) (spoil : List Nat) (w : World) (hc : (kS kI).R w Any [vc] corrupt) (hd : (kS kDev).R w Any [vd] devs) (ht : (kS (kS kU)).R w Any [vt] tapes) (hl : (kS (kS kU)).R w Any [vl] L) (hs : (kS kU).R w Any [vs] spoil)
    (hp : IsP p) (hN : N ≤ 13) (hNp : N < p) (hT : T ≤ 5) (hLl : L.length ≤ 3) (hSl : spoil.length ≤ 20) :
    Calls Tryd.prog 17 #[askVal p N T vc vd vt wh vl vs] w fun e w' => NumP p N T corrupt spoil L w e w' := by
  have hclow := (kS kI).low hc
  obtain ⟨Ac, cc, rfl, _, _⟩ := kS_len hc
  obtain ⟨Ad, cd, rfl, _, _⟩ := kS_len hd
  obtain ⟨At, ct, rfl, _, _⟩ := kS_len ht
  obtain ⟨Al, cl, rfl, ⟨hl1, hl2⟩, hrl⟩ := rd_open rfl ((kS (kS kU)).low hl)
  obtain ⟨As, cs, rfl, ⟨hs1, hs2⟩, hrs⟩ := rdU ((kS kU).low hs)
  obtain ⟨DL, hDL⟩ : ∃ D, D = L.length := ⟨_, rfl⟩
  obtain ⟨DS, hDS⟩ : ∃ D, D = spoil.length := ⟨_, rfl⟩
  obtain ⟨DC, hDC⟩ : ∃ D, D = corrupt.length := ⟨_, rfl⟩
  rw [← hDL] at hl1 hLl ⊢
  rw [← hDS] at hs1 hSl hrs ⊢
  rw [← hDC] at hclow ⊢
  have HDL := hide hDL; have HDS := hide hDS; have HDC := hide hDC; have HRL := hide hrl; have HRS := hide hrs; have HCL := hide hclow
  clear hDL hDS hDC hrl hrs hclow hc hd ht hl hs
  simp only [askVal]
  go_enter Tryd.func17, Tryd.ntmps17
  go_wp2_with fail
  obtain ⟨W0, hW0⟩ : ∃ W0, W0 = (w.alloc (.cells #[.int .u64 p, .int .i64 N, .int .i64 T, .slice Ac DC cc, .slice Ad devs.length cd, .slice At tapes.length ct, .int .u8 wh, .slice Al DL cl, .slice As DS cs] 32)).alloc (.cells #[.int .u64 p, .int .i64 N, .int .i64 T] 24) := ⟨_, rfl⟩
  have hs1' : (w.alloc (.cells #[.int .u64 p, .int .i64 N, .int .i64 T, .slice Ac DC cc, .slice Ad devs.length cd, .slice At tapes.length ct, .int .u8 wh, .slice Al DL cl, .slice As DS cs] 32)).heap.size = w.heap.size + 1 := by rw [Dr.alloc_heap, Array.size_push]
  have hsz : W0.heap.size = w.heap.size + 2 := by rw [hW0, Dr.alloc_heap, Array.size_push, hs1']
  have hB0 : Bl w W0 := by rw [hW0]; exact ((Below.refl _ _).alloc (Nat.le_refl _) _).alloc (by rw [hs1']; omega) _
  have hbox : ∀ i u, (#[.int .u64 p, .int .i64 N, .int .i64 T, .slice Ac DC cc, .slice Ad devs.length cd, .slice At tapes.length ct, .int .u8 wh, .slice Al DL cl, .slice As DS cs] : Array Value)[i]? = some u → W0.cell? ⟨w.heap.size, i, none⟩ = some u := fun i u hu => by
    rw [hW0]
    refine cell_bl ((Below.refl _ _).alloc (Nat.le_refl _) _) ?_
    rw [World.cell?_alloc_at _ _ _ _ rfl]; exact hu
  have hbp : ∀ i u, (#[.int .u64 p, .int .i64 N, .int .i64 T] : Array Value)[i]? = some u → W0.cell? ⟨w.heap.size + 1, i, none⟩ = some u := fun i u hu => by
    rw [hW0, ← hs1', World.cell?_alloc_at _ _ _ _ rfl]; exact hu
  rw [← hW0]
  have HSZ := hide hsz; have HB0 := hide hB0; have HBX := hide hbox; have HBP := hide hbp
  clear hW0 hs1' hsz hB0 hbox hbp
  have hlo := hp.lo
  have hhi := hp.hi
  go_loopw [4, 5] (fun s4 ix wr => ∃ k : Nat, k ≤ DL ∧ ix = .int .i64 k ∧ Bl W0 wr ∧ Ow (kT (kS (kS kU)) (fun b => w.heap.size ≤ b)) wr W0.heap.size 44 s4 ((List.range k).map (numSh p N T corrupt spoil L))) (fun _ ix _ => DL - (intOf ix).toNat)
  case atStart => exact ⟨0, by omega, rfl, Below.refl _ _, Ow.nil _ _ _ _⟩
  case round =>
    obtain ⟨k, hk, rfl, hB, hO⟩ := hrel
    have hBw := Bl.then HB0.out HB0.out.size hB
    have b7 := cell_bl hB (HBX.out 7 _ rfl)
    have f0 := cell_bl hB (HBP.out 0 _ rfl)
    have f1 := cell_bl hB (HBP.out 1 _ rfl)
    have f2 := cell_bl hB (HBP.out 2 _ rfl)
    by_cases hkD : k < DL
    · as_aux_lemma =>
      have hki : (k : Int) < (DL : Int) := by omega
      have hk0 : (0 : Int) ≤ (k : Int) := by omega
      obtain ⟨ad, u, rfl, _, hu, hcu⟩ := HRL.out k (L.getD k []) (by rw [List.getD_eq_getElem?_getD, List.getElem?_eq_getElem (by rw [← HDL.out]; exact hkD)]; rfl)
      have hcu := cell_bl hBw hcu
      have HU := hide hu
      obtain ⟨Au, cu, rfl, ⟨hu1, hu2⟩, hwd⟩ := rdU hu
      obtain ⟨M, hM⟩ : ∃ M, M = (L.getD k []).length := ⟨_, rfl⟩
      rw [← hM] at hcu hu1 hwd HU
      have HB := hide hB; have HO := hide hO; have HBW := hide hBw; have HM := hide hM; have HWD := hide hwd
      clear hB hO hBw hM hwd hu
      go_upto_if 28 with fail
      go_cut [6, 7] (fun s6 s7 wx => Dr wr wx ∧ s6 = .int .u64 (secK L k : Nat) ∧ (kS kU).R w (fun b => b < w.heap.size) [s7] (wrdK L k))
      case first => as_aux_lemma =>
        by_cases hM0 : 0 < M
        · have hMi : (0 : Int) < (M : Int) := by omega
          obtain ⟨au, rfl, _, hc0, hlt0⟩ := HWD.out 0 (by omega)
          have hc0 := cell_bl HBW.out hc0
          have hsec : secK L k = (L.getD k []).getD 0 0 := rfl
          have h1M : (1 : Int) ≤ (M : Int) := by omega
          have h1c : (1 : Int) ≤ (cu : Int) := by omega
          have hMc : (M : Int) ≤ (cu : Int) := by omega
          rw [← hsec] at hc0
          have hc00 := hc0
          rw [add_zero'] at hc00
          have hdrop := kS_drop rfl HU.out (show 1 ≤ M by omega)
          have HDR := hide hdrop
          clear hsec hdrop
          by_cases hc1 : cu = 1
          · obtain rfl : M = 1 := by omega
            subst hc1
            go_wp2_with fail
            go_quiet (fail)
            all_goals go_wp2_with fail
            all_goals go_meet
            exact ⟨⟨_, rfl⟩, rfl, by
              rw [show wrdK L k = [] from List.drop_eq_nil_of_le (by rw [← HM.out]; exact Nat.le_refl _)]
              exact kS_none _ _ _ _ _ (by omega)⟩
          · have hc1i : ¬ (cu : Int) = 1 := by omega
            have hc1j : ¬ (1 : Int) = (cu : Int) := by omega
            go_wp2_with fail
            go_quiet (fail)
            all_goals go_wp2_with fail
            all_goals go_meet
            have hd := HDR.out
            rw [show au.add 1 = ⟨au.block, au.off + 1, none⟩ by rw [add_succ au 0, add_zero']] at hd
            exact ⟨⟨_, rfl⟩, rfl, hd⟩
        · have hM0' : M = 0 := by omega
          have hnil : L.getD k [] = [] := List.eq_nil_of_length_eq_zero (by rw [← HM.out]; exact hM0')
          have e1 : secK L k = 0 := by unfold secK; rw [hnil]; rfl
          have e2 : wrdK L k = [] := by unfold wrdK; rw [hnil]; rfl
          have E1 := hide e1; have E2 := hide e2
          clear hnil e1 e2
          have hMi : ¬ (0 : Int) < (M : Int) := by omega
          clear hM0'
          go_wp2_with fail
          go_meet
          exact ⟨Dr.refl _, by rw [E1.out]; rfl, by rw [E2.out]; exact kS_nil _ _ _⟩
      case rest => as_aux_lemma =>
        obtain ⟨hD, rfl, hr7⟩ := hcut
        have hr7c := (kS kU).bl hr7 (Bl.dr HBW.out hD)
        have hsec : secK L k < 18446744073709551616 := by
          by_cases hM0 : 0 < M
          · exact (HWD.out 0 (by omega)).elim fun _ h => h.2.2.2
          · have hnil : L.getD k [] = [] := List.eq_nil_of_length_eq_zero (by rw [← HM.out]; omega)
            unfold secK; rw [hnil]; decide
        rw [← hD.cell] at f0 f1 f2
        have hns := nshare_any p N T (secK L k) u7 (wrdK L k) _ wc hp hT (by omega) hNp hsec hr7c
        obtain ⟨A7, c7, hs7, _, _⟩ := kS_len hr7
        obtain ⟨n7, hn7⟩ : ∃ n, n = (wrdK L k).length := ⟨_, rfl⟩
        rw [← hn7] at hs7
        subst hs7
        have hBc : Bl W0 wc := Bl.dr HB.out hD
        have hOc := HO.out.dr hD
        obtain ⟨Bc, hBce⟩ : ∃ B, B = wc.heap.size := ⟨_, rfl⟩
        have hBcw : w.heap.size ≤ Bc := by rw [hBce]; exact Nat.le_trans HB0.out.size hBc.size
        have HBE := hide hBce; have HBW0 := hide hBcw
        have HNS := hide hns; have HBC := hide hBc; have HOC := hide hOc
        clear hBce hBcw
        clear hns hBc hOc hr7 hr7c hsec hD HB HO HBW hn7 hcu b7
        go_wp2_with fail
        refine HNS.out.mono ?_
        rintro e w5 ⟨hB5, v8, rfl, hO8⟩
        have hBw5 := Bl.then HBC.out HBC.out.size hB5
        obtain ⟨A8, c8, rfl, _, hr8⟩ := rd_open rfl hO8.reads
        rw [List.length_map, List.length_range]
        have hBc5 : Bc ≤ w5.heap.size := by rw [HBE.out]; exact hB5.size
        have HR8 := hide hr8; have HB5 := hide hB5; have HBW5 := hide hBw5; have HBC5 := hide hBc5
        clear hr8 hB5 hBw5 hO8 hBc5
        go_wp2_with fail
        go_loopw [9, 10] (fun s9 ix wx => ∃ i : Nat, i ≤ N ∧ ix = .int .i64 ((i : Int) + 1) ∧ Bl w5 wx ∧ Ow (kT (kS kU) (fun b => Bc ≤ b)) wx w5.heap.size 30 s9 ((List.range i).map fun i => numRow p T corrupt spoil L k i)) (fun _ ix _ => N + 1 - (intOf ix).toNat)
        case atStart => exact ⟨0, by omega, rfl, Below.refl _ _, Ow.nil _ _ _ _⟩
        case round =>
          obtain ⟨i, hi, rfl, hBi, hOi⟩ := hrel
          have hBwi : Bl W0 wr := Bl.then HBW5.out HBW5.out.size hBi
          have g1 := cell_bl hBwi (HBP.out 1 _ rfl)
          by_cases hiN : i < N
          · as_aux_lemma =>
            obtain ⟨ad8, u8, rfl, _, hu8, hcu8⟩ := HR8.out i (rowB p (T + 1) (nsM p T (secK L k) (wrdK L k)) (i + 1)) (by rw [List.getElem?_map, List.getElem?_range hiN]; rfl)
            have hcu8 := cell_bl hBi hcu8
            have hu8 : (kS kU).R w5 (fun b => Any b ∧ wc.heap.size ≤ b) [u8] (rowB p (T + 1) (nsM p T (secK L k) (wrdK L k)) (i + 1)) := hu8
            have hrow := (kS kU).kp ((kS kU).sub hu8 (S' := fun b => Bc ≤ b ∧ b < w5.heap.size) fun b hl hb => ⟨by rw [HBE.out]; exact hb.2, hl⟩) (hBi.kp _)
            obtain ⟨A11, c11, rfl, _, _⟩ := kS_len hrow
            obtain ⟨A9, c9, hv9, _, _⟩ := hOi.slice
            rw [List.length_map, List.length_range] at hv9
            subst hv9
            have hBwr := HB0.out.trans (hBwi.mono HB0.out.size)
            have hhon := honest_any p N T (.slice Ac DC cc) (.slice Ad devs.length cd) (.slice At tapes.length ct) corrupt ((i : Int) + 1) _ wr ((kS kI).bl HCL.out hBwr)
            simp only [scVal] at hhon
            have q0 := cell_bl hBwi (HBX.out 0 _ rfl)
            have q1 := cell_bl hBwi (HBX.out 1 _ rfl)
            have q2 := cell_bl hBwi (HBX.out 2 _ rfl)
            have q3 := cell_bl hBwi (HBX.out 3 _ rfl)
            have q4 := cell_bl hBwi (HBX.out 4 _ rfl)
            have q5 := cell_bl hBwi (HBX.out 5 _ rfl)
            have q8 := cell_bl hBwi (HBX.out 8 _ rfl)
            have g0 := cell_bl hBwi (HBP.out 0 _ rfl)
            have g2 := cell_bl hBwi (HBP.out 2 _ rfl)
            have hii : (i : Int) + 1 ≤ (N : Int) := by omega
            have hiN2 : (i : Int) < (N : Int) := by omega
            have hi0 : (0 : Int) ≤ (i : Int) := by omega
            have HROW := hide hrow; have HBWR := hide hBwr; have HHON := hide hhon; have HBI := hide hBi; have HOI := hide hOi; have HBWI := hide hBwi
            clear hrow hBwr hhon hBi hOi hBwi hu8
            go_upto_region 16 with fail
            go_cut [67] (fun s67 wx => Bl wr wx ∧ s67 = .bool (decide (((i : Int) + 1) ∈ corrupt ∧ 0 < DS)))
            case first => as_aux_lemma =>
              by_cases hbad : ((i : Int) + 1) ∈ corrupt
              · have hh2 := HHON.out.mono (R' := fun e w' => e = .returned (.bool false) ∧ Bl wr w') (fun e w' h => ⟨by rw [h.1, decide_eq_true hbad]; rfl, h.2⟩)
                have HH2 := hide hh2; clear hh2
                by_cases hDS0 : 0 < DS
                · have hDSi : (0 : Int) < (DS : Int) := by omega
                  have hval : decide (((i : Int) + 1) ∈ corrupt ∧ 0 < DS) = true := decide_eq_true ⟨hbad, hDS0⟩
                  have HV := hide hval; clear hval hbad
                  go_wp2_with fail
                  refine HH2.out.mono ?_
                  rintro e w6 ⟨rfl, hB6⟩
                  have q86 := cell_bl hB6 q8
                  go_wp2_with fail
                  go_meet
                  exact ⟨hB6, by rw [HV.out]⟩
                · have hDSi : ¬ (0 : Int) < (DS : Int) := by omega
                  have hval : decide (((i : Int) + 1) ∈ corrupt ∧ 0 < DS) = false := decide_eq_false fun h => hDS0 h.2
                  have HV := hide hval; have HD0 := hide hDS0; clear hval hbad hDS0
                  go_wp2_with fail
                  refine HH2.out.mono ?_
                  rintro e w6 ⟨rfl, hB6⟩
                  have q86 := cell_bl hB6 q8
                  go_wp2_with fail
                  go_meet
                  exact ⟨hB6, by rw [HV.out, decide_eq_false HD0.out]⟩
              · have hh2 := HHON.out.mono (R' := fun e w' => e = .returned (.bool true) ∧ Bl wr w') (fun e w' h => ⟨by rw [h.1, decide_eq_false hbad]; rfl, h.2⟩)
                have hval : decide (((i : Int) + 1) ∈ corrupt ∧ 0 < DS) = false := decide_eq_false fun h => hbad h.1
                have HH2 := hide hh2; have HV := hide hval
                clear hh2 hval hbad
                go_wp2_with fail
                refine HH2.out.mono ?_
                rintro e w6 ⟨rfl, hB6⟩
                go_wp2_with fail
                go_meet
                exact ⟨hB6, by rw [HV.out]⟩
            case rest => as_aux_lemma =>
              obtain ⟨hB7, rfl⟩ := hcut
              have g0 := cell_bl hB7 g0
              have g1 := cell_bl hB7 g1
              have g2 := cell_bl hB7 g2
              have q8 := cell_bl hB7 q8
              have HB7 := hide hB7; clear hB7 q0 q1 q2 q3 q4 q5
              obtain ⟨bb, hbb⟩ : ∃ bb, bb = decide (((i : Int) + 1) ∈ corrupt ∧ 0 < DS) := ⟨_, rfl⟩
              rw [← hbb]
              have HBB := hide hbb; clear hbb
              go_upto_if 67 with fail
              go_cut [11] (fun s11 wx => Bl wc wx ∧ (kS kU).R wx (fun b => Bc ≤ b ∧ (b < w5.heap.size ∨ wr.heap.size ≤ b)) [s11] (numRow p T corrupt spoil L k i))
              case first => as_aux_lemma =>
                cases bb with
                | false =>
                  have hno := of_decide_eq_false HBB.out.symm
                  have hnr : numRow p T corrupt spoil L k i = rowB p (T + 1) (nsM p T (secK L k) (wrdK L k)) (i + 1) := by
                    unfold numRow; rw [if_neg (by rw [← HDS.out]; exact hno)]
                  have HNR := hide hnr; clear hno hnr
                  go_wp2_with fail
                  go_meet
                  rw [HNR.out]
                  exact ⟨Below.refl _ _, (kS kU).sub ((kS kU).kp HROW.out (HB7.out.kp _)) fun b _ hb => ⟨hb.1, .inl hb.2⟩⟩
                | true =>
                  have hyes := of_decide_eq_true HBB.out.symm
                  have hnr : numRow p T corrupt spoil L k i = (spoil.getD ((i + 1 + k) % DS) 0 % p) :: List.replicate T 0 := by
                    unfold numRow; rw [if_pos (by rw [← HDS.out]; exact hyes), HDS.out]
                  have hDS0 : 0 < DS := hyes.2
                  have hql : (i + 1 + k) % DS < DS := Nat.mod_lt _ hDS0
                  obtain ⟨s, hs⟩ : ∃ s, s = i + 1 + k := ⟨_, rfl⟩
                  rw [← hs] at hql hnr
                  obtain ⟨q, hq⟩ : ∃ q, q = s % DS := ⟨_, rfl⟩
                  rw [← hq] at hql hnr
                  obtain ⟨ads, rfl, _, hcs, hx64⟩ := HRS.out q hql
                  obtain ⟨x, hx⟩ : ∃ x, x = spoil.getD q 0 := ⟨_, rfl⟩
                  rw [← hx] at hcs hx64 hnr
                  obtain ⟨y, hy⟩ : ∃ y, y = x % p := ⟨_, rfl⟩
                  have hyp : y < p := by rw [hy]; exact Nat.mod_lt _ (by omega)
                  rw [← hy] at hnr
                  have hcs := cell_bl HB7.out (cell_bl HBWR.out hcs)
                  have hsi : (i : Int) + 1 + (k : Int) = (s : Int) := by omega
                  have hsw : IntKind.i64.wrap (s : Int) = (s : Int) := by rw [IntWalk.i64_in _ (by omega)]
                  have hqm : (s : Int).tmod (DS : Int) = (q : Int) := by rw [hq]; rfl
                  have hqw : IntKind.i64.wrap (q : Int) = (q : Int) := by rw [IntWalk.i64_in _ (by omega)]
                  have hym : (x : Int).tmod (p : Int) = (y : Int) := by rw [hy]; rfl
                  have hyw : IntKind.u64.wrap (y : Int) = (y : Int) := by rw [IntWalk.u64_in _ (by omega)]
                  have hDSz : ¬ (DS : Int) = 0 := by omega
                  have hDSn : ¬ DS = 0 := by omega
                  have hpn : ¬ p = 0 := by omega
                  have hpz : ¬ (p : Int) = 0 := by omega
                  have hqi : (q : Int) < (DS : Int) := by omega
                  have hq0 : (0 : Int) ≤ (q : Int) := by omega
                  obtain ⟨T1, hT1⟩ : ∃ T1, T1 = T + 1 := ⟨_, rfl⟩
                  have hT1i : (T : Int) + 1 = (T1 : Int) := by omega
                  have hT1p : 0 < T1 := by omega
                  have hT16 : T1 ≤ 6 := by omega
                  have hT1p' : (0 : Int) < (T1 : Int) := by omega
                  have HNR := hide hnr; have HT1 := hide hT1
                  clear hyes hnr hs hq hx hy hT1
                  go_wp2_with (at_make; refine Ow.make kU (w0 := wc) wc.heap.size rfl _ _ 30 22 (.int .u64 0) 8 rfl Tryd.underlying30 cu64info rfl rfl T1 rfl rfl (by omega) (by decide) 0 (fun _ _ => ⟨rfl, by omega⟩) (Below.refl _ _) (Nat.le_refl _) ?_)
                  intro w1 hO1 hB1'
                  have q81 := cell_bl hB1' q8
                  have g01 := cell_bl hB1' g0
                  have hcs1 := cell_bl hB1' hcs
                  have hat := hO1.atU 0 (by rw [List.length_replicate]; exact hT1p)
                  have cv7 := hat.1
                  have cf7 := hat.2.1
                  clear hat
                  have HO1 := hide hO1; have HB1 := hide hB1'; clear hO1 hB1'
                  go_wp2_with fail
                  refine wp_region_last (n := 16) (fun w' => w'.cell? ⟨w.heap.size, 8, none⟩ = some (.slice (some ads) DS cs) ∧ w'.cell? ⟨w.heap.size + 1, 0, none⟩ = some (.int .u64 p) ∧ w'.cell? (ads.add q) = some (.int .u64 (x : Nat))) (by kernel_rfl) (by kernel_rfl) (by kernel_rfl) rfl ⟨q81, g01, hcs1⟩ (fun hHeld => ?_)
                  refine wpAnyH_take (i := 0) (oi := { dst := some 72, op := Go.Op.move (Go.Operand.tmp 11), type := 30, pos := _, after := _, guard := none }) (v := ?_) rfl (by kernel_rfl) (by kernel_rfl) (by kernel_rfl) (fun _ _ _ h => h) (Or.inl ⟨by rfl, ?_⟩) (by assumption) ?_
                  rotate_left
                  · (intro w hSw; (try dsimp only at hSw); go_simp; (try (with_reducible rfl)))
                  try simp only [Act.put, List.setIfInBounds_toArray, List.set_cons_zero, List.set_cons_succ]
                  refine wpAnyH_take (i := 1) (oi := { dst := some 73, op := Go.Op.fieldAddr 32 (Go.Operand.tmp 1) 3, type := 0, pos := _, after := _, guard := none }) (v := ?_) rfl (by kernel_rfl) (by kernel_rfl) (by kernel_rfl) (fun _ _ _ h => h) (Or.inl ⟨by rfl, ?_⟩) (by assumption) ?_
                  rotate_left
                  · (intro w hSw; (try dsimp only at hSw); go_simp; (try (with_reducible rfl)))
                  try simp only [Act.put, List.setIfInBounds_toArray, List.set_cons_zero, List.set_cons_succ]
                  refine wpAnyH_take (i := 2) (oi := { dst := some 74, op := Go.Op.load 30 (Go.Operand.tmp 73), type := 30, pos := _, after := _, guard := none }) (v := ?_) rfl (by kernel_rfl) (by kernel_rfl) (by kernel_rfl) (fun _ _ _ h => h) (Or.inl ⟨by rfl, ?_⟩) (by assumption) ?_
                  rotate_left
                  · (intro w hSw; (try dsimp only at hSw); go_simp; (try (with_reducible rfl)))
                  try simp only [Act.put, List.setIfInBounds_toArray, List.set_cons_zero, List.set_cons_succ]
                  refine wpAnyH_take (i := 3) (oi := { dst := some 75, op := Go.Op.move (Go.Operand.tmp 10), type := 3, pos := _, after := _, guard := none }) (v := ?_) rfl (by kernel_rfl) (by kernel_rfl) (by kernel_rfl) (fun _ _ _ h => h) (Or.inl ⟨by rfl, ?_⟩) (by assumption) ?_
                  rotate_left
                  · (intro w hSw; (try dsimp only at hSw); go_simp; (try (with_reducible rfl)))
                  try simp only [Act.put, List.setIfInBounds_toArray, List.set_cons_zero, List.set_cons_succ]
                  refine wpAnyH_take (i := 4) (oi := { dst := some 76, op := Go.Op.move (Go.Operand.tmp 5), type := 3, pos := _, after := _, guard := none }) (v := ?_) rfl (by kernel_rfl) (by kernel_rfl) (by kernel_rfl) (fun _ _ _ h => h) (Or.inl ⟨by rfl, ?_⟩) (by assumption) ?_
                  rotate_left
                  · (intro w hSw; (try dsimp only at hSw); go_simp; (try (with_reducible rfl)))
                  try simp only [Act.put, List.setIfInBounds_toArray, List.set_cons_zero, List.set_cons_succ]
                  refine wpAnyH_take (i := 5) (oi := { dst := some 77, op := Go.Op.binOp Go.BinOp.add 3 (Go.Operand.tmp 75) (Go.Operand.tmp 76) 3, type := 3, pos := _, after := _, guard := none }) (v := ?_) rfl (by kernel_rfl) (by kernel_rfl) (by kernel_rfl) (fun _ _ _ h => h) (Or.inl ⟨by rfl, ?_⟩) (by assumption) ?_
                  rotate_left
                  · (intro w hSw; (try dsimp only at hSw); go_simp; (try (with_reducible rfl)))
                  try simp only [Act.put, List.setIfInBounds_toArray, List.set_cons_zero, List.set_cons_succ]
                  refine wpAnyH_take (i := 6) (oi := { dst := some 78, op := Go.Op.fieldAddr 32 (Go.Operand.tmp 1) 3, type := 0, pos := _, after := _, guard := none }) (v := ?_) rfl (by kernel_rfl) (by kernel_rfl) (by kernel_rfl) (fun _ _ _ h => h) (Or.inl ⟨by rfl, ?_⟩) (by assumption) ?_
                  rotate_left
                  · (intro w hSw; (try dsimp only at hSw); go_simp; (try (with_reducible rfl)))
                  try simp only [Act.put, List.setIfInBounds_toArray, List.set_cons_zero, List.set_cons_succ]
                  refine wpAnyH_take (i := 7) (oi := { dst := some 79, op := Go.Op.load 30 (Go.Operand.tmp 78), type := 30, pos := _, after := _, guard := none }) (v := ?_) rfl (by kernel_rfl) (by kernel_rfl) (by kernel_rfl) (fun _ _ _ h => h) (Or.inl ⟨by rfl, ?_⟩) (by assumption) ?_
                  rotate_left
                  · (intro w hSw; (try dsimp only at hSw); go_simp; (try (with_reducible rfl)))
                  try simp only [Act.put, List.setIfInBounds_toArray, List.set_cons_zero, List.set_cons_succ]
                  refine wpAnyH_take (i := 8) (oi := { dst := some 80, op := Go.Op.call { callee := Go.Callee.builtin Go.Builtin.len, args := #[Go.Operand.tmp 79], argTypes := #[30] }, type := 3, pos := _, after := _, guard := none }) (v := ?_) rfl (by kernel_rfl) (by kernel_rfl) (by kernel_rfl) (fun _ _ _ h => h) (Or.inl ⟨by rfl, ?_⟩) (by assumption) ?_
                  rotate_left
                  · (intro w hSw; (try dsimp only at hSw); go_simp; (try (with_reducible rfl)))
                  try simp only [Act.put, List.setIfInBounds_toArray, List.set_cons_zero, List.set_cons_succ]
                  refine wpAnyH_take (i := 9) (oi := { dst := some 81, op := Go.Op.binOp Go.BinOp.rem 3 (Go.Operand.tmp 77) (Go.Operand.tmp 80) 3, type := 3, pos := _, after := _, guard := none }) (v := ?_) rfl (by kernel_rfl) (by kernel_rfl) (by kernel_rfl) (fun _ _ _ h => h) (Or.inl ⟨by rfl, ?_⟩) (by assumption) ?_
                  rotate_left
                  · (intro w hSw; (try dsimp only at hSw); go_simp; (try (with_reducible rfl)))
                  try simp only [Act.put, List.setIfInBounds_toArray, List.set_cons_zero, List.set_cons_succ]
                  refine wpAnyH_take (i := 10) (oi := { dst := some 82, op := Go.Op.indexAddr 30 (Go.Operand.tmp 74) (Go.Operand.tmp 81), type := 0, pos := _, after := _, guard := none }) (v := ?_) rfl (by kernel_rfl) (by kernel_rfl) (by kernel_rfl) (fun _ _ _ h => h) (Or.inl ⟨by rfl, ?_⟩) (by assumption) ?_
                  rotate_left
                  · (intro w hSw; (try dsimp only at hSw); go_simp; (try (with_reducible rfl)))
                  try simp only [Act.put, List.setIfInBounds_toArray, List.set_cons_zero, List.set_cons_succ]
                  refine wpAnyH_take (i := 11) (oi := { dst := some 83, op := Go.Op.load 22 (Go.Operand.tmp 82), type := 22, pos := _, after := _, guard := none }) (v := ?_) rfl (by kernel_rfl) (by kernel_rfl) (by kernel_rfl) (fun _ _ _ h => h) (Or.inl ⟨by rfl, ?_⟩) (by assumption) ?_
                  rotate_left
                  · (intro w hSw; (try dsimp only at hSw); go_simp; (try (with_reducible rfl)))
                  try simp only [Act.put, List.setIfInBounds_toArray, List.set_cons_zero, List.set_cons_succ]
                  refine wpAnyH_take (i := 12) (oi := { dst := some 84, op := Go.Op.fieldAddr 24 (Go.Operand.tmp 3) 0, type := 0, pos := _, after := _, guard := none }) (v := ?_) rfl (by kernel_rfl) (by kernel_rfl) (by kernel_rfl) (fun _ _ _ h => h) (Or.inl ⟨by rfl, ?_⟩) (by assumption) ?_
                  rotate_left
                  · (intro w hSw; (try dsimp only at hSw); go_simp; (try (with_reducible rfl)))
                  try simp only [Act.put, List.setIfInBounds_toArray, List.set_cons_zero, List.set_cons_succ]
                  refine wpAnyH_take (i := 13) (oi := { dst := some 85, op := Go.Op.load 22 (Go.Operand.tmp 84), type := 22, pos := _, after := _, guard := none }) (v := ?_) rfl (by kernel_rfl) (by kernel_rfl) (by kernel_rfl) (fun _ _ _ h => h) (Or.inl ⟨by rfl, ?_⟩) (by assumption) ?_
                  rotate_left
                  · (intro w hSw; (try dsimp only at hSw); go_simp; (try (with_reducible rfl)))
                  try simp only [Act.put, List.setIfInBounds_toArray, List.set_cons_zero, List.set_cons_succ]
                  refine wpAnyH_take (i := 14) (oi := { dst := some 86, op := Go.Op.binOp Go.BinOp.rem 22 (Go.Operand.tmp 83) (Go.Operand.tmp 85) 22, type := 22, pos := _, after := _, guard := none }) (v := ?_) rfl (by kernel_rfl) (by kernel_rfl) (by kernel_rfl) (fun _ _ _ h => h) (Or.inl ⟨by rfl, ?_⟩) (by assumption) ?_
                  rotate_left
                  · (intro w hSw; (try dsimp only at hSw); go_simp; (try (with_reducible rfl)))
                  try simp only [Act.put, List.setIfInBounds_toArray, List.set_cons_zero, List.set_cons_succ]
                  refine wpAnyH_take (i := 15) (oi := { dst := some 87, op := Go.Op.indexAddr 30 (Go.Operand.tmp 72) (Go.Operand.const (Go.Value.int Go.IntKind.i64 0)), type := 0, pos := _, after := _, guard := none }) (v := ?_) rfl (by kernel_rfl) (by kernel_rfl) (by kernel_rfl) (fun _ _ _ h => h) (Or.inl ⟨by rfl, ?_⟩) (by assumption) ?_
                  rotate_left
                  · (intro w hSw; (try dsimp only at hSw); go_simp; (try (with_reducible rfl)))
                  try simp only [Act.put, List.setIfInBounds_toArray, List.set_cons_zero, List.set_cons_succ]
                  refine wpAnyH_done (by kernel_rfl) ?_ _
                  refine lastQ_normal ?_
                  refine wpOp_step (i := 16) (o := { dst := none, op := Go.Op.store 22 (Go.Operand.tmp 87) (Go.Operand.tmp 86), type := 0, pos := _, after := _, guard := none }) rfl (fun K hK => ?_)
                  go_simp
                  refine hK _ _ ?_
                  clear hK K
                  go_wp2_with fail
                  go_meet
                  have hO2 := (HO1.out.dr (Dr.one (Dr.refl w1))).storedU 0 (by rw [List.length_replicate]; exact hT1p) y (by omega)
                  have hBs : Bl wc (w1.drew.setCell ⟨wc.heap.size, 0, none⟩ (.int .u64 (y : Int))) := (Bl.dr HB1.out (Dr.one (Dr.refl w1))).setCell (Nat.le_refl _) _
                  refine ⟨hBs, ?_⟩
                  rw [HNR.out]
                  have hset : (List.replicate T1 0).set 0 y = y :: List.replicate T 0 := by rw [HT1.out, List.replicate_succ]; rfl
                  have hO3 := hO2.1
                  rw [hset] at hO3
                  exact hO3.readsU _ fun b hb => by
                    have := (hO3.base b hb).1
                    exact ⟨Nat.le_trans HBC5.out (Nat.le_trans HBI.out.size (Nat.le_trans HB7.out.size this)), .inr (Nat.le_trans HB7.out.size this)⟩
              case rest => as_aux_lemma =>
                obtain ⟨hB9, hr11⟩ := hcut
                obtain ⟨A10, c10, hv10, _, _⟩ := kS_len hr11
                obtain ⟨n10, hn10⟩ : ∃ n, n = (numRow p T corrupt spoil L k i).length := ⟨_, rfl⟩
                rw [← hn10] at hv10
                subst hv10
                clear hn10
                have hBa := HB7.out.trans (hB9.mono HB7.out.size)
                have hB5a := HBI.out.trans (hBa.mono HBI.out.size)
                have hOa := HOI.out.bl hBa
                have hX : (kT (kS kU) (fun b => Bc ≤ b)).R wc (Ne (Value.slice A9 i c9).ownBlock) [.slice A10 n10 c10] (numRow p T corrupt spoil L k i) :=
                  show (kS kU).R wc (fun b => Ne (Value.slice A9 i c9).ownBlock b ∧ Bc ≤ b) _ _ from (kS kU).sub hr11 fun b _ hb => ⟨fun e => by
                    have h1 := HOI.out.base b e.symm
                    rcases hb.2 with h | h <;> omega, hb.1⟩
                have hl24 : (((List.range i).map fun i => numRow p T corrupt spoil L k i).length + 1) * 24 ≤ 140737488355328 := by rw [List.length_map, List.length_range]; omega
                have HX := hide hX; have HOA := hide hOa; have HB5A := hide hB5a; have HL24 := hide hl24
                clear hX hOa hB5a hr11 hBa hB9 hl24
                go_wp2_with (at_builtin; refine Ow.append (kT (kS kU) (fun b => Bc ≤ b)) (w0 := w5) w5.heap.size rfl (.tmp 88) (.tmp 90) 44 30 (.slice none 0 0) 24 rfl Tryd.underlying44 crowinfo rfl (.slice A9 i c9) ((List.range i).map fun i => numRow p T corrupt spoil L k i) [.slice A10 n10 c10] (numRow p T corrupt spoil L k i) rfl rfl HOA.out HB5A.out HB5A.out.size HX.out HL24.out (by decide) ?_)
                intro v9 w9 hO9 hB9 _ _
                have hO10 : Ow (kT (kS kU) (fun b => Bc ≤ b)) w9 w5.heap.size 30 v9 ((List.range (i + 1)).map fun i => numRow p T corrupt spoil L k i) := by
                  rw [List.range_succ, List.map_append]; exact hO9
                have HO10 := hide hO10; have HB9 := hide hB9
                clear hO9 hO10 hB9
                go_wp2_with fail
                go_round
                case rel => exact ⟨i + 1, by omega, by go_num, HB9.out, HO10.out⟩
                case measure => simp [intOf]; omega
          · as_aux_lemma =>
            obtain rfl : i = N := by omega
            have hni : ¬ (i : Int) + 1 ≤ (i : Int) := by omega
            obtain ⟨A9, c9, hv9, _, _⟩ := hOi.slice
            rw [List.length_map, List.length_range] at hv9
            subst hv9
            obtain ⟨A4, c4, hv4, _, _⟩ := HOC.out.slice
            rw [List.length_map, List.length_range] at hv4
            subst hv4
            have hBcr := Bl.then HB5.out HB5.out.size hBi
            have hOcr := HOC.out.bl hBcr
            have hB0r := Bl.then HBC.out HBC.out.size hBcr
            have hX : (kT (kS (kS kU)) (fun b => w.heap.size ≤ b)).R wr (Ne (Value.slice A4 k c4).ownBlock) [.slice A9 i c9] (numSh p i T corrupt spoil L k) := by
              show (kS (kS kU)).R wr (fun b => Ne (Value.slice A4 k c4).ownBlock b ∧ w.heap.size ≤ b) _ _
              have hne : ∀ b, Bc ≤ b → Ne (Value.slice A4 k c4).ownBlock b ∧ w.heap.size ≤ b := fun b hb => ⟨fun e => by
                have h1 := (HOC.out.base b e.symm).2
                rw [HBE.out] at hb; omega, Nat.le_trans HBW0.out hb⟩
              exact kS_unT (hOi.readsIn _ (fun b hb => hne b (Nat.le_trans HBC5.out (hOi.base b hb).1)) fun u x _ hR => (kS kU).sub (S := fun b => Ne (Value.slice A9 i c9).ownBlock b ∧ Bc ≤ b) (S' := fun b => (Ne (Value.slice A4 k c4).ownBlock b ∧ w.heap.size ≤ b) ∧ Bc ≤ b) hR fun b _ hb => ⟨hne b hb.2, hb.2⟩)
            have hl24 : (((List.range k).map (numSh p i T corrupt spoil L)).length + 1) * 24 ≤ 140737488355328 := by rw [List.length_map, List.length_range]; omega
            have HX := hide hX; have HOCR := hide hOcr; have HB0R := hide hB0r; have HL24 := hide hl24
            clear hX hOcr hB0r hBcr hl24 hOi hBi hBwi
            go_wp2_with (at_builtin; refine Ow.append (kT (kS (kS kU)) (fun b => w.heap.size ≤ b)) (w0 := W0) W0.heap.size rfl (.tmp 92) (.tmp 94) 40 44 (.slice none 0 0) 24 rfl Tryd.underlying40 shainfo rfl (.slice A4 k c4) ((List.range k).map (numSh p i T corrupt spoil L)) [.slice A9 i c9] (numSh p i T corrupt spoil L k) rfl rfl HOCR.out HB0R.out HB0R.out.size HX.out HL24.out (by decide) ?_)
            intro v9 w9 hO9 hB9 _ _
            have hO10 : Ow (kT (kS (kS kU)) (fun b => w.heap.size ≤ b)) w9 W0.heap.size 44 v9 ((List.range (k + 1)).map (numSh p i T corrupt spoil L)) := by
              rw [List.range_succ, List.map_append]; exact hO9
            have HO10 := hide hO10; have HB9 := hide hB9
            clear hO9 hO10 hB9
            go_wp2_with fail
            go_round
            case rel => exact ⟨k + 1, by omega, by go_num, HB9.out, HO10.out⟩
            case measure => simp [intOf]; omega
    · as_aux_lemma =>
      have hkN' : k = DL := by omega
      subst hkN'
      have hres : (kS (kS (kS kU))).R wr (fun b => w.heap.size ≤ b) [u4] (numL p N T corrupt spoil L) := by
        unfold numL; rw [← HDL.out]
        exact kS_unT (hO.readsIn _ (fun b hb => Nat.le_trans HB0.out.size (hO.base b hb).1) fun u x _ hR => (kS (kS kU)).sub (S := fun b => Ne u4.ownBlock b ∧ w.heap.size ≤ b) (S' := fun b => w.heap.size ≤ b ∧ w.heap.size ≤ b) hR fun b _ hb => ⟨hb.2, hb.2⟩)
      have HRES := hide hres; have HBW := hide hBw
      obtain ⟨A4, c4, hv4, _, _⟩ := hO.slice
      rw [List.length_map, List.length_range] at hv4
      subst hv4
      clear hres hO hB hBw
      go_wp2_with fail
      go_ret
      exact ⟨HBW.out, _, rfl, HRES.out⟩
end Pv
