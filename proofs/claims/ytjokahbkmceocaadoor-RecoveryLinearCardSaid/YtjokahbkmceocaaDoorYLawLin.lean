import Derived.Test.YtjokahbkmceocaaDoorYLawMsgs
import Derived.Test.YtjokahbkmceocaaDoorYLawOthers
import Derived.Test.YtjokahbkmceocaaDoorZj
import Derived.Test.YtjokahbkmceocaaDoorZa
import Derived.Deep.RegionHeld
set_option linter.unusedVariables false
set_option linter.unusedSimpArgs false
namespace Pv
open Go Go.RowKit Go.Proofs

/-- the polynomial of sharing k; the third one is the sum of the two -/
def linA (p T : Nat) (L : List (List Nat)) (k : Nat) : Nat → Nat → Nat := nsM p T (secK L k) (wrdK L k)
def linM (p T : Nat) (L : List (List Nat)) (k : Nat) : Nat → Nat → Nat := if k = 2 then fun i j => fadd p (linA p T L 0 i j) (linA p T L 1 i j) else linA p T L k
def linR (p T : Nat) (L : List (List Nat)) (k x : Nat) : List Nat := rowB p (T + 1) (linM p T L k) x
theorem linR_len (p T : Nat) (L : List (List Nat)) (k x : Nat) : (linR p T L k x).length = T + 1 := rowB_len _ _ _ _
/-- the first j entries of the sum's row -/
def sumTo (p T : Nat) (L : List (List Nat)) (x j : Nat) : List Nat := (List.range j).map fun j => fadd p ((linR p T L 0 x).getD j 0) ((linR p T L 1 x).getD j 0)
theorem sumTo_len (p T : Nat) (L : List (List Nat)) (x j : Nat) : (sumTo p T L x j).length = j := by simp [sumTo]
theorem sumTo_end {p : Nat} (hp : 0 < p) (T : Nat) (L : List (List Nat)) (x : Nat) : sumTo p T L x (T + 1) = linR p T L 2 x := (rowB_add hp (T + 1) (linA p T L 0) (linA p T L 1) x).symm
theorem sumTo_succ (p T : Nat) (L : List (List Nat)) (x j : Nat) : sumTo p T L x (j + 1) = sumTo p T L x j ++ [fadd p ((linR p T L 0 x).getD j 0) ((linR p T L 1 x).getD j 0)] := by
  unfold sumTo; rw [List.range_succ, List.map_append]; rfl
theorem lin_at {p : Nat} (hp : 0 < p) (T : Nat) (L : List (List Nat)) (x : Nat) {j : Nat} (hj : j < T + 1) : (linR p T L 2 x).getD j 0 = fadd p ((linR p T L 0 x).getD j 0) ((linR p T L 1 x).getD j 0) := by
  rw [← sumTo_end hp]; unfold sumTo
  rw [List.getD_eq_getElem?_getD, List.getElem?_map, List.getElem?_range hj]; rfl
def linSh (p N T : Nat) (L : List (List Nat)) (k : Nat) : List (List Nat) := (List.range N).map fun i => linR p T L k (i + 1)
theorem linSh_len (p N T : Nat) (L : List (List Nat)) (k : Nat) : (linSh p N T L k).length = N := by simp [linSh]
def linL (p N T : Nat) (L : List (List Nat)) : List (List (List Nat)) := [linSh p N T L 0, linSh p N T L 1, linSh p N T L 2]
theorem lin_num {p N T : Nat} {L : List (List Nat)} {k : Nat} (hk : k < 2) : numSh p N T [] [] L k = linSh p N T L k := by
  unfold numSh linSh
  refine List.map_congr_left fun i _ => ?_
  unfold numRow linR linM linA
  rw [if_neg (by simp), if_neg (by omega)]
theorem linL_ok {p N T : Nat} (hp : 0 < p) (L : List (List Nat)) : ∀ l, l ∈ linL p N T L → l.length = N ∧ ∀ r, r ∈ l → ∀ c, c ∈ r → c < p := fun l hl => by
  have key : ∀ k, (linSh p N T L k).length = N ∧ ∀ r, r ∈ linSh p N T L k → ∀ c, c ∈ r → c < p := fun k => ⟨linSh_len _ _ _ _ _, fun r hr => by
    obtain ⟨i, _, rfl⟩ := List.mem_map.1 hr
    exact rowB_lt hp _ _ _⟩
  unfold linL at hl
  simp only [List.mem_cons, List.not_mem_nil, or_false] at hl
  rcases hl with rfl | rfl | rfl <;> exact key _
theorem lin_right {p N T q k : Nat} (hp : IsP p) (hN : N < p) (hT : 3 * T < N) (hT1 : 1 ≤ T) (hw : 1 ≤ q) (hw2 : q ≤ N) (L : List (List Nat)) (hk : k < 3) :
    recRow p N T q 3 (rcHeard p [] [] q 3 (rw2 (linL p N T L))) k = linR p T L k q :=
  rec_right hp hN hT hT1 hw hw2 hk (by decide) (linM p T L) (fun i j => by
    unfold linM linA
    split
    · simp only [nsM_comm p T (secK L 0) (wrdK L 0) i j, nsM_comm p T (secK L 1) (wrdK L 1) i j]
    · exact nsM_comm _ _ _ _ _ _) [] [] _ (fun i hi _ _ => by
    have e : (linL p N T L).getD k [] = linSh p N T L k := by
      match k, hk with
      | 0, _ => rfl
      | 1, _ => rfl
      | 2, _ => rfl
    unfold rw2
    rw [e]
    unfold linSh; rw [List.getD_eq_getElem?_getD, List.getElem?_map, List.getElem?_range hi]; rfl) (by
    have h : othN N q [] = 0 := by unfold othN; rw [List.length_eq_zero_iff, List.filter_eq_nil_iff]; simp
    rw [h]; exact Nat.zero_le _)
set_option maxHeartbeats 4000000 in
set_option maxRecDepth 100000 in
theorem rlin_any (p : Nat) (n t : Int) (vc vd vt vl vs : Value) (wh : Nat) (corrupt : List Int) (devs : List Dev) (tapes L : List (List Nat)) (spoil : List Nat) (w : World) (hL : Laid w) (hc : (kS kI).R w Any [vc] corrupt) (hd : (kS kDev).R w Any [vd] devs) (ht : (kS (kS kU)).R w Any [vt] tapes) (hl : (kS (kS kU)).R w Any [vl] L) (hs : (kS kU).R w Any [vs] spoil) (hwh : wh < 256) :
    Calls Tryd.prog 7 #[askVal p n t vc vd vt wh vl vs] w fun e w' => LawP w e w' := by
  have htlow := (kS (kS kU)).low ht
  have hllow := (kS (kS kU)).low hl
  obtain ⟨Ac, cc, rfl, _, _⟩ := kS_len hc
  obtain ⟨Ad, cd, rfl, _, _⟩ := kS_len hd
  obtain ⟨At, ct, rfl, _, _⟩ := kS_len ht
  obtain ⟨Al, cl, rfl, _, _⟩ := kS_len hl
  obtain ⟨As, cs, rfl, _, _⟩ := kS_len hs
  obtain ⟨W0, hW0⟩ : ∃ W0, W0 = w.alloc (.cells #[.int .u64 p, .int .i64 n, .int .i64 t, .slice Ac corrupt.length cc, .slice Ad devs.length cd, .slice At tapes.length ct, .int .u8 wh, .slice Al L.length cl, .slice As spoil.length cs] 32) := ⟨_, rfl⟩
  have hB0 : Bl w W0 := by rw [hW0]; exact (Below.refl _ _).alloc (Nat.le_refl _) _
  have hs0 : W0.heap.size = w.heap.size + 1 := by rw [hW0, Dr.alloc_heap, Array.size_push]
  have hbox : ∀ i u, (#[.int .u64 p, .int .i64 n, .int .i64 t, .slice Ac corrupt.length cc, .slice Ad devs.length cd, .slice At tapes.length ct, .int .u8 wh, .slice Al L.length cl, .slice As spoil.length cs] : Array Value)[i]? = some u → W0.cell? ⟨w.heap.size, i, none⟩ = some u := fun i u hu => by
    rw [hW0, World.cell?_alloc_at _ _ _ _ rfl]; exact hu
  have hmc := fun W2 (h : Bl w W2) => lmay_any p n t (.slice none 0 0) (.slice none 0 0) _ _ (.slice none 0 0) wh [] [] tapes L [] W2 (kS_nil _ _ _) (kS_nil _ _ _) ((kS (kS kU)).any ((kS (kS kU)).bl htlow h)) ((kS (kS kU)).any ((kS (kS kU)).bl hllow h)) (kS_nil _ _ _)
  have haw := fun W2 (h : Bl w W2) => awake_any W2 (hL.bl h)
  have HS0 := hide hs0
  by_cases hmay : MayB p n t [] [] tapes L []
  · obtain ⟨N, T, rfl, rfl, hF⟩ := fair_facts hmay.1
    have hmc := fun W2 (h : Bl w W2) => (hmc W2 h).mono (R' := fun e w' => e = .returned (.bool true) ∧ Bl W2 w') (fun e w' h => by
      obtain ⟨h1, b, rfl, hb⟩ := h
      cases b with
      | true => exact ⟨rfl, h1⟩
      | false => have := hb.2 hmay; cases this)
    obtain ⟨DL, hDL⟩ : ∃ D, D = L.length := ⟨_, rfl⟩
    by_cases hD2 : DL = 2
    · have hnets := fun W2 (h : Bl w W2) => nets_any p N T (.slice none 0 0) (.slice none 0 0) _ [] [] tapes W2 (hL.bl h) (kS_nil _ _ _) (kS_nil _ _ _) ((kS (kS kU)).any ((kS (kS kU)).bl htlow h)) (fun l hl => Nat.le_trans (hF.tl l hl) (by decide))
      have hwho := fun W2 => who_any p N T none none At Al none 0 0 0 0 tapes.length ct L.length cl 0 0 wh W2 (by have := hF.n4; omega) (by have := hF.n13; omega) hwh
      have hnum := fun W2 (h : Bl w W2) => numbers_any p N T (.slice none 0 0) (.slice none 0 0) _ _ (.slice none 0 0) wh [] [] tapes L [] W2 (kS_nil _ _ _) (kS_nil _ _ _) ((kS (kS kU)).any ((kS (kS kU)).bl htlow h)) ((kS (kS kU)).any ((kS (kS kU)).bl hllow h)) (kS_nil _ _ _) hF.hp hF.n13 hF.np (by have := hF.t3; have := hF.n13; omega) hmay.2.1 (by decide)
      obtain ⟨q, hq⟩ : ∃ q, q = whoN N wh := ⟨_, rfl⟩
      have hqw := whoN_in (N := N) (wh := wh) (by have := hF.n4; omega)
      rw [← hq] at hwho hqw
      obtain ⟨hq1, hqN⟩ := hqw
      simp only [scVal, askVal] at hmc hnets hwho hnum ⊢
      have hnl := numL_len p N T [] [] L
      have hnumL : numL p N T [] [] L = [linSh p N T L 0, linSh p N T L 1] := by
        unfold numL; rw [← hDL, hD2]; show [numSh _ _ _ _ _ _ 0, numSh _ _ _ _ _ _ 1] = _; rw [lin_num (by omega), lin_num (by omega)]
      have hrr := fun (k : Nat) (hk : k < 3) => lin_right (k := k) hF.hp hF.np hF.t3 hF.t1 hq1 hqN L hk
      rw [← hDL] at hmc hwho hnum hbox hW0 hnl ⊢
      subst hD2
      have hn4 := hF.n4
      have hn13 := hF.n13
      have ht1 := hF.t1
      have ht3 := hF.t3
      have HB0 := hide hB0; have HBX := hide hbox; have HMC := hide hmc; have HN := hide hnets; have HWHO := hide hwho; have HNUM := hide hnum; have HFF := hide hF; have HLD := hide hL; have HW0 := hide hW0; have HQ := hide hq; have HDL := hide hDL; have HNL := hide hnl; have HNM := hide hnumL; have HRR := hide hrr
      have HAW := hide haw
      have hlo := hF.hp.lo
      have hhi := hF.hp.hi
      have hT4 : T ≤ 4 := by omega
      clear haw hB0 hbox hmc hnets hwho hnum hF hL hW0 hq hDL htlow hllow hc hd ht hl hs hmay hnl hnumL hrr hs0
      go_enter Tryd.func7, Tryd.ntmps7
      go_upto_region 1 with fail
      rw [← HW0.out]
      have b0 := HBX.out 0 _ rfl
      have b1 := HBX.out 1 _ rfl
      have b2 := HBX.out 2 _ rfl
      have b3 := HBX.out 3 _ rfl
      have b4 := HBX.out 4 _ rfl
      have b5 := HBX.out 5 _ rfl
      have b6 := HBX.out 6 _ rfl
      have b7 := HBX.out 7 _ rfl
      go_upto_region 2 with fail
      obtain ⟨b3', hb3'⟩ : ∃ bb, bb = W0.heap.size := ⟨_, rfl⟩
      obtain ⟨W1, hW1⟩ : ∃ W1, W1 = W0.alloc (.cells #[.int .u64 p, .int .i64 N, .int .i64 T, .slice Ac corrupt.length cc, .slice Ad devs.length cd, .slice At tapes.length ct] 29) := ⟨_, rfl⟩
      have hx1 : W1.heap[b3']? = some (.cells #[.int .u64 p, .int .i64 N, .int .i64 T, .slice Ac corrupt.length cc, .slice Ad devs.length cd, .slice At tapes.length ct] 29 (0, 0)) := by rw [hW1, hb3']; exact heap_alloc_new W0 _
      have hB01 : Bl W0 W1 := by rw [hW1]; exact (Below.refl _ _).alloc (Nat.le_refl _) _
      rw [← hW1, ← hb3']
      have d3 : W1.cell? ⟨b3', 3, none⟩ = some (.slice Ac corrupt.length cc) := by simp [World.cell?, hx1]
      have fr3 : W1.frozen? ⟨b3', 3, none⟩ = false := by simp [World.frozen?, hx1]
      have d4 : W1.cell? ⟨b3', 4, none⟩ = some (.slice Ad devs.length cd) := by simp [World.cell?, hx1]
      have fr4 : W1.frozen? ⟨b3', 4, none⟩ = false := by simp [World.frozen?, hx1]
      have HX1 := hide hx1; have HB01 := hide hB01; have HBE := hide hb3'
      clear hx1 hB01 hb3' hW1
      go_upto_region 3 with fail
      obtain ⟨W2, hW2⟩ : ∃ W2, W2 = (W1.setCell ⟨b3', 3, none⟩ (.slice none 0 0)).setCell ⟨b3', 4, none⟩ (.slice none 0 0) := ⟨_, rfl⟩
      rw [← hW2]
      have hx2 : W2.heap[b3']? = some (.cells #[.int .u64 p, .int .i64 N, .int .i64 T, .slice none 0 0, .slice none 0 0, .slice At tapes.length ct] 29 (0, 0)) := by rw [hW2]; simp [World.setCell, Array.getElem?_modify, HX1.out]
      have hB02 : Bl W0 W2 := by rw [hW2]; exact (HB01.out.setCell (by rw [HBE.out]; exact Nat.le_refl _) _).setCell (by rw [HBE.out]; exact Nat.le_refl _) _
      clear d3 fr3 d4 fr4 hW2
      have d0 : W2.cell? ⟨b3', 0, none⟩ = some (.int .u64 p) := by simp [World.cell?, hx2]
      have d1 : W2.cell? ⟨b3', 1, none⟩ = some (.int .i64 N) := by simp [World.cell?, hx2]
      have d2 : W2.cell? ⟨b3', 2, none⟩ = some (.int .i64 T) := by simp [World.cell?, hx2]
      have d3 : W2.cell? ⟨b3', 3, none⟩ = some (.slice none 0 0) := by simp [World.cell?, hx2]
      have d4 : W2.cell? ⟨b3', 4, none⟩ = some (.slice none 0 0) := by simp [World.cell?, hx2]
      have d5 : W2.cell? ⟨b3', 5, none⟩ = some (.slice At tapes.length ct) := by simp [World.cell?, hx2]
      have c6 := cell_bl hB02 b6
      have c7 := cell_bl hB02 b7
      have HB02 := hide hB02
      clear hx2 hB02 b0 b1 b2 b3 b4 b5 b6 b7
      go_upto_region 4 with fail
      obtain ⟨b4', hb4'⟩ : ∃ bb, bb = W2.heap.size := ⟨_, rfl⟩
      obtain ⟨W3, hW3⟩ : ∃ W3, W3 = W2.alloc (.cells #[.int .u64 p, .int .i64 N, .int .i64 T, .slice none 0 0, .slice none 0 0, .slice At tapes.length ct, .int .u8 wh, .slice Al 2 cl, .slice none 0 0] 32) := ⟨_, rfl⟩
      have hB23 : Bl W2 W3 := by rw [hW3]; exact (Below.refl _ _).alloc (Nat.le_refl _) _
      have e0 : W3.cell? ⟨b4', 0, none⟩ = some (.int .u64 p) := by rw [hW3, hb4']; exact World.cell?_alloc_at _ _ _ _ rfl
      have e1 : W3.cell? ⟨b4', 1, none⟩ = some (.int .i64 N) := by rw [hW3, hb4']; exact World.cell?_alloc_at _ _ _ _ rfl
      have e2 : W3.cell? ⟨b4', 2, none⟩ = some (.int .i64 T) := by rw [hW3, hb4']; exact World.cell?_alloc_at _ _ _ _ rfl
      have e3 : W3.cell? ⟨b4', 3, none⟩ = some (.slice none 0 0) := by rw [hW3, hb4']; exact World.cell?_alloc_at _ _ _ _ rfl
      have e4 : W3.cell? ⟨b4', 4, none⟩ = some (.slice none 0 0) := by rw [hW3, hb4']; exact World.cell?_alloc_at _ _ _ _ rfl
      have e5 : W3.cell? ⟨b4', 5, none⟩ = some (.slice At tapes.length ct) := by rw [hW3, hb4']; exact World.cell?_alloc_at _ _ _ _ rfl
      have e6 : W3.cell? ⟨b4', 6, none⟩ = some (.int .u8 wh) := by rw [hW3, hb4']; exact World.cell?_alloc_at _ _ _ _ rfl
      have e7 : W3.cell? ⟨b4', 7, none⟩ = some (.slice Al 2 cl) := by rw [hW3, hb4']; exact World.cell?_alloc_at _ _ _ _ rfl
      have e8 : W3.cell? ⟨b4', 8, none⟩ = some (.slice none 0 0) := by rw [hW3, hb4']; exact World.cell?_alloc_at _ _ _ _ rfl
      rw [← hW3, ← hb4']
      have g0 := cell_bl hB23 d0
      have g1 := cell_bl hB23 d1
      have g2 := cell_bl hB23 d2
      have g3 := cell_bl hB23 d3
      have g4 := cell_bl hB23 d4
      have g5 := cell_bl hB23 d5
      have f7 := cell_bl hB23 c7
      have HB3 := hide (Bl.then HB0.out HB0.out.size (Bl.then HB02.out HB02.out.size hB23))
      clear hB23 hW3 hb4' d0 d1 d2 d3 d4 d5 c6 c7 HX1 HB01 HBE HB02 HBX
      go_wp2_with fail
      refine (HMC.out W3 HB3.out).mono ?_
      rintro e w4 ⟨rfl, hB4⟩
      have e0 := cell_bl hB4 e0
      have e1 := cell_bl hB4 e1
      have e2 := cell_bl hB4 e2
      have e3 := cell_bl hB4 e3
      have e4 := cell_bl hB4 e4
      have e5 := cell_bl hB4 e5
      have e6 := cell_bl hB4 e6
      have e7 := cell_bl hB4 e7
      have e8 := cell_bl hB4 e8
      have g0 := cell_bl hB4 g0
      have g1 := cell_bl hB4 g1
      have g2 := cell_bl hB4 g2
      have g3 := cell_bl hB4 g3
      have g4 := cell_bl hB4 g4
      have g5 := cell_bl hB4 g5
      have f7 := cell_bl hB4 f7
      have HB4 := hide (Bl.then HB3.out HB3.out.size hB4)
      clear hB4
      go_wp2_with fail
      clear f7
      have gg2 := g2
      have hb4lt : b4' < w4.heap.size := World.block_lt_of_cell? _ _ e0
      refine (HN.out w4 HB4.out).mono ?_
      rintro e w5 ⟨hB5, hcase⟩
      rcases hcase with ⟨hno, _⟩ | ⟨_, nb, vb, vtp, rb, B0, rfl, hN, _, hnb, hvb, hB0, hB0'⟩
      · exact absurd HFF.out.ok hno
      have e0 := cell_bl hB5 e0
      have e1 := cell_bl hB5 e1
      have e2 := cell_bl hB5 e2
      have e3 := cell_bl hB5 e3
      have e4 := cell_bl hB5 e4
      have e5 := cell_bl hB5 e5
      have e6 := cell_bl hB5 e6
      have e7 := cell_bl hB5 e7
      have e8 := cell_bl hB5 e8
      have g0 := cell_bl hB5 g0
      have g1 := cell_bl hB5 g1
      have g2 := cell_bl hB5 g2
      have g3 := cell_bl hB5 g3
      have g4 := cell_bl hB5 g4
      have g5 := cell_bl hB5 g5
      have hB45 := hB5
      have HB5 := hide (Bl.then HB4.out HB4.out.size hB5)
      have HNR := hide hN
      clear hB5 hN
      go_wp2_with fail
      refine (HNUM.out w5 HB5.out).mono ?_
      rintro e w6 ⟨hB6, v6, rfl, hr6⟩
      rw [HNM.out] at hr6
      have e0 := cell_bl hB6 e0
      have e1 := cell_bl hB6 e1
      have e2 := cell_bl hB6 e2
      have e3 := cell_bl hB6 e3
      have e4 := cell_bl hB6 e4
      have e5 := cell_bl hB6 e5
      have e6 := cell_bl hB6 e6
      have e7 := cell_bl hB6 e7
      have e8 := cell_bl hB6 e8
      have g0 := cell_bl hB6 g0
      have g1 := cell_bl hB6 g1
      have g2 := cell_bl hB6 g2
      have g3 := cell_bl hB6 g3
      have g4 := cell_bl hB6 g4
      have g5 := cell_bl hB6 g5
      obtain ⟨A6, c6, rfl, ⟨hl6, hl6'⟩, hel6⟩ := rd_open rfl hr6
      obtain ⟨a6, u0, rfl, hsa6, hu0, hcu0⟩ := hel6 0 _ rfl
      obtain ⟨a6', u1, e', _, hu1, hcu1⟩ := hel6 1 _ rfl
      injection e' with e'
      subst e'
      rw [show a6.add 0 = a6 by unfold Addr.add; split <;> simp_all] at hcu0
      rw [show a6.add 1 = ⟨a6.block, a6.off + 1, none⟩ by simp [Addr.add]] at hcu1
      obtain ⟨Au0, cu0, rfl, ⟨hq0, hq0'⟩, hel0⟩ := rd_open rfl hu0
      obtain ⟨Au1, cu1, rfl, ⟨hq1', hq1''⟩, hel1⟩ := rd_open rfl hu1
      rw [linSh_len] at hcu0 hcu1 hq0 hq1' hu0 hu1
      have HEL0 := hide hel0; have HEL1 := hide hel1; have HU0 := hide hu0; have HU1 := hide hu1
      have HB6 := hide (Bl.then HB5.out HB5.out.size hB6)
      have HB56 := hide hB6
      have HB45 := hide hB45
      have HR6 := hide hr6
      clear hB6 hr6 hel6 hel0 hel1 hu0 hu1
      obtain ⟨T1, hT1⟩ : ∃ T1, T1 = T + 1 := ⟨_, rfl⟩
      have hT1i : (T : Int) + 1 = (T1 : Int) := by omega
      have hT1w : IntKind.i64.wrap (T1 : Int) = (T1 : Int) := by rw [IntWalk.i64_in _ (by omega)]
      have hT15 : T1 ≤ 5 := by omega
      have HT1 := hide hT1; clear hT1
      go_wp2_with fail
      go_loopw [10, 11] (fun s10 ix wr => ∃ i : Nat, i ≤ N ∧ ix = .int .i64 i ∧ Bl w6 wr ∧ Ow (kT (kS kU) (fun b => w6.heap.size ≤ b)) wr w6.heap.size 30 s10 ((List.range i).map fun i => linR p T L 2 (i + 1))) (fun _ ix _ => N - (intOf ix).toNat)
      case atStart => exact ⟨0, by omega, rfl, Below.refl _ _, Ow.nil _ _ _ _⟩
      case round =>
        obtain ⟨wo, rfl⟩ : ∃ x, x = wr := ⟨_, rfl⟩
        obtain ⟨i, hi, rfl, hBi, hOi⟩ := hrel
        obtain ⟨A10, c10, hv10, _, _⟩ := hOi.slice
        rw [List.length_map, List.length_range] at hv10
        subst hv10
        have k1 := cell_bl hBi g1
        have k2 := cell_bl hBi g2
        by_cases hiN : i < N
        · as_aux_lemma =>
          have hiNi : (i : Int) < (N : Int) := by omega
          have hi0 : (0 : Int) ≤ (i : Int) := by omega
          obtain ⟨r0, v0, rfl, _, hv0, hcv0⟩ := HEL0.out i (linR p T L 0 (i + 1)) (by unfold linSh; rw [List.getElem?_map, List.getElem?_range hiN]; rfl)
          obtain ⟨r1, v1, rfl, _, hv1, hcv1⟩ := HEL1.out i (linR p T L 1 (i + 1)) (by unfold linSh; rw [List.getElem?_map, List.getElem?_range hiN]; rfl)
          obtain ⟨Ar0, cr0, rfl, ⟨hr0, hr0'⟩, hx0⟩ := rdU ((kS kU).low hv0)
          obtain ⟨Ar1, cr1, rfl, ⟨hr1, hr1'⟩, hx1⟩ := rdU ((kS kU).low hv1)
          rw [linR_len] at hcv0 hcv1 hr0 hr1 hx0 hx1
          have m0 := cell_bl hBi hcu0
          have m1 := cell_bl hBi hcu1
          have m2 := cell_bl hBi hcv0
          have m3 := cell_bl hBi hcv1
          rw [← HT1.out] at m2 m3 hx0 hx1 hr0 hr1
          have HBI := hide hBi; have HOI := hide hOi; have HX0 := hide hx0; have HX1 := hide hx1
          clear hBi hOi hx0 hx1 hv0 hv1 hcv0 hcv1
          go_wp2_with fail
          go_loopw [12, 13] (fun s12 kx wr => ∃ j : Nat, j ≤ T1 ∧ kx = .int .i64 j ∧ Bl wo wr ∧ Ow kU wr wo.heap.size 22 s12 (sumTo p T L (i + 1) j)) (fun _ kx _ => T1 - (intOf kx).toNat)
          case atStart => exact ⟨0, by omega, rfl, Below.refl _ _, Ow.nil _ _ _ _⟩
          case round =>
            obtain ⟨j, hj, rfl, hBz, hOz⟩ := hrel
            obtain ⟨A12, c12, hv12, _, _⟩ := hOz.slice
            rw [sumTo_len] at hv12
            subst hv12
            have l2 := cell_bl hBz k2
            by_cases hjT : j < T1
            · as_aux_lemma =>
              have hjTi : (j : Int) ≤ (T : Int) := by omega
              have hjT1 : (j : Int) < (T1 : Int) := by omega
              have hj0 : (0 : Int) ≤ (j : Int) := by omega
              obtain ⟨q0, rfl, _, hy0, hz0⟩ := HX0.out j hjT
              obtain ⟨q1, rfl, _, hy1, hz1⟩ := HX1.out j hjT
              obtain ⟨y0, hy0e⟩ : ∃ y, y = (linR p T L 0 (i + 1)).getD j 0 := ⟨_, rfl⟩
              obtain ⟨y1, hy1e⟩ : ∃ y, y = (linR p T L 1 (i + 1)).getD j 0 := ⟨_, rfl⟩
              rw [← hy0e] at hy0 hz0
              rw [← hy1e] at hy1 hz1
              have hy0p : y0 < p := by rw [hy0e]; exact getD_ltp (by omega) (rowB_lt (by omega) _ _ _) _
              have hy1p : y1 < p := by rw [hy1e]; exact getD_ltp (by omega) (rowB_lt (by omega) _ _ _) _
              have hsu := sumTo_succ p T L (i + 1) j
              rw [← hy0e, ← hy1e] at hsu
              obtain ⟨z, hz⟩ : ∃ z, z = fadd p y0 y1 := ⟨_, rfl⟩
              have hzp : z < p := by rw [hz]; exact fadd_lt (by omega) _ _
              have hadd := fun W => radd_any p y0 y1 W HFF.out.hp hy0p hy1p
              rw [← hz] at hadd hsu
              have m4 := cell_bl HBI.out hy0
              have m5 := cell_bl HBI.out hy1
              have hHO : ∀ (ob : Obj) (v : Value), v = .slice A12 j c12 → Ow kU (wr.drew.alloc ob) wo.heap.size 22 v (sumTo p T L (i + 1) j) := fun ob v hv => by
                rw [hv]; exact hOz.bl ((Bl.dr (Below.refl _ _) (Dr.one (Dr.refl _))).alloc (Nat.le_of_eq rfl) ob)
              have hHX : ∀ (v : Value), v = .slice A12 j c12 → (kS kU).R (wr.drew.alloc (.cells #[.int .u64 (z : Int)] 22)) (Ne v.ownBlock) [.slice (some ⟨wr.drew.heap.size, 0, none⟩) 1 1] [z] := fun v hv =>
                (kS kU).sub (litK (W := wr.drew) (S := fun _ => False) (us := [.int .u64 (z : Int)]) (K := kU) ⟨rfl, by omega⟩ 22) fun b _ hb e => by
                  rw [hv] at e
                  have := (hOz.base _ e.symm).2
                  rcases hb with hb | rfl
                  · exact hb.1
                  · exact absurd this (Nat.lt_irrefl _)
              have hl8 : ((sumTo p T L (i + 1) j).length + [z].length) * 8 ≤ 140737488355328 := by rw [sumTo_len]; simp; omega
              have HBZ := hide hBz; have HHO := hide hHO; have HHX := hide hHX; have HL8 := hide hl8; have HSU := hide hsu; have HADD := hide hadd
              clear hBz hHO hHX hl8 hsu hadd hOz hz hy0e hy1e hy0 hy1
              go_wp2_with fail
              refine wp_region_held_drew (S := fun w' => Bl wo w') (by kernel_rfl) (Bl.dr HBZ.out (Dr.one (Dr.refl wr))) (fun hHeld => ?_)
              refine wpAnyH_take (i := 0) (oi := { dst := some 63, op := Go.Op.move (Go.Operand.tmp 12), type := 30, pos := _, after := _, guard := none }) (v := ?_) rfl (by kernel_rfl) (by kernel_rfl) (by kernel_rfl) (fun _ _ _ h => h) ?_ (by assumption) ?_
              rotate_left
              · first | (refine Or.inl ⟨by rfl, ?_⟩; intro w hSw; have z0 := cell_bl hSw m0; have z1 := cell_bl hSw m1; have z2 := cell_bl hSw m2; have z3 := cell_bl hSw m3; have z4 := cell_bl hSw m4; have z5 := cell_bl hSw m5; go_simp; (try (with_reducible rfl)); done) | (refine Or.inr ⟨by rfl, ?_⟩; with_reducible rfl)
              try simp only [Act.put, List.setIfInBounds_toArray, List.set_cons_zero, List.set_cons_succ]
              refine wpAnyH_take (i := 1) (oi := { dst := some 64, op := Go.Op.move (Go.Operand.tmp 9), type := 22, pos := _, after := _, guard := none }) (v := ?_) rfl (by kernel_rfl) (by kernel_rfl) (by kernel_rfl) (fun _ _ _ h => h) ?_ (by assumption) ?_
              rotate_left
              · first | (refine Or.inl ⟨by rfl, ?_⟩; intro w hSw; have z0 := cell_bl hSw m0; have z1 := cell_bl hSw m1; have z2 := cell_bl hSw m2; have z3 := cell_bl hSw m3; have z4 := cell_bl hSw m4; have z5 := cell_bl hSw m5; go_simp; (try (with_reducible rfl)); done) | (refine Or.inr ⟨by rfl, ?_⟩; with_reducible rfl)
              try simp only [Act.put, List.setIfInBounds_toArray, List.set_cons_zero, List.set_cons_succ]
              refine wpAnyH_take (i := 2) (oi := { dst := some 65, op := Go.Op.move (Go.Operand.tmp 8), type := 40, pos := _, after := _, guard := none }) (v := ?_) rfl (by kernel_rfl) (by kernel_rfl) (by kernel_rfl) (fun _ _ _ h => h) ?_ (by assumption) ?_
              rotate_left
              · first | (refine Or.inl ⟨by rfl, ?_⟩; intro w hSw; have z0 := cell_bl hSw m0; have z1 := cell_bl hSw m1; have z2 := cell_bl hSw m2; have z3 := cell_bl hSw m3; have z4 := cell_bl hSw m4; have z5 := cell_bl hSw m5; go_simp; (try (with_reducible rfl)); done) | (refine Or.inr ⟨by rfl, ?_⟩; with_reducible rfl)
              try simp only [Act.put, List.setIfInBounds_toArray, List.set_cons_zero, List.set_cons_succ]
              refine wpAnyH_take (i := 3) (oi := { dst := some 66, op := Go.Op.indexAddr 40 (Go.Operand.tmp 65) (Go.Operand.const (Go.Value.int Go.IntKind.i64 0)), type := 0, pos := _, after := _, guard := none }) (v := ?_) rfl (by kernel_rfl) (by kernel_rfl) (by kernel_rfl) (fun _ _ _ h => h) ?_ (by assumption) ?_
              rotate_left
              · first | (refine Or.inl ⟨by rfl, ?_⟩; intro w hSw; have z0 := cell_bl hSw m0; have z1 := cell_bl hSw m1; have z2 := cell_bl hSw m2; have z3 := cell_bl hSw m3; have z4 := cell_bl hSw m4; have z5 := cell_bl hSw m5; go_simp; (try (with_reducible rfl)); done) | (refine Or.inr ⟨by rfl, ?_⟩; with_reducible rfl)
              try simp only [Act.put, List.setIfInBounds_toArray, List.set_cons_zero, List.set_cons_succ]
              refine wpAnyH_take (i := 4) (oi := { dst := some 67, op := Go.Op.load 44 (Go.Operand.tmp 66), type := 44, pos := _, after := _, guard := none }) (v := ?_) rfl (by kernel_rfl) (by kernel_rfl) (by kernel_rfl) (fun _ _ _ h => h) ?_ (by assumption) ?_
              rotate_left
              · first | (refine Or.inl ⟨by rfl, ?_⟩; intro w hSw; have z0 := cell_bl hSw m0; have z1 := cell_bl hSw m1; have z2 := cell_bl hSw m2; have z3 := cell_bl hSw m3; have z4 := cell_bl hSw m4; have z5 := cell_bl hSw m5; go_simp; (try (with_reducible rfl)); done) | (refine Or.inr ⟨by rfl, ?_⟩; with_reducible rfl)
              try simp only [Act.put, List.setIfInBounds_toArray, List.set_cons_zero, List.set_cons_succ]
              refine wpAnyH_take (i := 5) (oi := { dst := some 68, op := Go.Op.move (Go.Operand.tmp 11), type := 3, pos := _, after := _, guard := none }) (v := ?_) rfl (by kernel_rfl) (by kernel_rfl) (by kernel_rfl) (fun _ _ _ h => h) ?_ (by assumption) ?_
              rotate_left
              · first | (refine Or.inl ⟨by rfl, ?_⟩; intro w hSw; have z0 := cell_bl hSw m0; have z1 := cell_bl hSw m1; have z2 := cell_bl hSw m2; have z3 := cell_bl hSw m3; have z4 := cell_bl hSw m4; have z5 := cell_bl hSw m5; go_simp; (try (with_reducible rfl)); done) | (refine Or.inr ⟨by rfl, ?_⟩; with_reducible rfl)
              try simp only [Act.put, List.setIfInBounds_toArray, List.set_cons_zero, List.set_cons_succ]
              refine wpAnyH_take (i := 6) (oi := { dst := some 69, op := Go.Op.indexAddr 44 (Go.Operand.tmp 67) (Go.Operand.tmp 68), type := 0, pos := _, after := _, guard := none }) (v := ?_) rfl (by kernel_rfl) (by kernel_rfl) (by kernel_rfl) (fun _ _ _ h => h) ?_ (by assumption) ?_
              rotate_left
              · first | (refine Or.inl ⟨by rfl, ?_⟩; intro w hSw; have z0 := cell_bl hSw m0; have z1 := cell_bl hSw m1; have z2 := cell_bl hSw m2; have z3 := cell_bl hSw m3; have z4 := cell_bl hSw m4; have z5 := cell_bl hSw m5; go_simp; (try (with_reducible rfl)); done) | (refine Or.inr ⟨by rfl, ?_⟩; with_reducible rfl)
              try simp only [Act.put, List.setIfInBounds_toArray, List.set_cons_zero, List.set_cons_succ]
              refine wpAnyH_take (i := 7) (oi := { dst := some 70, op := Go.Op.load 30 (Go.Operand.tmp 69), type := 30, pos := _, after := _, guard := none }) (v := ?_) rfl (by kernel_rfl) (by kernel_rfl) (by kernel_rfl) (fun _ _ _ h => h) ?_ (by assumption) ?_
              rotate_left
              · first | (refine Or.inl ⟨by rfl, ?_⟩; intro w hSw; have z0 := cell_bl hSw m0; have z1 := cell_bl hSw m1; have z2 := cell_bl hSw m2; have z3 := cell_bl hSw m3; have z4 := cell_bl hSw m4; have z5 := cell_bl hSw m5; go_simp; (try (with_reducible rfl)); done) | (refine Or.inr ⟨by rfl, ?_⟩; with_reducible rfl)
              try simp only [Act.put, List.setIfInBounds_toArray, List.set_cons_zero, List.set_cons_succ]
              refine wpAnyH_take (i := 8) (oi := { dst := some 71, op := Go.Op.move (Go.Operand.tmp 13), type := 3, pos := _, after := _, guard := none }) (v := ?_) rfl (by kernel_rfl) (by kernel_rfl) (by kernel_rfl) (fun _ _ _ h => h) ?_ (by assumption) ?_
              rotate_left
              · first | (refine Or.inl ⟨by rfl, ?_⟩; intro w hSw; have z0 := cell_bl hSw m0; have z1 := cell_bl hSw m1; have z2 := cell_bl hSw m2; have z3 := cell_bl hSw m3; have z4 := cell_bl hSw m4; have z5 := cell_bl hSw m5; go_simp; (try (with_reducible rfl)); done) | (refine Or.inr ⟨by rfl, ?_⟩; with_reducible rfl)
              try simp only [Act.put, List.setIfInBounds_toArray, List.set_cons_zero, List.set_cons_succ]
              refine wpAnyH_take (i := 9) (oi := { dst := some 72, op := Go.Op.indexAddr 30 (Go.Operand.tmp 70) (Go.Operand.tmp 71), type := 0, pos := _, after := _, guard := none }) (v := ?_) rfl (by kernel_rfl) (by kernel_rfl) (by kernel_rfl) (fun _ _ _ h => h) ?_ (by assumption) ?_
              rotate_left
              · first | (refine Or.inl ⟨by rfl, ?_⟩; intro w hSw; have z0 := cell_bl hSw m0; have z1 := cell_bl hSw m1; have z2 := cell_bl hSw m2; have z3 := cell_bl hSw m3; have z4 := cell_bl hSw m4; have z5 := cell_bl hSw m5; go_simp; (try (with_reducible rfl)); done) | (refine Or.inr ⟨by rfl, ?_⟩; with_reducible rfl)
              try simp only [Act.put, List.setIfInBounds_toArray, List.set_cons_zero, List.set_cons_succ]
              refine wpAnyH_take (i := 10) (oi := { dst := some 73, op := Go.Op.load 22 (Go.Operand.tmp 72), type := 22, pos := _, after := _, guard := none }) (v := ?_) rfl (by kernel_rfl) (by kernel_rfl) (by kernel_rfl) (fun _ _ _ h => h) ?_ (by assumption) ?_
              rotate_left
              · first | (refine Or.inl ⟨by rfl, ?_⟩; intro w hSw; have z0 := cell_bl hSw m0; have z1 := cell_bl hSw m1; have z2 := cell_bl hSw m2; have z3 := cell_bl hSw m3; have z4 := cell_bl hSw m4; have z5 := cell_bl hSw m5; go_simp; (try (with_reducible rfl)); done) | (refine Or.inr ⟨by rfl, ?_⟩; with_reducible rfl)
              try simp only [Act.put, List.setIfInBounds_toArray, List.set_cons_zero, List.set_cons_succ]
              refine wpAnyH_take (i := 11) (oi := { dst := some 74, op := Go.Op.move (Go.Operand.tmp 8), type := 40, pos := _, after := _, guard := none }) (v := ?_) rfl (by kernel_rfl) (by kernel_rfl) (by kernel_rfl) (fun _ _ _ h => h) ?_ (by assumption) ?_
              rotate_left
              · first | (refine Or.inl ⟨by rfl, ?_⟩; intro w hSw; have z0 := cell_bl hSw m0; have z1 := cell_bl hSw m1; have z2 := cell_bl hSw m2; have z3 := cell_bl hSw m3; have z4 := cell_bl hSw m4; have z5 := cell_bl hSw m5; go_simp; (try (with_reducible rfl)); done) | (refine Or.inr ⟨by rfl, ?_⟩; with_reducible rfl)
              try simp only [Act.put, List.setIfInBounds_toArray, List.set_cons_zero, List.set_cons_succ]
              refine wpAnyH_take (i := 12) (oi := { dst := some 75, op := Go.Op.indexAddr 40 (Go.Operand.tmp 74) (Go.Operand.const (Go.Value.int Go.IntKind.i64 1)), type := 0, pos := _, after := _, guard := none }) (v := ?_) rfl (by kernel_rfl) (by kernel_rfl) (by kernel_rfl) (fun _ _ _ h => h) ?_ (by assumption) ?_
              rotate_left
              · first | (refine Or.inl ⟨by rfl, ?_⟩; intro w hSw; have z0 := cell_bl hSw m0; have z1 := cell_bl hSw m1; have z2 := cell_bl hSw m2; have z3 := cell_bl hSw m3; have z4 := cell_bl hSw m4; have z5 := cell_bl hSw m5; go_simp; (try (with_reducible rfl)); done) | (refine Or.inr ⟨by rfl, ?_⟩; with_reducible rfl)
              try simp only [Act.put, List.setIfInBounds_toArray, List.set_cons_zero, List.set_cons_succ]
              refine wpAnyH_take (i := 13) (oi := { dst := some 76, op := Go.Op.load 44 (Go.Operand.tmp 75), type := 44, pos := _, after := _, guard := none }) (v := ?_) rfl (by kernel_rfl) (by kernel_rfl) (by kernel_rfl) (fun _ _ _ h => h) ?_ (by assumption) ?_
              rotate_left
              · first | (refine Or.inl ⟨by rfl, ?_⟩; intro w hSw; have z0 := cell_bl hSw m0; have z1 := cell_bl hSw m1; have z2 := cell_bl hSw m2; have z3 := cell_bl hSw m3; have z4 := cell_bl hSw m4; have z5 := cell_bl hSw m5; go_simp; (try (with_reducible rfl)); done) | (refine Or.inr ⟨by rfl, ?_⟩; with_reducible rfl)
              try simp only [Act.put, List.setIfInBounds_toArray, List.set_cons_zero, List.set_cons_succ]
              refine wpAnyH_take (i := 14) (oi := { dst := some 77, op := Go.Op.move (Go.Operand.tmp 11), type := 3, pos := _, after := _, guard := none }) (v := ?_) rfl (by kernel_rfl) (by kernel_rfl) (by kernel_rfl) (fun _ _ _ h => h) ?_ (by assumption) ?_
              rotate_left
              · first | (refine Or.inl ⟨by rfl, ?_⟩; intro w hSw; have z0 := cell_bl hSw m0; have z1 := cell_bl hSw m1; have z2 := cell_bl hSw m2; have z3 := cell_bl hSw m3; have z4 := cell_bl hSw m4; have z5 := cell_bl hSw m5; go_simp; (try (with_reducible rfl)); done) | (refine Or.inr ⟨by rfl, ?_⟩; with_reducible rfl)
              try simp only [Act.put, List.setIfInBounds_toArray, List.set_cons_zero, List.set_cons_succ]
              refine wpAnyH_take (i := 15) (oi := { dst := some 78, op := Go.Op.indexAddr 44 (Go.Operand.tmp 76) (Go.Operand.tmp 77), type := 0, pos := _, after := _, guard := none }) (v := ?_) rfl (by kernel_rfl) (by kernel_rfl) (by kernel_rfl) (fun _ _ _ h => h) ?_ (by assumption) ?_
              rotate_left
              · first | (refine Or.inl ⟨by rfl, ?_⟩; intro w hSw; have z0 := cell_bl hSw m0; have z1 := cell_bl hSw m1; have z2 := cell_bl hSw m2; have z3 := cell_bl hSw m3; have z4 := cell_bl hSw m4; have z5 := cell_bl hSw m5; go_simp; (try (with_reducible rfl)); done) | (refine Or.inr ⟨by rfl, ?_⟩; with_reducible rfl)
              try simp only [Act.put, List.setIfInBounds_toArray, List.set_cons_zero, List.set_cons_succ]
              refine wpAnyH_take (i := 16) (oi := { dst := some 79, op := Go.Op.load 30 (Go.Operand.tmp 78), type := 30, pos := _, after := _, guard := none }) (v := ?_) rfl (by kernel_rfl) (by kernel_rfl) (by kernel_rfl) (fun _ _ _ h => h) ?_ (by assumption) ?_
              rotate_left
              · first | (refine Or.inl ⟨by rfl, ?_⟩; intro w hSw; have z0 := cell_bl hSw m0; have z1 := cell_bl hSw m1; have z2 := cell_bl hSw m2; have z3 := cell_bl hSw m3; have z4 := cell_bl hSw m4; have z5 := cell_bl hSw m5; go_simp; (try (with_reducible rfl)); done) | (refine Or.inr ⟨by rfl, ?_⟩; with_reducible rfl)
              try simp only [Act.put, List.setIfInBounds_toArray, List.set_cons_zero, List.set_cons_succ]
              refine wpAnyH_take (i := 17) (oi := { dst := some 80, op := Go.Op.move (Go.Operand.tmp 13), type := 3, pos := _, after := _, guard := none }) (v := ?_) rfl (by kernel_rfl) (by kernel_rfl) (by kernel_rfl) (fun _ _ _ h => h) ?_ (by assumption) ?_
              rotate_left
              · first | (refine Or.inl ⟨by rfl, ?_⟩; intro w hSw; have z0 := cell_bl hSw m0; have z1 := cell_bl hSw m1; have z2 := cell_bl hSw m2; have z3 := cell_bl hSw m3; have z4 := cell_bl hSw m4; have z5 := cell_bl hSw m5; go_simp; (try (with_reducible rfl)); done) | (refine Or.inr ⟨by rfl, ?_⟩; with_reducible rfl)
              try simp only [Act.put, List.setIfInBounds_toArray, List.set_cons_zero, List.set_cons_succ]
              refine wpAnyH_take (i := 18) (oi := { dst := some 81, op := Go.Op.indexAddr 30 (Go.Operand.tmp 79) (Go.Operand.tmp 80), type := 0, pos := _, after := _, guard := none }) (v := ?_) rfl (by kernel_rfl) (by kernel_rfl) (by kernel_rfl) (fun _ _ _ h => h) ?_ (by assumption) ?_
              rotate_left
              · first | (refine Or.inl ⟨by rfl, ?_⟩; intro w hSw; have z0 := cell_bl hSw m0; have z1 := cell_bl hSw m1; have z2 := cell_bl hSw m2; have z3 := cell_bl hSw m3; have z4 := cell_bl hSw m4; have z5 := cell_bl hSw m5; go_simp; (try (with_reducible rfl)); done) | (refine Or.inr ⟨by rfl, ?_⟩; with_reducible rfl)
              try simp only [Act.put, List.setIfInBounds_toArray, List.set_cons_zero, List.set_cons_succ]
              refine wpAnyH_take (i := 19) (oi := { dst := some 82, op := Go.Op.load 22 (Go.Operand.tmp 81), type := 22, pos := _, after := _, guard := none }) (v := ?_) rfl (by kernel_rfl) (by kernel_rfl) (by kernel_rfl) (fun _ _ _ h => h) ?_ (by assumption) ?_
              rotate_left
              · first | (refine Or.inl ⟨by rfl, ?_⟩; intro w hSw; have z0 := cell_bl hSw m0; have z1 := cell_bl hSw m1; have z2 := cell_bl hSw m2; have z3 := cell_bl hSw m3; have z4 := cell_bl hSw m4; have z5 := cell_bl hSw m5; go_simp; (try (with_reducible rfl)); done) | (refine Or.inr ⟨by rfl, ?_⟩; with_reducible rfl)
              try simp only [Act.put, List.setIfInBounds_toArray, List.set_cons_zero, List.set_cons_succ]
              refine wpAnyH_ready (rs := [20]) (by kernel_rfl) (by simp) ?_
              refine AllReadyH.cons (o := { dst := some 83, op := Go.Op.call { callee := Go.Callee.value (Go.Operand.func 27), args := #[Go.Operand.tmp 64, Go.Operand.tmp 73, Go.Operand.tmp 82], argTypes := #[22, 22, 22] }, type := 22, pos := _, after := _, guard := none }) rfl (fun K hK => ?_) AllReadyH.nil
              go_simp
              refine (HADD.out _).mono ?_
              rintro e we ⟨rfl, rfl⟩
              have hBd : Bl wo wr.drew := Bl.dr HBZ.out (Dr.one (Dr.refl wr))
              simp only []
              refine hK.out _ _ ?_ (fun hHeld => ?_)
              · exact hBd
              clear hK K
              try simp only [Act.put, List.setIfInBounds_toArray, List.set_cons_zero, List.set_cons_succ]
              refine wpAnyH_ready (rs := [21]) (by kernel_rfl) (by simp) ?_
              refine AllReadyH.cons (o := { dst := some 84, op := Go.Op.buildSlice 30 1 #[(0, Go.Operand.tmp 83)], type := 30, pos := _, after := _, guard := none }) rfl (fun K hK => ?_) AllReadyH.nil
              go_simp
              have hBa : Bl wo (wr.drew.alloc (.cells #[.int .u64 (z : Int)] 22)) := hBd.alloc hBd.size _
              refine hK.out _ _ ?_ (fun hHeld => ?_)
              · exact hBa
              clear hK K
              try simp only [Act.put, List.setIfInBounds_toArray, List.set_cons_zero, List.set_cons_succ]
              refine wpAnyH_ready (rs := [22]) (by kernel_rfl) (by simp) ?_
              refine AllReadyH.cons (o := { dst := some 85, op := Go.Op.call { callee := Go.Callee.builtin Go.Builtin.append, args := #[Go.Operand.tmp 63, Go.Operand.tmp 84], argTypes := #[30, 30] }, type := 30, pos := _, after := _, guard := none }) rfl (fun K hK => ?_) AllReadyH.nil
              refine Ow.append_step kU (w0 := wo) wo.heap.size rfl (.tmp 63) (.tmp 84) 30 22 (.int .u64 0) 8 rfl Tryd.underlying30 cu64info rfl (.slice A12 j c12) _ (sumTo p T L (i + 1) j) [z] rfl rfl (HHO.out _ _ rfl) hBa hBa.size (HHX.out _ rfl) HL8.out (by decide) ?_
              intro v7 w7 hO7 hB7 _ _
              rw [← HSU.out] at hO7
              refine hK.out _ _ ?_ (fun hHeld => ?_)
              · exact hB7
              clear hK K
              try simp only [Act.put, List.setIfInBounds_toArray, List.set_cons_zero, List.set_cons_succ]
              refine wpAnyH_take (i := 23) (oi := { dst := some 12, op := Go.Op.assign (Go.Operand.tmp 85), type := 30, pos := _, after := _, guard := none }) (v := ?_) rfl (by kernel_rfl) (by kernel_rfl) (by kernel_rfl) (fun _ _ _ h => h) ?_ (by assumption) ?_
              rotate_left
              · first | (refine Or.inl ⟨by rfl, ?_⟩; intro w hSw; have z0 := cell_bl hSw m0; have z1 := cell_bl hSw m1; have z2 := cell_bl hSw m2; have z3 := cell_bl hSw m3; have z4 := cell_bl hSw m4; have z5 := cell_bl hSw m5; go_simp; (try (with_reducible rfl)); done) | (refine Or.inr ⟨by rfl, ?_⟩; with_reducible rfl)
              try simp only [Act.put, List.setIfInBounds_toArray, List.set_cons_zero, List.set_cons_succ]
              have HO7 := hide hO7; have HB7 := hide hB7
              clear hO7 hB7 hBa hBd
              refine wpAnyH_done (by kernel_rfl) ?_ _
              go_wp2_with fail
              go_round
              case rel => exact ⟨j + 1, by omega, by go_num, HB7.out, HO7.out⟩
              case measure => simp [intOf]; omega
            · as_aux_lemma =>
              obtain rfl : j = T1 := by omega
              have hjTi : ¬ (j : Int) ≤ (T : Int) := by omega
              have hse := sumTo_end (p := p) (by omega) T L (i + 1)
              rw [← HT1.out] at hse
              rw [hse] at hOz
              have hOi' := HOI.out.bl hBz
              have hB6z := Bl.then HBI.out HBI.out.size hBz
              have hX : (kT (kS kU) (fun b => w6.heap.size ≤ b)).R wr (Ne (Value.slice A10 i c10).ownBlock) [.slice A12 j c12] (linR p T L 2 (i + 1)) :=
                show (kS kU).R wr (fun b => Ne (Value.slice A10 i c10).ownBlock b ∧ w6.heap.size ≤ b) _ _ from hOz.readsU _ fun b hb => ⟨fun e => by
                  have h1 := (HOI.out.base b e.symm).2
                  have h2 := (hOz.base b hb).1
                  omega, Nat.le_trans HBI.out.size (hOz.base b hb).1⟩
              have hl24 : (((List.range i).map fun i => linR p T L 2 (i + 1)).length + 1) * 24 ≤ 140737488355328 := by rw [List.length_map, List.length_range]; omega
              have HX := hide hX; have HOI' := hide hOi'; have HB6Z := hide hB6z; have HL24 := hide hl24
              clear hX hOi' hB6z hl24 hOz hBz hse
              go_wp2_with (at_builtin; refine Ow.append (kT (kS kU) (fun b => w6.heap.size ≤ b)) (w0 := w6) w6.heap.size rfl (.tmp 86) (.tmp 88) 44 30 (.slice none 0 0) 24 rfl Tryd.underlying44 crowinfo rfl (.slice A10 i c10) ((List.range i).map fun i => linR p T L 2 (i + 1)) [.slice A12 j c12] (linR p T L 2 (i + 1)) rfl rfl HOI'.out HB6Z.out HB6Z.out.size HX.out HL24.out (by decide) ?_)
              intro v9 w9 hO9 hB9 _ _
              have hO10 : Ow (kT (kS kU) (fun b => w6.heap.size ≤ b)) w9 w6.heap.size 30 v9 ((List.range (i + 1)).map fun i => linR p T L 2 (i + 1)) := by
                rw [List.range_succ, List.map_append]; exact hO9
              have HO10 := hide hO10; have HB9 := hide hB9
              clear hO9 hO10 hB9
              go_wp2_with fail
              go_round
              case rel => exact ⟨i + 1, by omega, by go_num, HB9.out, HO10.out⟩
              case measure => simp [intOf]; omega
        · as_aux_lemma =>
          obtain rfl : i = N := by omega
          have hsum : (kS (kS kU)).R wo (fun b => w5.heap.size ≤ b) [.slice A10 i c10] (linSh p i T L 2) := by
            unfold linSh
            exact kS_unT (hOi.readsIn _ (fun b hb => Nat.le_trans HB56.out.size (hOi.base b hb).1) fun u x _ hR => (kS kU).sub (S := fun b => Ne (Value.slice A10 i c10).ownBlock b ∧ w6.heap.size ≤ b) (S' := fun b => w5.heap.size ≤ b ∧ w6.heap.size ≤ b) hR fun b _ hb => ⟨Nat.le_trans HB56.out.size hb.2, hb.2⟩)
          have hu0 := (kS (kS kU)).kp HU0.out (hBi.kp _)
          have hu1 := (kS (kS kU)).kp HU1.out (hBi.kp _)
          have hb5 := Bl.then HB56.out HB56.out.size hBi
          have hlit : ∀ W, Bl wo W → (kS (kS (kS kU))).R (W.alloc (.cells #[.slice Au0 i cu0, .slice Au1 i cu1, .slice A10 i c10] 44)) (fun b => w5.heap.size ≤ b) [.slice (some ⟨W.heap.size, 0, none⟩) 3 3] (linL p i T L) := fun W hW => by
            have hWa : Bl wo (W.alloc (.cells #[.slice Au0 i cu0, .slice Au1 i cu1, .slice A10 i c10] 44)) := hW.alloc hW.size (.cells #[.slice Au0 i cu0, .slice Au1 i cu1, .slice A10 i c10] 44)
            have h5W := Nat.le_trans hb5.size hW.size
            refine rd_mk (K := kS (kS kU)) rfl rfl ⟨by omega, by omega⟩ fun j x hx => ?_
            match j, hx with
            | 0, hx =>
              injection hx with hx; subst hx
              exact ⟨_, _, rfl, h5W, (kS (kS kU)).kp hu0 (hWa.kp _), by rw [show (⟨W.heap.size, 0, none⟩ : Addr).add 0 = ⟨W.heap.size, 0, none⟩ from rfl, World.cell?_alloc_at _ _ _ _ rfl]; rfl⟩
            | 1, hx =>
              injection hx with hx; subst hx
              exact ⟨_, _, rfl, h5W, (kS (kS kU)).kp hu1 (hWa.kp _), by rw [show (⟨W.heap.size, 0, none⟩ : Addr).add 1 = ⟨W.heap.size, 1, none⟩ from rfl, World.cell?_alloc_at _ _ _ _ rfl]; rfl⟩
            | 2, hx =>
              injection hx with hx; subst hx
              exact ⟨_, _, rfl, h5W, (kS (kS kU)).kp hsum (hWa.kp _), by rw [show (⟨W.heap.size, 0, none⟩ : Addr).add 2 = ⟨W.heap.size, 2, none⟩ from rfl, World.cell?_alloc_at _ _ _ _ rfl]; rfl⟩
            | j + 3, hx => simp [linL] at hx
          have hrec : ∀ W v, Bl wo W → (kS (kS (kS kU))).R W (fun b => w5.heap.size ≤ b) [v] (linL p i T L) → Calls Tryd.prog 18 #[.pointer (some ⟨nb, 0, none⟩), .int .i64 (q : Nat), v] W fun e w' => Kp (fun b => b < w4.heap.size ∨ w5.heap.size ≤ b) W w' ∧ Below w4.heap.size W w' ∧ ∃ A c, e = .returned (.slice A 3 c) ∧ (kS (kS kU)).R w' Any [.slice A 3 c] [linR p T L 0 q, linR p T L 1 q, linR p T L 2 q] := fun W v hW hv => by
            have h5W := Bl.then HB56.out HB56.out.size (Bl.then hBi hBi.size hW)
            have hbase := HNR.out.base
            have h45 := HB45.out.size
            refine (recover_any W B0 (fun b => b = nb ∨ b = vb) nb ⟨p, i, T, [], []⟩ _ _ v 0 q 3 (fun _ => []) (linL p i T L) _ (HNR.out.bl h5W) (Nat.le_trans hB0' h5W.size) (fun b hb => Nat.lt_of_lt_of_le (by rcases hb with rfl | rfl <;> assumption) h5W.size) HFF.out.hp HFF.out.n4 HFF.out.n13 HFF.out.np HFF.out.t1 HFF.out.t3 HFF.out.dv hv (fun b hb hF => by
              rcases hF with rfl | rfl <;> omega) rfl (by omega) (linL_ok (by omega) L) hq1 hqN (by omega) (fun j => by simp)).mono ?_
            rintro e w' ⟨hF, F1, v1, rfl, _, _, hr1⟩
            have hr1 : (kS (kS kU)).R w' (fun b => ¬ F1 b ∧ W.heap.size ≤ b) [v1] ((List.range 3).map (recRow p i T q 3 (rcHeard p [] [] q 3 (rw2 (linL p i T L))))) := hr1
            have hm : (List.range 3).map (recRow p i T q 3 (rcHeard p [] [] q 3 (rw2 (linL p i T L)))) = [linR p T L 0 q, linR p T L 1 q, linR p T L 2 q] := by
              show [recRow _ _ _ _ _ _ 0, recRow _ _ _ _ _ _ 1, recRow _ _ _ _ _ _ 2] = _
              rw [HRR.out 0 (by omega), HRR.out 1 (by omega), HRR.out 2 (by omega)]
            rw [hm] at hr1
            obtain ⟨A, c, rfl, _, _⟩ := kS_len hr1
            refine ⟨hF.kp fun b _ hb hF => ?_, hF.below (Nat.le_trans HB45.out.size h5W.size) fun b hb hF => ?_, A, c, rfl, (kS (kS kU)).any hr1⟩
            · have := hbase b hF
              rcases hb with hb | hb
              · omega
              · rcases hF with rfl | rfl <;> omega
            · have := hbase b hF; omega
          have k30 := cell_bl hBi e0
          have k31 := cell_bl hBi e1
          have k32 := cell_bl hBi e2
          have k33 := cell_bl hBi e3
          have k34 := cell_bl hBi e4
          have k35 := cell_bl hBi e5
          have k36 := cell_bl hBi e6
          have k37 := cell_bl hBi e7
          have k38 := cell_bl hBi e8
          have m0 := cell_bl hBi hcu0
          have m1 := cell_bl hBi hcu1
          have hBw := Bl.then HB6.out HB6.out.size hBi
          have hB4w := Bl.then HB45.out HB45.out.size hb5
          have HLIT := hide hlit; have HREC := hide hrec; have HBW := hide hBw; have HB4W := hide hB4w
          clear hlit hrec hBw hB4w hsum hu0 hu1 hb5 hOi hBi e0 e1 e2 e3 e4 e5 e6 e7 e8
          go_wp2_with fail
          refine wp_region_held_drew (S := fun w' => w'.cell? ⟨b4', 0, none⟩ = some (.int .u64 p) ∧ w'.cell? ⟨b4', 1, none⟩ = some (.int .i64 i) ∧ w'.cell? ⟨b4', 2, none⟩ = some (.int .i64 T) ∧ w'.cell? ⟨b4', 3, none⟩ = some (.slice none 0 0) ∧ w'.cell? ⟨b4', 4, none⟩ = some (.slice none 0 0) ∧ w'.cell? ⟨b4', 5, none⟩ = some (.slice At tapes.length ct) ∧ w'.cell? ⟨b4', 6, none⟩ = some (.int .u8 wh) ∧ w'.cell? ⟨b4', 7, none⟩ = some (.slice Al 2 cl) ∧ w'.cell? ⟨b4', 8, none⟩ = some (.slice none 0 0) ∧ w'.cell? a6 = some (.slice Au0 i cu0) ∧ w'.cell? ⟨a6.block, a6.off + 1, none⟩ = some (.slice Au1 i cu1)) (by kernel_rfl) ?_ (fun hHeld => ?_)
          · have hBd : Bl wo wo.drew := Bl.dr (Below.refl _ _) (Dr.one (Dr.refl _))
            exact ⟨cell_bl hBd k30, cell_bl hBd k31, cell_bl hBd k32, cell_bl hBd k33, cell_bl hBd k34, cell_bl hBd k35, cell_bl hBd k36, cell_bl hBd k37, cell_bl hBd k38, cell_bl hBd m0, cell_bl hBd m1⟩
          refine wpAnyH_take (i := 0) (oi := { dst := some 90, op := Go.Op.move (Go.Operand.tmp 5), type := 36, pos := _, after := _, guard := none }) (v := ?_) rfl (by kernel_rfl) (by kernel_rfl) (by kernel_rfl) (fun _ _ _ h => h) ?_ (by assumption) ?_
          rotate_left
          · first | (refine Or.inl ⟨by rfl, ?_⟩; intro w hSw; (try dsimp only at hSw); go_simp; (try (with_reducible rfl)); done) | (refine Or.inr ⟨by rfl, ?_⟩; with_reducible rfl)
          try simp only [Act.put, List.setIfInBounds_toArray, List.set_cons_zero, List.set_cons_succ]
          refine wpAnyH_take (i := 1) (oi := { dst := some 91, op := Go.Op.load 32 (Go.Operand.tmp 4), type := 32, pos := _, after := _, guard := none }) (v := ?_) rfl (by kernel_rfl) (by kernel_rfl) (by kernel_rfl) (fun _ _ _ h => h) ?_ (by assumption) ?_
          rotate_left
          · first | (refine Or.inl ⟨by rfl, ?_⟩; intro w hSw; (try dsimp only at hSw); go_simp; (try (with_reducible rfl)); done) | (refine Or.inr ⟨by rfl, ?_⟩; with_reducible rfl)
          try simp only [Act.put, List.setIfInBounds_toArray, List.set_cons_zero, List.set_cons_succ]
          refine wpAnyH_take (i := 3) (oi := { dst := some 93, op := Go.Op.move (Go.Operand.tmp 8), type := 40, pos := _, after := _, guard := none }) (v := ?_) rfl (by kernel_rfl) (by kernel_rfl) (by kernel_rfl) (fun _ _ _ h => h) ?_ (by assumption) ?_
          rotate_left
          · first | (refine Or.inl ⟨by rfl, ?_⟩; intro w hSw; (try dsimp only at hSw); go_simp; (try (with_reducible rfl)); done) | (refine Or.inr ⟨by rfl, ?_⟩; with_reducible rfl)
          try simp only [Act.put, List.setIfInBounds_toArray, List.set_cons_zero, List.set_cons_succ]
          refine wpAnyH_take (i := 4) (oi := { dst := some 94, op := Go.Op.indexAddr 40 (Go.Operand.tmp 93) (Go.Operand.const (Go.Value.int Go.IntKind.i64 0)), type := 0, pos := _, after := _, guard := none }) (v := ?_) rfl (by kernel_rfl) (by kernel_rfl) (by kernel_rfl) (fun _ _ _ h => h) ?_ (by assumption) ?_
          rotate_left
          · first | (refine Or.inl ⟨by rfl, ?_⟩; intro w hSw; (try dsimp only at hSw); go_simp; (try (with_reducible rfl)); done) | (refine Or.inr ⟨by rfl, ?_⟩; with_reducible rfl)
          try simp only [Act.put, List.setIfInBounds_toArray, List.set_cons_zero, List.set_cons_succ]
          refine wpAnyH_take (i := 5) (oi := { dst := some 95, op := Go.Op.load 44 (Go.Operand.tmp 94), type := 44, pos := _, after := _, guard := none }) (v := ?_) rfl (by kernel_rfl) (by kernel_rfl) (by kernel_rfl) (fun _ _ _ h => h) ?_ (by assumption) ?_
          rotate_left
          · first | (refine Or.inl ⟨by rfl, ?_⟩; intro w hSw; (try dsimp only at hSw); go_simp; (try (with_reducible rfl)); done) | (refine Or.inr ⟨by rfl, ?_⟩; with_reducible rfl)
          try simp only [Act.put, List.setIfInBounds_toArray, List.set_cons_zero, List.set_cons_succ]
          refine wpAnyH_take (i := 6) (oi := { dst := some 96, op := Go.Op.move (Go.Operand.tmp 8), type := 40, pos := _, after := _, guard := none }) (v := ?_) rfl (by kernel_rfl) (by kernel_rfl) (by kernel_rfl) (fun _ _ _ h => h) ?_ (by assumption) ?_
          rotate_left
          · first | (refine Or.inl ⟨by rfl, ?_⟩; intro w hSw; (try dsimp only at hSw); go_simp; (try (with_reducible rfl)); done) | (refine Or.inr ⟨by rfl, ?_⟩; with_reducible rfl)
          try simp only [Act.put, List.setIfInBounds_toArray, List.set_cons_zero, List.set_cons_succ]
          refine wpAnyH_take (i := 7) (oi := { dst := some 97, op := Go.Op.indexAddr 40 (Go.Operand.tmp 96) (Go.Operand.const (Go.Value.int Go.IntKind.i64 1)), type := 0, pos := _, after := _, guard := none }) (v := ?_) rfl (by kernel_rfl) (by kernel_rfl) (by kernel_rfl) (fun _ _ _ h => h) ?_ (by assumption) ?_
          rotate_left
          · first | (refine Or.inl ⟨by rfl, ?_⟩; intro w hSw; (try dsimp only at hSw); go_simp; (try (with_reducible rfl)); done) | (refine Or.inr ⟨by rfl, ?_⟩; with_reducible rfl)
          try simp only [Act.put, List.setIfInBounds_toArray, List.set_cons_zero, List.set_cons_succ]
          refine wpAnyH_take (i := 8) (oi := { dst := some 98, op := Go.Op.load 44 (Go.Operand.tmp 97), type := 44, pos := _, after := _, guard := none }) (v := ?_) rfl (by kernel_rfl) (by kernel_rfl) (by kernel_rfl) (fun _ _ _ h => h) ?_ (by assumption) ?_
          rotate_left
          · first | (refine Or.inl ⟨by rfl, ?_⟩; intro w hSw; (try dsimp only at hSw); go_simp; (try (with_reducible rfl)); done) | (refine Or.inr ⟨by rfl, ?_⟩; with_reducible rfl)
          try simp only [Act.put, List.setIfInBounds_toArray, List.set_cons_zero, List.set_cons_succ]
          refine wpAnyH_take (i := 9) (oi := { dst := some 99, op := Go.Op.move (Go.Operand.tmp 10), type := 44, pos := _, after := _, guard := none }) (v := ?_) rfl (by kernel_rfl) (by kernel_rfl) (by kernel_rfl) (fun _ _ _ h => h) ?_ (by assumption) ?_
          rotate_left
          · first | (refine Or.inl ⟨by rfl, ?_⟩; intro w hSw; (try dsimp only at hSw); go_simp; (try (with_reducible rfl)); done) | (refine Or.inr ⟨by rfl, ?_⟩; with_reducible rfl)
          try simp only [Act.put, List.setIfInBounds_toArray, List.set_cons_zero, List.set_cons_succ]
          refine wpAnyH_ready (rs := [2, 10]) (by kernel_rfl) (by simp) ?_
          refine AllReadyH.cons (o := { dst := some 92, op := Go.Op.call { callee := Go.Callee.value (Go.Operand.func 19), args := #[Go.Operand.tmp 91], argTypes := #[32] }, type := 3, pos := _, after := _, guard := none }) rfl (fun K hK => ?_) (AllReadyH.cons (o := { dst := some 100, op := Go.Op.buildSlice 40 3 #[(0, Go.Operand.tmp 95), (1, Go.Operand.tmp 98), (2, Go.Operand.tmp 99)], type := 40, pos := _, after := _, guard := none }) rfl (fun K hK => ?_) (AllReadyH.nil))
          · skip
            go_simp
            refine (HWHO.out _).mono ?_
            rintro e w7 ⟨rfl, hB7⟩
            have hB7 : Bl wo w7 := (Bl.dr (Below.refl _ _) (Dr.one (Dr.refl _))).trans hB7
            simp only []
            refine hK.out _ _ ?_ (fun hHeld => ?_)
            · exact ⟨cell_bl hB7 k30, cell_bl hB7 k31, cell_bl hB7 k32, cell_bl hB7 k33, cell_bl hB7 k34, cell_bl hB7 k35, cell_bl hB7 k36, cell_bl hB7 k37, cell_bl hB7 k38, cell_bl hB7 m0, cell_bl hB7 m1⟩
            clear hK K
            try simp only [Act.put, List.setIfInBounds_toArray, List.set_cons_zero, List.set_cons_succ]
            refine wpAnyH_ready (rs := [10]) (by kernel_rfl) (by simp) ?_
            refine AllReadyH.cons (o := { dst := some 100, op := Go.Op.buildSlice 40 3 #[(0, Go.Operand.tmp 95), (1, Go.Operand.tmp 98), (2, Go.Operand.tmp 99)], type := 40, pos := _, after := _, guard := none }) rfl (fun K hK => ?_) AllReadyH.nil
            go_simp
            have hB7a : Bl wo (w7.alloc (.cells #[.slice Au0 i cu0, .slice Au1 i cu1, .slice A10 i c10] 44)) := hB7.alloc hB7.size _
            refine hK.out _ _ ?_ (fun hHeld => ?_)
            · exact ⟨cell_bl hB7a k30, cell_bl hB7a k31, cell_bl hB7a k32, cell_bl hB7a k33, cell_bl hB7a k34, cell_bl hB7a k35, cell_bl hB7a k36, cell_bl hB7a k37, cell_bl hB7a k38, cell_bl hB7a m0, cell_bl hB7a m1⟩
            clear hK K
            try simp only [Act.put, List.setIfInBounds_toArray, List.set_cons_zero, List.set_cons_succ]
            refine wpAnyH_ready (rs := [11]) (by kernel_rfl) (by simp) ?_
            refine AllReadyH.cons (o := { dst := some 101, op := Go.Op.call { callee := Go.Callee.value (Go.Operand.func 18), args := #[Go.Operand.tmp 90, Go.Operand.tmp 92, Go.Operand.tmp 100], argTypes := #[36, 3, 40] }, type := 27, pos := _, after := _, guard := none }) rfl (fun K hK => ?_) AllReadyH.nil
            go_simp
            refine (HREC.out _ _ hB7a (HLIT.out _ hB7)).mono ?_
            rintro e w8 ⟨hK8, hB48, A8, c8, rfl, hr8⟩
            have hB48' : Bl w4 w8 := (Bl.then HB4W.out HB4W.out.size hB7a).trans hB48
            simp only []
            refine hK.out _ _ ?_ (fun hHeld => ?_)
            · exact ⟨cell_kp hK8 (cell_bl hB7a k30) (Or.inl hb4lt), cell_kp hK8 (cell_bl hB7a k31) (Or.inl hb4lt), cell_kp hK8 (cell_bl hB7a k32) (Or.inl hb4lt), cell_kp hK8 (cell_bl hB7a k33) (Or.inl hb4lt), cell_kp hK8 (cell_bl hB7a k34) (Or.inl hb4lt), cell_kp hK8 (cell_bl hB7a k35) (Or.inl hb4lt), cell_kp hK8 (cell_bl hB7a k36) (Or.inl hb4lt), cell_kp hK8 (cell_bl hB7a k37) (Or.inl hb4lt), cell_kp hK8 (cell_bl hB7a k38) (Or.inl hb4lt), cell_kp hK8 (cell_bl hB7a m0) (Or.inr hsa6), cell_kp hK8 (cell_bl hB7a m1) (Or.inr hsa6)⟩
            clear hK K
            try simp only [Act.put, List.setIfInBounds_toArray, List.set_cons_zero, List.set_cons_succ]
            refine wpAnyH_take (i := 12) (oi := { dst := some 14, op := Go.Op.assign (Go.Operand.tmp 101), type := 27, pos := _, after := _, guard := none }) (v := ?_) rfl (by kernel_rfl) (by kernel_rfl) (by kernel_rfl) (fun _ _ _ h => h) ?_ (by assumption) ?_
            rotate_left
            · first | (refine Or.inl ⟨by rfl, ?_⟩; intro w hSw; (try dsimp only at hSw); go_simp; (try (with_reducible rfl)); done) | (refine Or.inr ⟨by rfl, ?_⟩; with_reducible rfl)
            try simp only [Act.put, List.setIfInBounds_toArray, List.set_cons_zero, List.set_cons_succ]
            have HB8 := hide (Bl.then HB4.out HB4.out.size hB48')
            have n2 := cell_bl hB48' gg2
            obtain ⟨A8', c8', e', _, hel8⟩ := rd_open rfl hr8
            obtain ⟨a8, x0, hA0, _, hx0, hcx0⟩ := hel8 0 _ rfl
            obtain ⟨a8b, x1, hA1, _, hx1, hcx1⟩ := hel8 1 _ rfl
            obtain ⟨a8c, x2, hA2, _, hx2, hcx2⟩ := hel8 2 _ rfl
            injection e' with e'1 e'2 e'3
            subst e'1
            subst hA0
            injection hA1 with hA1
            subst hA1
            injection hA2 with hA2
            subst hA2
            obtain ⟨X0, y0c, rfl, ⟨hl0, hl0'⟩, hy0⟩ := rdU ((kS kU).low hx0)
            obtain ⟨X1, y1c, rfl, ⟨hl1, hl1'⟩, hy1⟩ := rdU ((kS kU).low hx1)
            obtain ⟨X2, y2c, rfl, ⟨hl2, hl2'⟩, hy2⟩ := rdU ((kS kU).low hx2)
            rw [linR_len, ← HT1.out] at hcx0 hcx1 hcx2 hy0 hy1 hy2 hl0 hl1 hl2
            rw [show a8.add 0 = a8 by unfold Addr.add; split <;> simp_all] at hcx0
            rw [show a8.add 1 = ⟨a8.block, a8.off + 1, none⟩ by simp [Addr.add]] at hcx1
            rw [show a8.add 2 = ⟨a8.block, a8.off + 2, none⟩ by simp [Addr.add]] at hcx2
            have HY0 := hide hy0; have HY1 := hide hy1; have HY2 := hide hy2
            clear hy0 hy1 hy2 hx0 hx1 hx2 hel8 hr8 hK8 hB48 hB48' e'2 e'3 k30 k31 k32 k33 k34 k35 k36 k37 k38 m0 m1 k1 k2 hcu0 hcu1
            refine wpAnyH_done (by kernel_rfl) ?_ _
            go_wp2_with fail
            go_loopw [15] (fun ix wr => ∃ k : Nat, k ≤ T1 ∧ ix = .int .i64 k ∧ Bl w8 wr) (fun ix _ => T1 - (intOf ix).toNat)
            case atStart => exact ⟨0, by omega, rfl, Below.refl _ _⟩
            case round =>
              obtain ⟨k, hk, rfl, hBk⟩ := hrel
              have l2 := cell_bl hBk n2
              by_cases hkT : k < T1
              · as_aux_lemma =>
                have hkTi : (k : Int) ≤ (T : Int) := by omega
                have hkT1 : (k : Int) < (T1 : Int) := by omega
                have hk0 : (0 : Int) ≤ (k : Int) := by omega
                obtain ⟨q0, rfl, _, hv0, hz0⟩ := HY0.out k hkT
                obtain ⟨q1, rfl, _, hv1, hz1⟩ := HY1.out k hkT
                obtain ⟨q2, rfl, _, hv2, hz2⟩ := HY2.out k hkT
                have hla := lin_at (p := p) (by omega) T L q (j := k) (by rw [← HT1.out]; exact hkT)
                rw [hla] at hv2
                obtain ⟨y0, hy0e⟩ : ∃ y, y = (linR p T L 0 q).getD k 0 := ⟨_, rfl⟩
                obtain ⟨y1, hy1e⟩ : ∃ y, y = (linR p T L 1 q).getD k 0 := ⟨_, rfl⟩
                rw [← hy0e] at hv0
                rw [← hy1e] at hv1
                rw [← hy0e, ← hy1e] at hv2
                have hy0p : y0 < p := by rw [hy0e]; exact getD_ltp (by omega) (rowB_lt (by omega) _ _ _) _
                have hy1p : y1 < p := by rw [hy1e]; exact getD_ltp (by omega) (rowB_lt (by omega) _ _ _) _
                have hadd := fun W => radd_any p y0 y1 W HFF.out.hp hy0p hy1p
                obtain ⟨z, hz⟩ : ∃ z, z = fadd p y0 y1 := ⟨_, rfl⟩
                rw [← hz] at hadd hv2
                have s0 := cell_bl hBk hcx0
                have s1 := cell_bl hBk hcx1
                have s2 := cell_bl hBk hcx2
                have s3 := cell_bl hBk hv0
                have s4 := cell_bl hBk hv1
                have s5 := cell_bl hBk hv2
                have HADD := hide hadd; have HBK := hide hBk
                clear hadd hBk hla hv0 hv1 hv2 hz hy0e hy1e hz0 hz1 hz2 hcx0 hcx1 hcx2
                go_wp2_with fail
                refine wp_region_held_drew (S := fun w' => Bl wr w') (by kernel_rfl) ((Dr.one (Dr.refl wr)).below _) (fun hHeld => ?_)
                refine wpAnyH_take (i := 0) (oi := { dst := some 112, op := Go.Op.move (Go.Operand.tmp 14), type := 27, pos := _, after := _, guard := none }) (v := ?_) rfl (by kernel_rfl) (by kernel_rfl) (by kernel_rfl) (fun _ _ _ h => h) ?_ (by assumption) ?_
                rotate_left
                · first | (refine Or.inl ⟨by rfl, ?_⟩; intro w hSw; have z0 := cell_bl hSw s0; have z1 := cell_bl hSw s1; have z2 := cell_bl hSw s2; have z3 := cell_bl hSw s3; have z4 := cell_bl hSw s4; have z5 := cell_bl hSw s5; have z6 := cell_bl hSw l2; go_simp; (try (with_reducible rfl)); done) | (refine Or.inr ⟨by rfl, ?_⟩; with_reducible rfl)
                try simp only [Act.put, List.setIfInBounds_toArray, List.set_cons_zero, List.set_cons_succ]
                refine wpAnyH_take (i := 1) (oi := { dst := some 113, op := Go.Op.indexAddr 27 (Go.Operand.tmp 112) (Go.Operand.const (Go.Value.int Go.IntKind.i64 0)), type := 0, pos := _, after := _, guard := none }) (v := ?_) rfl (by kernel_rfl) (by kernel_rfl) (by kernel_rfl) (fun _ _ _ h => h) ?_ (by assumption) ?_
                rotate_left
                · first | (refine Or.inl ⟨by rfl, ?_⟩; intro w hSw; have z0 := cell_bl hSw s0; have z1 := cell_bl hSw s1; have z2 := cell_bl hSw s2; have z3 := cell_bl hSw s3; have z4 := cell_bl hSw s4; have z5 := cell_bl hSw s5; have z6 := cell_bl hSw l2; go_simp; (try (with_reducible rfl)); done) | (refine Or.inr ⟨by rfl, ?_⟩; with_reducible rfl)
                try simp only [Act.put, List.setIfInBounds_toArray, List.set_cons_zero, List.set_cons_succ]
                refine wpAnyH_take (i := 2) (oi := { dst := some 114, op := Go.Op.load 30 (Go.Operand.tmp 113), type := 30, pos := _, after := _, guard := none }) (v := ?_) rfl (by kernel_rfl) (by kernel_rfl) (by kernel_rfl) (fun _ _ _ h => h) ?_ (by assumption) ?_
                rotate_left
                · first | (refine Or.inl ⟨by rfl, ?_⟩; intro w hSw; have z0 := cell_bl hSw s0; have z1 := cell_bl hSw s1; have z2 := cell_bl hSw s2; have z3 := cell_bl hSw s3; have z4 := cell_bl hSw s4; have z5 := cell_bl hSw s5; have z6 := cell_bl hSw l2; go_simp; (try (with_reducible rfl)); done) | (refine Or.inr ⟨by rfl, ?_⟩; with_reducible rfl)
                try simp only [Act.put, List.setIfInBounds_toArray, List.set_cons_zero, List.set_cons_succ]
                refine wpAnyH_take (i := 3) (oi := { dst := some 115, op := Go.Op.call { callee := Go.Callee.builtin Go.Builtin.len, args := #[Go.Operand.tmp 114], argTypes := #[30] }, type := 3, pos := _, after := _, guard := none }) (v := ?_) rfl (by kernel_rfl) (by kernel_rfl) (by kernel_rfl) (fun _ _ _ h => h) ?_ (by assumption) ?_
                rotate_left
                · first | (refine Or.inl ⟨by rfl, ?_⟩; intro w hSw; have z0 := cell_bl hSw s0; have z1 := cell_bl hSw s1; have z2 := cell_bl hSw s2; have z3 := cell_bl hSw s3; have z4 := cell_bl hSw s4; have z5 := cell_bl hSw s5; have z6 := cell_bl hSw l2; go_simp; (try (with_reducible rfl)); done) | (refine Or.inr ⟨by rfl, ?_⟩; with_reducible rfl)
                try simp only [Act.put, List.setIfInBounds_toArray, List.set_cons_zero, List.set_cons_succ]
                refine wpAnyH_take (i := 4) (oi := { dst := some 116, op := Go.Op.fieldAddr 29 (Go.Operand.tmp 3) 0, type := 0, pos := _, after := _, guard := none }) (v := ?_) rfl (by kernel_rfl) (by kernel_rfl) (by kernel_rfl) (fun _ _ _ h => h) ?_ (by assumption) ?_
                rotate_left
                · first | (refine Or.inl ⟨by rfl, ?_⟩; intro w hSw; have z0 := cell_bl hSw s0; have z1 := cell_bl hSw s1; have z2 := cell_bl hSw s2; have z3 := cell_bl hSw s3; have z4 := cell_bl hSw s4; have z5 := cell_bl hSw s5; have z6 := cell_bl hSw l2; go_simp; (try (with_reducible rfl)); done) | (refine Or.inr ⟨by rfl, ?_⟩; with_reducible rfl)
                try simp only [Act.put, List.setIfInBounds_toArray, List.set_cons_zero, List.set_cons_succ]
                refine wpAnyH_take (i := 5) (oi := { dst := some 117, op := Go.Op.fieldAddr 24 (Go.Operand.tmp 116) 2, type := 0, pos := _, after := _, guard := none }) (v := ?_) rfl (by kernel_rfl) (by kernel_rfl) (by kernel_rfl) (fun _ _ _ h => h) ?_ (by assumption) ?_
                rotate_left
                · first | (refine Or.inl ⟨by rfl, ?_⟩; intro w hSw; have z0 := cell_bl hSw s0; have z1 := cell_bl hSw s1; have z2 := cell_bl hSw s2; have z3 := cell_bl hSw s3; have z4 := cell_bl hSw s4; have z5 := cell_bl hSw s5; have z6 := cell_bl hSw l2; go_simp; (try (with_reducible rfl)); done) | (refine Or.inr ⟨by rfl, ?_⟩; with_reducible rfl)
                try simp only [Act.put, List.setIfInBounds_toArray, List.set_cons_zero, List.set_cons_succ]
                refine wpAnyH_take (i := 6) (oi := { dst := some 118, op := Go.Op.load 3 (Go.Operand.tmp 117), type := 3, pos := _, after := _, guard := none }) (v := ?_) rfl (by kernel_rfl) (by kernel_rfl) (by kernel_rfl) (fun _ _ _ h => h) ?_ (by assumption) ?_
                rotate_left
                · first | (refine Or.inl ⟨by rfl, ?_⟩; intro w hSw; have z0 := cell_bl hSw s0; have z1 := cell_bl hSw s1; have z2 := cell_bl hSw s2; have z3 := cell_bl hSw s3; have z4 := cell_bl hSw s4; have z5 := cell_bl hSw s5; have z6 := cell_bl hSw l2; go_simp; (try (with_reducible rfl)); done) | (refine Or.inr ⟨by rfl, ?_⟩; with_reducible rfl)
                try simp only [Act.put, List.setIfInBounds_toArray, List.set_cons_zero, List.set_cons_succ]
                refine wpAnyH_take (i := 7) (oi := { dst := some 119, op := Go.Op.binOp Go.BinOp.add 3 (Go.Operand.tmp 118) (Go.Operand.const (Go.Value.int Go.IntKind.i64 1)) 3, type := 3, pos := _, after := _, guard := none }) (v := ?_) rfl (by kernel_rfl) (by kernel_rfl) (by kernel_rfl) (fun _ _ _ h => h) ?_ (by assumption) ?_
                rotate_left
                · first | (refine Or.inl ⟨by rfl, ?_⟩; intro w hSw; have z0 := cell_bl hSw s0; have z1 := cell_bl hSw s1; have z2 := cell_bl hSw s2; have z3 := cell_bl hSw s3; have z4 := cell_bl hSw s4; have z5 := cell_bl hSw s5; have z6 := cell_bl hSw l2; go_simp; (try (with_reducible rfl)); done) | (refine Or.inr ⟨by rfl, ?_⟩; with_reducible rfl)
                try simp only [Act.put, List.setIfInBounds_toArray, List.set_cons_zero, List.set_cons_succ]
                refine wpAnyH_take (i := 8) (oi := { dst := some 120, op := Go.Op.binOp Go.BinOp.neq 3 (Go.Operand.tmp 115) (Go.Operand.tmp 119) 3, type := 4, pos := _, after := _, guard := none }) (v := ?_) rfl (by kernel_rfl) (by kernel_rfl) (by kernel_rfl) (fun _ _ _ h => h) ?_ (by assumption) ?_
                rotate_left
                · first | (refine Or.inl ⟨by rfl, ?_⟩; intro w hSw; have z0 := cell_bl hSw s0; have z1 := cell_bl hSw s1; have z2 := cell_bl hSw s2; have z3 := cell_bl hSw s3; have z4 := cell_bl hSw s4; have z5 := cell_bl hSw s5; have z6 := cell_bl hSw l2; go_simp; (try (with_reducible rfl)); done) | (refine Or.inr ⟨by rfl, ?_⟩; with_reducible rfl)
                try simp only [Act.put, List.setIfInBounds_toArray, List.set_cons_zero, List.set_cons_succ]
                refine wpAnyH_take (i := 9) (oi := { dst := some 121, op := Go.Op.move (Go.Operand.tmp 120), type := 4, pos := _, after := _, guard := none }) (v := ?_) rfl (by kernel_rfl) (by kernel_rfl) (by kernel_rfl) (fun _ _ _ h => h) ?_ (by assumption) ?_
                rotate_left
                · first | (refine Or.inl ⟨by rfl, ?_⟩; intro w hSw; have z0 := cell_bl hSw s0; have z1 := cell_bl hSw s1; have z2 := cell_bl hSw s2; have z3 := cell_bl hSw s3; have z4 := cell_bl hSw s4; have z5 := cell_bl hSw s5; have z6 := cell_bl hSw l2; go_simp; (try (with_reducible rfl)); done) | (refine Or.inr ⟨by rfl, ?_⟩; with_reducible rfl)
                try simp only [Act.put, List.setIfInBounds_toArray, List.set_cons_zero, List.set_cons_succ]
                refine wpAnyH_take (i := 10) (oi := { dst := some 122, op := Go.Op.move (Go.Operand.tmp 14), type := 27, pos := _, after := _, guard := some (9, false) }) (v := ?_) rfl (by kernel_rfl) (by kernel_rfl) (by kernel_rfl) (fun _ _ _ h => h) ?_ (by assumption) ?_
                rotate_left
                · first | (refine Or.inl ⟨by rfl, ?_⟩; intro w hSw; have z0 := cell_bl hSw s0; have z1 := cell_bl hSw s1; have z2 := cell_bl hSw s2; have z3 := cell_bl hSw s3; have z4 := cell_bl hSw s4; have z5 := cell_bl hSw s5; have z6 := cell_bl hSw l2; go_simp; (try (with_reducible rfl)); done) | (refine Or.inr ⟨by rfl, ?_⟩; with_reducible rfl)
                try simp only [Act.put, List.setIfInBounds_toArray, List.set_cons_zero, List.set_cons_succ]
                refine wpAnyH_take (i := 11) (oi := { dst := some 123, op := Go.Op.indexAddr 27 (Go.Operand.tmp 122) (Go.Operand.const (Go.Value.int Go.IntKind.i64 1)), type := 0, pos := _, after := _, guard := some (9, false) }) (v := ?_) rfl (by kernel_rfl) (by kernel_rfl) (by kernel_rfl) (fun _ _ _ h => h) ?_ (by assumption) ?_
                rotate_left
                · first | (refine Or.inl ⟨by rfl, ?_⟩; intro w hSw; have z0 := cell_bl hSw s0; have z1 := cell_bl hSw s1; have z2 := cell_bl hSw s2; have z3 := cell_bl hSw s3; have z4 := cell_bl hSw s4; have z5 := cell_bl hSw s5; have z6 := cell_bl hSw l2; go_simp; (try (with_reducible rfl)); done) | (refine Or.inr ⟨by rfl, ?_⟩; with_reducible rfl)
                try simp only [Act.put, List.setIfInBounds_toArray, List.set_cons_zero, List.set_cons_succ]
                refine wpAnyH_take (i := 12) (oi := { dst := some 124, op := Go.Op.load 30 (Go.Operand.tmp 123), type := 30, pos := _, after := _, guard := some (9, false) }) (v := ?_) rfl (by kernel_rfl) (by kernel_rfl) (by kernel_rfl) (fun _ _ _ h => h) ?_ (by assumption) ?_
                rotate_left
                · first | (refine Or.inl ⟨by rfl, ?_⟩; intro w hSw; have z0 := cell_bl hSw s0; have z1 := cell_bl hSw s1; have z2 := cell_bl hSw s2; have z3 := cell_bl hSw s3; have z4 := cell_bl hSw s4; have z5 := cell_bl hSw s5; have z6 := cell_bl hSw l2; go_simp; (try (with_reducible rfl)); done) | (refine Or.inr ⟨by rfl, ?_⟩; with_reducible rfl)
                try simp only [Act.put, List.setIfInBounds_toArray, List.set_cons_zero, List.set_cons_succ]
                refine wpAnyH_take (i := 13) (oi := { dst := some 125, op := Go.Op.call { callee := Go.Callee.builtin Go.Builtin.len, args := #[Go.Operand.tmp 124], argTypes := #[30] }, type := 3, pos := _, after := _, guard := some (9, false) }) (v := ?_) rfl (by kernel_rfl) (by kernel_rfl) (by kernel_rfl) (fun _ _ _ h => h) ?_ (by assumption) ?_
                rotate_left
                · first | (refine Or.inl ⟨by rfl, ?_⟩; intro w hSw; have z0 := cell_bl hSw s0; have z1 := cell_bl hSw s1; have z2 := cell_bl hSw s2; have z3 := cell_bl hSw s3; have z4 := cell_bl hSw s4; have z5 := cell_bl hSw s5; have z6 := cell_bl hSw l2; go_simp; (try (with_reducible rfl)); done) | (refine Or.inr ⟨by rfl, ?_⟩; with_reducible rfl)
                try simp only [Act.put, List.setIfInBounds_toArray, List.set_cons_zero, List.set_cons_succ]
                refine wpAnyH_take (i := 14) (oi := { dst := some 126, op := Go.Op.fieldAddr 29 (Go.Operand.tmp 3) 0, type := 0, pos := _, after := _, guard := some (9, false) }) (v := ?_) rfl (by kernel_rfl) (by kernel_rfl) (by kernel_rfl) (fun _ _ _ h => h) ?_ (by assumption) ?_
                rotate_left
                · first | (refine Or.inl ⟨by rfl, ?_⟩; intro w hSw; have z0 := cell_bl hSw s0; have z1 := cell_bl hSw s1; have z2 := cell_bl hSw s2; have z3 := cell_bl hSw s3; have z4 := cell_bl hSw s4; have z5 := cell_bl hSw s5; have z6 := cell_bl hSw l2; go_simp; (try (with_reducible rfl)); done) | (refine Or.inr ⟨by rfl, ?_⟩; with_reducible rfl)
                try simp only [Act.put, List.setIfInBounds_toArray, List.set_cons_zero, List.set_cons_succ]
                refine wpAnyH_take (i := 15) (oi := { dst := some 127, op := Go.Op.fieldAddr 24 (Go.Operand.tmp 126) 2, type := 0, pos := _, after := _, guard := some (9, false) }) (v := ?_) rfl (by kernel_rfl) (by kernel_rfl) (by kernel_rfl) (fun _ _ _ h => h) ?_ (by assumption) ?_
                rotate_left
                · first | (refine Or.inl ⟨by rfl, ?_⟩; intro w hSw; have z0 := cell_bl hSw s0; have z1 := cell_bl hSw s1; have z2 := cell_bl hSw s2; have z3 := cell_bl hSw s3; have z4 := cell_bl hSw s4; have z5 := cell_bl hSw s5; have z6 := cell_bl hSw l2; go_simp; (try (with_reducible rfl)); done) | (refine Or.inr ⟨by rfl, ?_⟩; with_reducible rfl)
                try simp only [Act.put, List.setIfInBounds_toArray, List.set_cons_zero, List.set_cons_succ]
                refine wpAnyH_take (i := 16) (oi := { dst := some 128, op := Go.Op.load 3 (Go.Operand.tmp 127), type := 3, pos := _, after := _, guard := some (9, false) }) (v := ?_) rfl (by kernel_rfl) (by kernel_rfl) (by kernel_rfl) (fun _ _ _ h => h) ?_ (by assumption) ?_
                rotate_left
                · first | (refine Or.inl ⟨by rfl, ?_⟩; intro w hSw; have z0 := cell_bl hSw s0; have z1 := cell_bl hSw s1; have z2 := cell_bl hSw s2; have z3 := cell_bl hSw s3; have z4 := cell_bl hSw s4; have z5 := cell_bl hSw s5; have z6 := cell_bl hSw l2; go_simp; (try (with_reducible rfl)); done) | (refine Or.inr ⟨by rfl, ?_⟩; with_reducible rfl)
                try simp only [Act.put, List.setIfInBounds_toArray, List.set_cons_zero, List.set_cons_succ]
                refine wpAnyH_take (i := 17) (oi := { dst := some 129, op := Go.Op.binOp Go.BinOp.add 3 (Go.Operand.tmp 128) (Go.Operand.const (Go.Value.int Go.IntKind.i64 1)) 3, type := 3, pos := _, after := _, guard := some (9, false) }) (v := ?_) rfl (by kernel_rfl) (by kernel_rfl) (by kernel_rfl) (fun _ _ _ h => h) ?_ (by assumption) ?_
                rotate_left
                · first | (refine Or.inl ⟨by rfl, ?_⟩; intro w hSw; have z0 := cell_bl hSw s0; have z1 := cell_bl hSw s1; have z2 := cell_bl hSw s2; have z3 := cell_bl hSw s3; have z4 := cell_bl hSw s4; have z5 := cell_bl hSw s5; have z6 := cell_bl hSw l2; go_simp; (try (with_reducible rfl)); done) | (refine Or.inr ⟨by rfl, ?_⟩; with_reducible rfl)
                try simp only [Act.put, List.setIfInBounds_toArray, List.set_cons_zero, List.set_cons_succ]
                refine wpAnyH_take (i := 18) (oi := { dst := some 130, op := Go.Op.binOp Go.BinOp.neq 3 (Go.Operand.tmp 125) (Go.Operand.tmp 129) 3, type := 4, pos := _, after := _, guard := some (9, false) }) (v := ?_) rfl (by kernel_rfl) (by kernel_rfl) (by kernel_rfl) (fun _ _ _ h => h) ?_ (by assumption) ?_
                rotate_left
                · first | (refine Or.inl ⟨by rfl, ?_⟩; intro w hSw; have z0 := cell_bl hSw s0; have z1 := cell_bl hSw s1; have z2 := cell_bl hSw s2; have z3 := cell_bl hSw s3; have z4 := cell_bl hSw s4; have z5 := cell_bl hSw s5; have z6 := cell_bl hSw l2; go_simp; (try (with_reducible rfl)); done) | (refine Or.inr ⟨by rfl, ?_⟩; with_reducible rfl)
                try simp only [Act.put, List.setIfInBounds_toArray, List.set_cons_zero, List.set_cons_succ]
                refine wpAnyH_take (i := 19) (oi := { dst := some 131, op := Go.Op.pick (Go.Operand.tmp 121) (Go.Operand.const (Go.Value.bool true)) (Go.Operand.tmp 130), type := 4, pos := _, after := _, guard := none }) (v := ?_) rfl (by kernel_rfl) (by kernel_rfl) (by kernel_rfl) (fun _ _ _ h => h) ?_ (by assumption) ?_
                rotate_left
                · first | (refine Or.inl ⟨by rfl, ?_⟩; intro w hSw; have z0 := cell_bl hSw s0; have z1 := cell_bl hSw s1; have z2 := cell_bl hSw s2; have z3 := cell_bl hSw s3; have z4 := cell_bl hSw s4; have z5 := cell_bl hSw s5; have z6 := cell_bl hSw l2; go_simp; (try (with_reducible rfl)); done) | (refine Or.inr ⟨by rfl, ?_⟩; with_reducible rfl)
                try simp only [Act.put, List.setIfInBounds_toArray, List.set_cons_zero, List.set_cons_succ]
                refine wpAnyH_take (i := 20) (oi := { dst := some 132, op := Go.Op.move (Go.Operand.tmp 131), type := 4, pos := _, after := _, guard := none }) (v := ?_) rfl (by kernel_rfl) (by kernel_rfl) (by kernel_rfl) (fun _ _ _ h => h) ?_ (by assumption) ?_
                rotate_left
                · first | (refine Or.inl ⟨by rfl, ?_⟩; intro w hSw; have z0 := cell_bl hSw s0; have z1 := cell_bl hSw s1; have z2 := cell_bl hSw s2; have z3 := cell_bl hSw s3; have z4 := cell_bl hSw s4; have z5 := cell_bl hSw s5; have z6 := cell_bl hSw l2; go_simp; (try (with_reducible rfl)); done) | (refine Or.inr ⟨by rfl, ?_⟩; with_reducible rfl)
                try simp only [Act.put, List.setIfInBounds_toArray, List.set_cons_zero, List.set_cons_succ]
                refine wpAnyH_take (i := 21) (oi := { dst := some 133, op := Go.Op.move (Go.Operand.tmp 14), type := 27, pos := _, after := _, guard := some (20, false) }) (v := ?_) rfl (by kernel_rfl) (by kernel_rfl) (by kernel_rfl) (fun _ _ _ h => h) ?_ (by assumption) ?_
                rotate_left
                · first | (refine Or.inl ⟨by rfl, ?_⟩; intro w hSw; have z0 := cell_bl hSw s0; have z1 := cell_bl hSw s1; have z2 := cell_bl hSw s2; have z3 := cell_bl hSw s3; have z4 := cell_bl hSw s4; have z5 := cell_bl hSw s5; have z6 := cell_bl hSw l2; go_simp; (try (with_reducible rfl)); done) | (refine Or.inr ⟨by rfl, ?_⟩; with_reducible rfl)
                try simp only [Act.put, List.setIfInBounds_toArray, List.set_cons_zero, List.set_cons_succ]
                refine wpAnyH_take (i := 22) (oi := { dst := some 134, op := Go.Op.indexAddr 27 (Go.Operand.tmp 133) (Go.Operand.const (Go.Value.int Go.IntKind.i64 2)), type := 0, pos := _, after := _, guard := some (20, false) }) (v := ?_) rfl (by kernel_rfl) (by kernel_rfl) (by kernel_rfl) (fun _ _ _ h => h) ?_ (by assumption) ?_
                rotate_left
                · first | (refine Or.inl ⟨by rfl, ?_⟩; intro w hSw; have z0 := cell_bl hSw s0; have z1 := cell_bl hSw s1; have z2 := cell_bl hSw s2; have z3 := cell_bl hSw s3; have z4 := cell_bl hSw s4; have z5 := cell_bl hSw s5; have z6 := cell_bl hSw l2; go_simp; (try (with_reducible rfl)); done) | (refine Or.inr ⟨by rfl, ?_⟩; with_reducible rfl)
                try simp only [Act.put, List.setIfInBounds_toArray, List.set_cons_zero, List.set_cons_succ]
                refine wpAnyH_take (i := 23) (oi := { dst := some 135, op := Go.Op.load 30 (Go.Operand.tmp 134), type := 30, pos := _, after := _, guard := some (20, false) }) (v := ?_) rfl (by kernel_rfl) (by kernel_rfl) (by kernel_rfl) (fun _ _ _ h => h) ?_ (by assumption) ?_
                rotate_left
                · first | (refine Or.inl ⟨by rfl, ?_⟩; intro w hSw; have z0 := cell_bl hSw s0; have z1 := cell_bl hSw s1; have z2 := cell_bl hSw s2; have z3 := cell_bl hSw s3; have z4 := cell_bl hSw s4; have z5 := cell_bl hSw s5; have z6 := cell_bl hSw l2; go_simp; (try (with_reducible rfl)); done) | (refine Or.inr ⟨by rfl, ?_⟩; with_reducible rfl)
                try simp only [Act.put, List.setIfInBounds_toArray, List.set_cons_zero, List.set_cons_succ]
                refine wpAnyH_take (i := 24) (oi := { dst := some 136, op := Go.Op.call { callee := Go.Callee.builtin Go.Builtin.len, args := #[Go.Operand.tmp 135], argTypes := #[30] }, type := 3, pos := _, after := _, guard := some (20, false) }) (v := ?_) rfl (by kernel_rfl) (by kernel_rfl) (by kernel_rfl) (fun _ _ _ h => h) ?_ (by assumption) ?_
                rotate_left
                · first | (refine Or.inl ⟨by rfl, ?_⟩; intro w hSw; have z0 := cell_bl hSw s0; have z1 := cell_bl hSw s1; have z2 := cell_bl hSw s2; have z3 := cell_bl hSw s3; have z4 := cell_bl hSw s4; have z5 := cell_bl hSw s5; have z6 := cell_bl hSw l2; go_simp; (try (with_reducible rfl)); done) | (refine Or.inr ⟨by rfl, ?_⟩; with_reducible rfl)
                try simp only [Act.put, List.setIfInBounds_toArray, List.set_cons_zero, List.set_cons_succ]
                refine wpAnyH_take (i := 25) (oi := { dst := some 137, op := Go.Op.fieldAddr 29 (Go.Operand.tmp 3) 0, type := 0, pos := _, after := _, guard := some (20, false) }) (v := ?_) rfl (by kernel_rfl) (by kernel_rfl) (by kernel_rfl) (fun _ _ _ h => h) ?_ (by assumption) ?_
                rotate_left
                · first | (refine Or.inl ⟨by rfl, ?_⟩; intro w hSw; have z0 := cell_bl hSw s0; have z1 := cell_bl hSw s1; have z2 := cell_bl hSw s2; have z3 := cell_bl hSw s3; have z4 := cell_bl hSw s4; have z5 := cell_bl hSw s5; have z6 := cell_bl hSw l2; go_simp; (try (with_reducible rfl)); done) | (refine Or.inr ⟨by rfl, ?_⟩; with_reducible rfl)
                try simp only [Act.put, List.setIfInBounds_toArray, List.set_cons_zero, List.set_cons_succ]
                refine wpAnyH_take (i := 26) (oi := { dst := some 138, op := Go.Op.fieldAddr 24 (Go.Operand.tmp 137) 2, type := 0, pos := _, after := _, guard := some (20, false) }) (v := ?_) rfl (by kernel_rfl) (by kernel_rfl) (by kernel_rfl) (fun _ _ _ h => h) ?_ (by assumption) ?_
                rotate_left
                · first | (refine Or.inl ⟨by rfl, ?_⟩; intro w hSw; have z0 := cell_bl hSw s0; have z1 := cell_bl hSw s1; have z2 := cell_bl hSw s2; have z3 := cell_bl hSw s3; have z4 := cell_bl hSw s4; have z5 := cell_bl hSw s5; have z6 := cell_bl hSw l2; go_simp; (try (with_reducible rfl)); done) | (refine Or.inr ⟨by rfl, ?_⟩; with_reducible rfl)
                try simp only [Act.put, List.setIfInBounds_toArray, List.set_cons_zero, List.set_cons_succ]
                refine wpAnyH_take (i := 27) (oi := { dst := some 139, op := Go.Op.load 3 (Go.Operand.tmp 138), type := 3, pos := _, after := _, guard := some (20, false) }) (v := ?_) rfl (by kernel_rfl) (by kernel_rfl) (by kernel_rfl) (fun _ _ _ h => h) ?_ (by assumption) ?_
                rotate_left
                · first | (refine Or.inl ⟨by rfl, ?_⟩; intro w hSw; have z0 := cell_bl hSw s0; have z1 := cell_bl hSw s1; have z2 := cell_bl hSw s2; have z3 := cell_bl hSw s3; have z4 := cell_bl hSw s4; have z5 := cell_bl hSw s5; have z6 := cell_bl hSw l2; go_simp; (try (with_reducible rfl)); done) | (refine Or.inr ⟨by rfl, ?_⟩; with_reducible rfl)
                try simp only [Act.put, List.setIfInBounds_toArray, List.set_cons_zero, List.set_cons_succ]
                refine wpAnyH_take (i := 28) (oi := { dst := some 140, op := Go.Op.binOp Go.BinOp.add 3 (Go.Operand.tmp 139) (Go.Operand.const (Go.Value.int Go.IntKind.i64 1)) 3, type := 3, pos := _, after := _, guard := some (20, false) }) (v := ?_) rfl (by kernel_rfl) (by kernel_rfl) (by kernel_rfl) (fun _ _ _ h => h) ?_ (by assumption) ?_
                rotate_left
                · first | (refine Or.inl ⟨by rfl, ?_⟩; intro w hSw; have z0 := cell_bl hSw s0; have z1 := cell_bl hSw s1; have z2 := cell_bl hSw s2; have z3 := cell_bl hSw s3; have z4 := cell_bl hSw s4; have z5 := cell_bl hSw s5; have z6 := cell_bl hSw l2; go_simp; (try (with_reducible rfl)); done) | (refine Or.inr ⟨by rfl, ?_⟩; with_reducible rfl)
                try simp only [Act.put, List.setIfInBounds_toArray, List.set_cons_zero, List.set_cons_succ]
                refine wpAnyH_take (i := 29) (oi := { dst := some 141, op := Go.Op.binOp Go.BinOp.neq 3 (Go.Operand.tmp 136) (Go.Operand.tmp 140) 3, type := 4, pos := _, after := _, guard := some (20, false) }) (v := ?_) rfl (by kernel_rfl) (by kernel_rfl) (by kernel_rfl) (fun _ _ _ h => h) ?_ (by assumption) ?_
                rotate_left
                · first | (refine Or.inl ⟨by rfl, ?_⟩; intro w hSw; have z0 := cell_bl hSw s0; have z1 := cell_bl hSw s1; have z2 := cell_bl hSw s2; have z3 := cell_bl hSw s3; have z4 := cell_bl hSw s4; have z5 := cell_bl hSw s5; have z6 := cell_bl hSw l2; go_simp; (try (with_reducible rfl)); done) | (refine Or.inr ⟨by rfl, ?_⟩; with_reducible rfl)
                try simp only [Act.put, List.setIfInBounds_toArray, List.set_cons_zero, List.set_cons_succ]
                refine wpAnyH_take (i := 30) (oi := { dst := some 142, op := Go.Op.pick (Go.Operand.tmp 132) (Go.Operand.const (Go.Value.bool true)) (Go.Operand.tmp 141), type := 4, pos := _, after := _, guard := none }) (v := ?_) rfl (by kernel_rfl) (by kernel_rfl) (by kernel_rfl) (fun _ _ _ h => h) ?_ (by assumption) ?_
                rotate_left
                · first | (refine Or.inl ⟨by rfl, ?_⟩; intro w hSw; have z0 := cell_bl hSw s0; have z1 := cell_bl hSw s1; have z2 := cell_bl hSw s2; have z3 := cell_bl hSw s3; have z4 := cell_bl hSw s4; have z5 := cell_bl hSw s5; have z6 := cell_bl hSw l2; go_simp; (try (with_reducible rfl)); done) | (refine Or.inr ⟨by rfl, ?_⟩; with_reducible rfl)
                try simp only [Act.put, List.setIfInBounds_toArray, List.set_cons_zero, List.set_cons_succ]
                refine wpAnyH_take (i := 31) (oi := { dst := some 143, op := Go.Op.move (Go.Operand.tmp 142), type := 4, pos := _, after := _, guard := none }) (v := ?_) rfl (by kernel_rfl) (by kernel_rfl) (by kernel_rfl) (fun _ _ _ h => h) ?_ (by assumption) ?_
                rotate_left
                · first | (refine Or.inl ⟨by rfl, ?_⟩; intro w hSw; have z0 := cell_bl hSw s0; have z1 := cell_bl hSw s1; have z2 := cell_bl hSw s2; have z3 := cell_bl hSw s3; have z4 := cell_bl hSw s4; have z5 := cell_bl hSw s5; have z6 := cell_bl hSw l2; go_simp; (try (with_reducible rfl)); done) | (refine Or.inr ⟨by rfl, ?_⟩; with_reducible rfl)
                try simp only [Act.put, List.setIfInBounds_toArray, List.set_cons_zero, List.set_cons_succ]
                refine wpAnyH_take (i := 32) (oi := { dst := some 144, op := Go.Op.move (Go.Operand.tmp 14), type := 27, pos := _, after := _, guard := some (31, false) }) (v := ?_) rfl (by kernel_rfl) (by kernel_rfl) (by kernel_rfl) (fun _ _ _ h => h) ?_ (by assumption) ?_
                rotate_left
                · first | (refine Or.inl ⟨by rfl, ?_⟩; intro w hSw; have z0 := cell_bl hSw s0; have z1 := cell_bl hSw s1; have z2 := cell_bl hSw s2; have z3 := cell_bl hSw s3; have z4 := cell_bl hSw s4; have z5 := cell_bl hSw s5; have z6 := cell_bl hSw l2; go_simp; (try (with_reducible rfl)); done) | (refine Or.inr ⟨by rfl, ?_⟩; with_reducible rfl)
                try simp only [Act.put, List.setIfInBounds_toArray, List.set_cons_zero, List.set_cons_succ]
                refine wpAnyH_take (i := 33) (oi := { dst := some 145, op := Go.Op.indexAddr 27 (Go.Operand.tmp 144) (Go.Operand.const (Go.Value.int Go.IntKind.i64 2)), type := 0, pos := _, after := _, guard := some (31, false) }) (v := ?_) rfl (by kernel_rfl) (by kernel_rfl) (by kernel_rfl) (fun _ _ _ h => h) ?_ (by assumption) ?_
                rotate_left
                · first | (refine Or.inl ⟨by rfl, ?_⟩; intro w hSw; have z0 := cell_bl hSw s0; have z1 := cell_bl hSw s1; have z2 := cell_bl hSw s2; have z3 := cell_bl hSw s3; have z4 := cell_bl hSw s4; have z5 := cell_bl hSw s5; have z6 := cell_bl hSw l2; go_simp; (try (with_reducible rfl)); done) | (refine Or.inr ⟨by rfl, ?_⟩; with_reducible rfl)
                try simp only [Act.put, List.setIfInBounds_toArray, List.set_cons_zero, List.set_cons_succ]
                refine wpAnyH_take (i := 34) (oi := { dst := some 146, op := Go.Op.load 30 (Go.Operand.tmp 145), type := 30, pos := _, after := _, guard := some (31, false) }) (v := ?_) rfl (by kernel_rfl) (by kernel_rfl) (by kernel_rfl) (fun _ _ _ h => h) ?_ (by assumption) ?_
                rotate_left
                · first | (refine Or.inl ⟨by rfl, ?_⟩; intro w hSw; have z0 := cell_bl hSw s0; have z1 := cell_bl hSw s1; have z2 := cell_bl hSw s2; have z3 := cell_bl hSw s3; have z4 := cell_bl hSw s4; have z5 := cell_bl hSw s5; have z6 := cell_bl hSw l2; go_simp; (try (with_reducible rfl)); done) | (refine Or.inr ⟨by rfl, ?_⟩; with_reducible rfl)
                try simp only [Act.put, List.setIfInBounds_toArray, List.set_cons_zero, List.set_cons_succ]
                refine wpAnyH_take (i := 35) (oi := { dst := some 147, op := Go.Op.move (Go.Operand.tmp 15), type := 3, pos := _, after := _, guard := some (31, false) }) (v := ?_) rfl (by kernel_rfl) (by kernel_rfl) (by kernel_rfl) (fun _ _ _ h => h) ?_ (by assumption) ?_
                rotate_left
                · first | (refine Or.inl ⟨by rfl, ?_⟩; intro w hSw; have z0 := cell_bl hSw s0; have z1 := cell_bl hSw s1; have z2 := cell_bl hSw s2; have z3 := cell_bl hSw s3; have z4 := cell_bl hSw s4; have z5 := cell_bl hSw s5; have z6 := cell_bl hSw l2; go_simp; (try (with_reducible rfl)); done) | (refine Or.inr ⟨by rfl, ?_⟩; with_reducible rfl)
                try simp only [Act.put, List.setIfInBounds_toArray, List.set_cons_zero, List.set_cons_succ]
                refine wpAnyH_take (i := 36) (oi := { dst := some 148, op := Go.Op.indexAddr 30 (Go.Operand.tmp 146) (Go.Operand.tmp 147), type := 0, pos := _, after := _, guard := some (31, false) }) (v := ?_) rfl (by kernel_rfl) (by kernel_rfl) (by kernel_rfl) (fun _ _ _ h => h) ?_ (by assumption) ?_
                rotate_left
                · first | (refine Or.inl ⟨by rfl, ?_⟩; intro w hSw; have z0 := cell_bl hSw s0; have z1 := cell_bl hSw s1; have z2 := cell_bl hSw s2; have z3 := cell_bl hSw s3; have z4 := cell_bl hSw s4; have z5 := cell_bl hSw s5; have z6 := cell_bl hSw l2; go_simp; (try (with_reducible rfl)); done) | (refine Or.inr ⟨by rfl, ?_⟩; with_reducible rfl)
                try simp only [Act.put, List.setIfInBounds_toArray, List.set_cons_zero, List.set_cons_succ]
                refine wpAnyH_take (i := 37) (oi := { dst := some 149, op := Go.Op.load 22 (Go.Operand.tmp 148), type := 22, pos := _, after := _, guard := some (31, false) }) (v := ?_) rfl (by kernel_rfl) (by kernel_rfl) (by kernel_rfl) (fun _ _ _ h => h) ?_ (by assumption) ?_
                rotate_left
                · first | (refine Or.inl ⟨by rfl, ?_⟩; intro w hSw; have z0 := cell_bl hSw s0; have z1 := cell_bl hSw s1; have z2 := cell_bl hSw s2; have z3 := cell_bl hSw s3; have z4 := cell_bl hSw s4; have z5 := cell_bl hSw s5; have z6 := cell_bl hSw l2; go_simp; (try (with_reducible rfl)); done) | (refine Or.inr ⟨by rfl, ?_⟩; with_reducible rfl)
                try simp only [Act.put, List.setIfInBounds_toArray, List.set_cons_zero, List.set_cons_succ]
                refine wpAnyH_take (i := 38) (oi := { dst := some 150, op := Go.Op.move (Go.Operand.tmp 9), type := 22, pos := _, after := _, guard := some (31, false) }) (v := ?_) rfl (by kernel_rfl) (by kernel_rfl) (by kernel_rfl) (fun _ _ _ h => h) ?_ (by assumption) ?_
                rotate_left
                · first | (refine Or.inl ⟨by rfl, ?_⟩; intro w hSw; have z0 := cell_bl hSw s0; have z1 := cell_bl hSw s1; have z2 := cell_bl hSw s2; have z3 := cell_bl hSw s3; have z4 := cell_bl hSw s4; have z5 := cell_bl hSw s5; have z6 := cell_bl hSw l2; go_simp; (try (with_reducible rfl)); done) | (refine Or.inr ⟨by rfl, ?_⟩; with_reducible rfl)
                try simp only [Act.put, List.setIfInBounds_toArray, List.set_cons_zero, List.set_cons_succ]
                refine wpAnyH_take (i := 39) (oi := { dst := some 151, op := Go.Op.move (Go.Operand.tmp 14), type := 27, pos := _, after := _, guard := some (31, false) }) (v := ?_) rfl (by kernel_rfl) (by kernel_rfl) (by kernel_rfl) (fun _ _ _ h => h) ?_ (by assumption) ?_
                rotate_left
                · first | (refine Or.inl ⟨by rfl, ?_⟩; intro w hSw; have z0 := cell_bl hSw s0; have z1 := cell_bl hSw s1; have z2 := cell_bl hSw s2; have z3 := cell_bl hSw s3; have z4 := cell_bl hSw s4; have z5 := cell_bl hSw s5; have z6 := cell_bl hSw l2; go_simp; (try (with_reducible rfl)); done) | (refine Or.inr ⟨by rfl, ?_⟩; with_reducible rfl)
                try simp only [Act.put, List.setIfInBounds_toArray, List.set_cons_zero, List.set_cons_succ]
                refine wpAnyH_take (i := 40) (oi := { dst := some 152, op := Go.Op.indexAddr 27 (Go.Operand.tmp 151) (Go.Operand.const (Go.Value.int Go.IntKind.i64 0)), type := 0, pos := _, after := _, guard := some (31, false) }) (v := ?_) rfl (by kernel_rfl) (by kernel_rfl) (by kernel_rfl) (fun _ _ _ h => h) ?_ (by assumption) ?_
                rotate_left
                · first | (refine Or.inl ⟨by rfl, ?_⟩; intro w hSw; have z0 := cell_bl hSw s0; have z1 := cell_bl hSw s1; have z2 := cell_bl hSw s2; have z3 := cell_bl hSw s3; have z4 := cell_bl hSw s4; have z5 := cell_bl hSw s5; have z6 := cell_bl hSw l2; go_simp; (try (with_reducible rfl)); done) | (refine Or.inr ⟨by rfl, ?_⟩; with_reducible rfl)
                try simp only [Act.put, List.setIfInBounds_toArray, List.set_cons_zero, List.set_cons_succ]
                refine wpAnyH_take (i := 41) (oi := { dst := some 153, op := Go.Op.load 30 (Go.Operand.tmp 152), type := 30, pos := _, after := _, guard := some (31, false) }) (v := ?_) rfl (by kernel_rfl) (by kernel_rfl) (by kernel_rfl) (fun _ _ _ h => h) ?_ (by assumption) ?_
                rotate_left
                · first | (refine Or.inl ⟨by rfl, ?_⟩; intro w hSw; have z0 := cell_bl hSw s0; have z1 := cell_bl hSw s1; have z2 := cell_bl hSw s2; have z3 := cell_bl hSw s3; have z4 := cell_bl hSw s4; have z5 := cell_bl hSw s5; have z6 := cell_bl hSw l2; go_simp; (try (with_reducible rfl)); done) | (refine Or.inr ⟨by rfl, ?_⟩; with_reducible rfl)
                try simp only [Act.put, List.setIfInBounds_toArray, List.set_cons_zero, List.set_cons_succ]
                refine wpAnyH_take (i := 42) (oi := { dst := some 154, op := Go.Op.move (Go.Operand.tmp 15), type := 3, pos := _, after := _, guard := some (31, false) }) (v := ?_) rfl (by kernel_rfl) (by kernel_rfl) (by kernel_rfl) (fun _ _ _ h => h) ?_ (by assumption) ?_
                rotate_left
                · first | (refine Or.inl ⟨by rfl, ?_⟩; intro w hSw; have z0 := cell_bl hSw s0; have z1 := cell_bl hSw s1; have z2 := cell_bl hSw s2; have z3 := cell_bl hSw s3; have z4 := cell_bl hSw s4; have z5 := cell_bl hSw s5; have z6 := cell_bl hSw l2; go_simp; (try (with_reducible rfl)); done) | (refine Or.inr ⟨by rfl, ?_⟩; with_reducible rfl)
                try simp only [Act.put, List.setIfInBounds_toArray, List.set_cons_zero, List.set_cons_succ]
                refine wpAnyH_take (i := 43) (oi := { dst := some 155, op := Go.Op.indexAddr 30 (Go.Operand.tmp 153) (Go.Operand.tmp 154), type := 0, pos := _, after := _, guard := some (31, false) }) (v := ?_) rfl (by kernel_rfl) (by kernel_rfl) (by kernel_rfl) (fun _ _ _ h => h) ?_ (by assumption) ?_
                rotate_left
                · first | (refine Or.inl ⟨by rfl, ?_⟩; intro w hSw; have z0 := cell_bl hSw s0; have z1 := cell_bl hSw s1; have z2 := cell_bl hSw s2; have z3 := cell_bl hSw s3; have z4 := cell_bl hSw s4; have z5 := cell_bl hSw s5; have z6 := cell_bl hSw l2; go_simp; (try (with_reducible rfl)); done) | (refine Or.inr ⟨by rfl, ?_⟩; with_reducible rfl)
                try simp only [Act.put, List.setIfInBounds_toArray, List.set_cons_zero, List.set_cons_succ]
                refine wpAnyH_take (i := 44) (oi := { dst := some 156, op := Go.Op.load 22 (Go.Operand.tmp 155), type := 22, pos := _, after := _, guard := some (31, false) }) (v := ?_) rfl (by kernel_rfl) (by kernel_rfl) (by kernel_rfl) (fun _ _ _ h => h) ?_ (by assumption) ?_
                rotate_left
                · first | (refine Or.inl ⟨by rfl, ?_⟩; intro w hSw; have z0 := cell_bl hSw s0; have z1 := cell_bl hSw s1; have z2 := cell_bl hSw s2; have z3 := cell_bl hSw s3; have z4 := cell_bl hSw s4; have z5 := cell_bl hSw s5; have z6 := cell_bl hSw l2; go_simp; (try (with_reducible rfl)); done) | (refine Or.inr ⟨by rfl, ?_⟩; with_reducible rfl)
                try simp only [Act.put, List.setIfInBounds_toArray, List.set_cons_zero, List.set_cons_succ]
                refine wpAnyH_take (i := 45) (oi := { dst := some 157, op := Go.Op.move (Go.Operand.tmp 14), type := 27, pos := _, after := _, guard := some (31, false) }) (v := ?_) rfl (by kernel_rfl) (by kernel_rfl) (by kernel_rfl) (fun _ _ _ h => h) ?_ (by assumption) ?_
                rotate_left
                · first | (refine Or.inl ⟨by rfl, ?_⟩; intro w hSw; have z0 := cell_bl hSw s0; have z1 := cell_bl hSw s1; have z2 := cell_bl hSw s2; have z3 := cell_bl hSw s3; have z4 := cell_bl hSw s4; have z5 := cell_bl hSw s5; have z6 := cell_bl hSw l2; go_simp; (try (with_reducible rfl)); done) | (refine Or.inr ⟨by rfl, ?_⟩; with_reducible rfl)
                try simp only [Act.put, List.setIfInBounds_toArray, List.set_cons_zero, List.set_cons_succ]
                refine wpAnyH_take (i := 46) (oi := { dst := some 158, op := Go.Op.indexAddr 27 (Go.Operand.tmp 157) (Go.Operand.const (Go.Value.int Go.IntKind.i64 1)), type := 0, pos := _, after := _, guard := some (31, false) }) (v := ?_) rfl (by kernel_rfl) (by kernel_rfl) (by kernel_rfl) (fun _ _ _ h => h) ?_ (by assumption) ?_
                rotate_left
                · first | (refine Or.inl ⟨by rfl, ?_⟩; intro w hSw; have z0 := cell_bl hSw s0; have z1 := cell_bl hSw s1; have z2 := cell_bl hSw s2; have z3 := cell_bl hSw s3; have z4 := cell_bl hSw s4; have z5 := cell_bl hSw s5; have z6 := cell_bl hSw l2; go_simp; (try (with_reducible rfl)); done) | (refine Or.inr ⟨by rfl, ?_⟩; with_reducible rfl)
                try simp only [Act.put, List.setIfInBounds_toArray, List.set_cons_zero, List.set_cons_succ]
                refine wpAnyH_take (i := 47) (oi := { dst := some 159, op := Go.Op.load 30 (Go.Operand.tmp 158), type := 30, pos := _, after := _, guard := some (31, false) }) (v := ?_) rfl (by kernel_rfl) (by kernel_rfl) (by kernel_rfl) (fun _ _ _ h => h) ?_ (by assumption) ?_
                rotate_left
                · first | (refine Or.inl ⟨by rfl, ?_⟩; intro w hSw; have z0 := cell_bl hSw s0; have z1 := cell_bl hSw s1; have z2 := cell_bl hSw s2; have z3 := cell_bl hSw s3; have z4 := cell_bl hSw s4; have z5 := cell_bl hSw s5; have z6 := cell_bl hSw l2; go_simp; (try (with_reducible rfl)); done) | (refine Or.inr ⟨by rfl, ?_⟩; with_reducible rfl)
                try simp only [Act.put, List.setIfInBounds_toArray, List.set_cons_zero, List.set_cons_succ]
                refine wpAnyH_take (i := 48) (oi := { dst := some 160, op := Go.Op.move (Go.Operand.tmp 15), type := 3, pos := _, after := _, guard := some (31, false) }) (v := ?_) rfl (by kernel_rfl) (by kernel_rfl) (by kernel_rfl) (fun _ _ _ h => h) ?_ (by assumption) ?_
                rotate_left
                · first | (refine Or.inl ⟨by rfl, ?_⟩; intro w hSw; have z0 := cell_bl hSw s0; have z1 := cell_bl hSw s1; have z2 := cell_bl hSw s2; have z3 := cell_bl hSw s3; have z4 := cell_bl hSw s4; have z5 := cell_bl hSw s5; have z6 := cell_bl hSw l2; go_simp; (try (with_reducible rfl)); done) | (refine Or.inr ⟨by rfl, ?_⟩; with_reducible rfl)
                try simp only [Act.put, List.setIfInBounds_toArray, List.set_cons_zero, List.set_cons_succ]
                refine wpAnyH_take (i := 49) (oi := { dst := some 161, op := Go.Op.indexAddr 30 (Go.Operand.tmp 159) (Go.Operand.tmp 160), type := 0, pos := _, after := _, guard := some (31, false) }) (v := ?_) rfl (by kernel_rfl) (by kernel_rfl) (by kernel_rfl) (fun _ _ _ h => h) ?_ (by assumption) ?_
                rotate_left
                · first | (refine Or.inl ⟨by rfl, ?_⟩; intro w hSw; have z0 := cell_bl hSw s0; have z1 := cell_bl hSw s1; have z2 := cell_bl hSw s2; have z3 := cell_bl hSw s3; have z4 := cell_bl hSw s4; have z5 := cell_bl hSw s5; have z6 := cell_bl hSw l2; go_simp; (try (with_reducible rfl)); done) | (refine Or.inr ⟨by rfl, ?_⟩; with_reducible rfl)
                try simp only [Act.put, List.setIfInBounds_toArray, List.set_cons_zero, List.set_cons_succ]
                refine wpAnyH_take (i := 50) (oi := { dst := some 162, op := Go.Op.load 22 (Go.Operand.tmp 161), type := 22, pos := _, after := _, guard := some (31, false) }) (v := ?_) rfl (by kernel_rfl) (by kernel_rfl) (by kernel_rfl) (fun _ _ _ h => h) ?_ (by assumption) ?_
                rotate_left
                · first | (refine Or.inl ⟨by rfl, ?_⟩; intro w hSw; have z0 := cell_bl hSw s0; have z1 := cell_bl hSw s1; have z2 := cell_bl hSw s2; have z3 := cell_bl hSw s3; have z4 := cell_bl hSw s4; have z5 := cell_bl hSw s5; have z6 := cell_bl hSw l2; go_simp; (try (with_reducible rfl)); done) | (refine Or.inr ⟨by rfl, ?_⟩; with_reducible rfl)
                try simp only [Act.put, List.setIfInBounds_toArray, List.set_cons_zero, List.set_cons_succ]
                refine wpAnyH_ready (rs := [51]) (by kernel_rfl) (by simp) ?_
                refine AllReadyH.cons (o := { dst := some 163, op := Go.Op.call { callee := Go.Callee.value (Go.Operand.func 27), args := #[Go.Operand.tmp 150, Go.Operand.tmp 156, Go.Operand.tmp 162], argTypes := #[22, 22, 22] }, type := 22, pos := _, after := _, guard := some (31, false) }) rfl (fun K hK => ?_) AllReadyH.nil
                go_simp
                refine (HADD.out _).mono ?_
                rintro e we ⟨rfl, rfl⟩
                have hBd : Bl wr wr.drew := (Dr.one (Dr.refl wr)).below _
                simp only []
                refine hK.out _ _ ?_ (fun hHeld => ?_)
                · exact hBd
                clear hK K
                try simp only [Act.put, List.setIfInBounds_toArray, List.set_cons_zero, List.set_cons_succ]
                refine wpAnyH_take (i := 52) (oi := { dst := some 164, op := Go.Op.binOp Go.BinOp.neq 22 (Go.Operand.tmp 149) (Go.Operand.tmp 163) 22, type := 4, pos := _, after := _, guard := some (31, false) }) (v := ?_) rfl (by kernel_rfl) (by kernel_rfl) (by kernel_rfl) (fun _ _ _ h => h) ?_ (by assumption) ?_
                rotate_left
                · first | (refine Or.inl ⟨by rfl, ?_⟩; intro w hSw; have z0 := cell_bl hSw s0; have z1 := cell_bl hSw s1; have z2 := cell_bl hSw s2; have z3 := cell_bl hSw s3; have z4 := cell_bl hSw s4; have z5 := cell_bl hSw s5; have z6 := cell_bl hSw l2; go_simp; (try (with_reducible rfl)); done) | (refine Or.inr ⟨by rfl, ?_⟩; with_reducible rfl)
                try simp only [Act.put, List.setIfInBounds_toArray, List.set_cons_zero, List.set_cons_succ]
                refine wpAnyH_take (i := 53) (oi := { dst := some 165, op := Go.Op.pick (Go.Operand.tmp 143) (Go.Operand.const (Go.Value.bool true)) (Go.Operand.tmp 164), type := 4, pos := _, after := _, guard := none }) (v := ?_) rfl (by kernel_rfl) (by kernel_rfl) (by kernel_rfl) (fun _ _ _ h => h) ?_ (by assumption) ?_
                rotate_left
                · first | (refine Or.inl ⟨by rfl, ?_⟩; intro w hSw; have z0 := cell_bl hSw s0; have z1 := cell_bl hSw s1; have z2 := cell_bl hSw s2; have z3 := cell_bl hSw s3; have z4 := cell_bl hSw s4; have z5 := cell_bl hSw s5; have z6 := cell_bl hSw l2; go_simp; (try (with_reducible rfl)); done) | (refine Or.inr ⟨by rfl, ?_⟩; with_reducible rfl)
                try simp only [Act.put, List.setIfInBounds_toArray, List.set_cons_zero, List.set_cons_succ]
                refine wpAnyH_done (by kernel_rfl) ?_ _
                have HBN := hide (Bl.then HBK.out HBK.out.size hBd)
                clear hBd
                go_wp2_with fail
                go_round
                case rel => exact ⟨k + 1, by omega, by go_num, HBN.out⟩
                case measure => simp [intOf]; omega
              · as_aux_lemma =>
                obtain rfl : k = T1 := by omega
                have hkTi : ¬ (k : Int) ≤ (T : Int) := by omega
                have HBK := hide (Bl.then HB8.out HB8.out.size hBk)
                clear hBk
                go_wp2_with fail
                refine (HAW.out wr HBK.out).mono ?_
                rintro e w9 ⟨rfl, hB9⟩
                have HB9 := hide (Bl.then HBK.out HBK.out.size hB9)
                clear hB9
                go_wp2_with fail
                go_ret
                exact ⟨rfl, HB9.out⟩
          · skip
            go_simp
            have hBd : Bl wo wo.drew := Bl.dr (Below.refl _ _) (Dr.one (Dr.refl _))
            have hBa : Bl wo (wo.drew.alloc (.cells #[.slice Au0 i cu0, .slice Au1 i cu1, .slice A10 i c10] 44)) := hBd.alloc hBd.size _
            refine hK.out _ _ ?_ (fun hHeld => ?_)
            · exact ⟨cell_bl hBa k30, cell_bl hBa k31, cell_bl hBa k32, cell_bl hBa k33, cell_bl hBa k34, cell_bl hBa k35, cell_bl hBa k36, cell_bl hBa k37, cell_bl hBa k38, cell_bl hBa m0, cell_bl hBa m1⟩
            clear hK K
            try simp only [Act.put, List.setIfInBounds_toArray, List.set_cons_zero, List.set_cons_succ]
            refine wpAnyH_ready (rs := [2]) (by kernel_rfl) (by simp) ?_
            refine AllReadyH.cons (o := { dst := some 92, op := Go.Op.call { callee := Go.Callee.value (Go.Operand.func 19), args := #[Go.Operand.tmp 91], argTypes := #[32] }, type := 3, pos := _, after := _, guard := none }) rfl (fun K hK => ?_) AllReadyH.nil
            go_simp
            refine (HWHO.out _).mono ?_
            rintro e w7 ⟨rfl, hB7⟩
            have hla := (kS (kS (kS kU))).kp (HLIT.out _ hBd) (Bl.kp hB7 _)
            have hB7 := Bl.then hBa hBa.size hB7
            simp only []
            refine hK.out _ _ ?_ (fun hHeld => ?_)
            · exact ⟨cell_bl hB7 k30, cell_bl hB7 k31, cell_bl hB7 k32, cell_bl hB7 k33, cell_bl hB7 k34, cell_bl hB7 k35, cell_bl hB7 k36, cell_bl hB7 k37, cell_bl hB7 k38, cell_bl hB7 m0, cell_bl hB7 m1⟩
            clear hK K
            try simp only [Act.put, List.setIfInBounds_toArray, List.set_cons_zero, List.set_cons_succ]
            refine wpAnyH_ready (rs := [11]) (by kernel_rfl) (by simp) ?_
            refine AllReadyH.cons (o := { dst := some 101, op := Go.Op.call { callee := Go.Callee.value (Go.Operand.func 18), args := #[Go.Operand.tmp 90, Go.Operand.tmp 92, Go.Operand.tmp 100], argTypes := #[36, 3, 40] }, type := 27, pos := _, after := _, guard := none }) rfl (fun K hK => ?_) AllReadyH.nil
            go_simp
            refine (HREC.out _ _ hB7 hla).mono ?_
            rintro e w8 ⟨hK8, hB48, A8, c8, rfl, hr8⟩
            have hB48' : Bl w4 w8 := (Bl.then HB4W.out HB4W.out.size hB7).trans hB48
            simp only []
            refine hK.out _ _ ?_ (fun hHeld => ?_)
            · exact ⟨cell_kp hK8 (cell_bl hB7 k30) (Or.inl hb4lt), cell_kp hK8 (cell_bl hB7 k31) (Or.inl hb4lt), cell_kp hK8 (cell_bl hB7 k32) (Or.inl hb4lt), cell_kp hK8 (cell_bl hB7 k33) (Or.inl hb4lt), cell_kp hK8 (cell_bl hB7 k34) (Or.inl hb4lt), cell_kp hK8 (cell_bl hB7 k35) (Or.inl hb4lt), cell_kp hK8 (cell_bl hB7 k36) (Or.inl hb4lt), cell_kp hK8 (cell_bl hB7 k37) (Or.inl hb4lt), cell_kp hK8 (cell_bl hB7 k38) (Or.inl hb4lt), cell_kp hK8 (cell_bl hB7 m0) (Or.inr hsa6), cell_kp hK8 (cell_bl hB7 m1) (Or.inr hsa6)⟩
            clear hK K
            try simp only [Act.put, List.setIfInBounds_toArray, List.set_cons_zero, List.set_cons_succ]
            refine wpAnyH_take (i := 12) (oi := { dst := some 14, op := Go.Op.assign (Go.Operand.tmp 101), type := 27, pos := _, after := _, guard := none }) (v := ?_) rfl (by kernel_rfl) (by kernel_rfl) (by kernel_rfl) (fun _ _ _ h => h) ?_ (by assumption) ?_
            rotate_left
            · first | (refine Or.inl ⟨by rfl, ?_⟩; intro w hSw; (try dsimp only at hSw); go_simp; (try (with_reducible rfl)); done) | (refine Or.inr ⟨by rfl, ?_⟩; with_reducible rfl)
            try simp only [Act.put, List.setIfInBounds_toArray, List.set_cons_zero, List.set_cons_succ]
            clear hla hBa hBd
            have HB8 := hide (Bl.then HB4.out HB4.out.size hB48')
            have n2 := cell_bl hB48' gg2
            obtain ⟨A8', c8', e', _, hel8⟩ := rd_open rfl hr8
            obtain ⟨a8, x0, hA0, _, hx0, hcx0⟩ := hel8 0 _ rfl
            obtain ⟨a8b, x1, hA1, _, hx1, hcx1⟩ := hel8 1 _ rfl
            obtain ⟨a8c, x2, hA2, _, hx2, hcx2⟩ := hel8 2 _ rfl
            injection e' with e'1 e'2 e'3
            subst e'1
            subst hA0
            injection hA1 with hA1
            subst hA1
            injection hA2 with hA2
            subst hA2
            obtain ⟨X0, y0c, rfl, ⟨hl0, hl0'⟩, hy0⟩ := rdU ((kS kU).low hx0)
            obtain ⟨X1, y1c, rfl, ⟨hl1, hl1'⟩, hy1⟩ := rdU ((kS kU).low hx1)
            obtain ⟨X2, y2c, rfl, ⟨hl2, hl2'⟩, hy2⟩ := rdU ((kS kU).low hx2)
            rw [linR_len, ← HT1.out] at hcx0 hcx1 hcx2 hy0 hy1 hy2 hl0 hl1 hl2
            rw [show a8.add 0 = a8 by unfold Addr.add; split <;> simp_all] at hcx0
            rw [show a8.add 1 = ⟨a8.block, a8.off + 1, none⟩ by simp [Addr.add]] at hcx1
            rw [show a8.add 2 = ⟨a8.block, a8.off + 2, none⟩ by simp [Addr.add]] at hcx2
            have HY0 := hide hy0; have HY1 := hide hy1; have HY2 := hide hy2
            clear hy0 hy1 hy2 hx0 hx1 hx2 hel8 hr8 hK8 hB48 hB48' e'2 e'3 k30 k31 k32 k33 k34 k35 k36 k37 k38 m0 m1 k1 k2 hcu0 hcu1
            refine wpAnyH_done (by kernel_rfl) ?_ _
            go_wp2_with fail
            go_loopw [15] (fun ix wr => ∃ k : Nat, k ≤ T1 ∧ ix = .int .i64 k ∧ Bl w8 wr) (fun ix _ => T1 - (intOf ix).toNat)
            case atStart => exact ⟨0, by omega, rfl, Below.refl _ _⟩
            case round =>
              obtain ⟨k, hk, rfl, hBk⟩ := hrel
              have l2 := cell_bl hBk n2
              by_cases hkT : k < T1
              · as_aux_lemma =>
                have hkTi : (k : Int) ≤ (T : Int) := by omega
                have hkT1 : (k : Int) < (T1 : Int) := by omega
                have hk0 : (0 : Int) ≤ (k : Int) := by omega
                obtain ⟨q0, rfl, _, hv0, hz0⟩ := HY0.out k hkT
                obtain ⟨q1, rfl, _, hv1, hz1⟩ := HY1.out k hkT
                obtain ⟨q2, rfl, _, hv2, hz2⟩ := HY2.out k hkT
                have hla := lin_at (p := p) (by omega) T L q (j := k) (by rw [← HT1.out]; exact hkT)
                rw [hla] at hv2
                obtain ⟨y0, hy0e⟩ : ∃ y, y = (linR p T L 0 q).getD k 0 := ⟨_, rfl⟩
                obtain ⟨y1, hy1e⟩ : ∃ y, y = (linR p T L 1 q).getD k 0 := ⟨_, rfl⟩
                rw [← hy0e] at hv0
                rw [← hy1e] at hv1
                rw [← hy0e, ← hy1e] at hv2
                have hy0p : y0 < p := by rw [hy0e]; exact getD_ltp (by omega) (rowB_lt (by omega) _ _ _) _
                have hy1p : y1 < p := by rw [hy1e]; exact getD_ltp (by omega) (rowB_lt (by omega) _ _ _) _
                have hadd := fun W => radd_any p y0 y1 W HFF.out.hp hy0p hy1p
                obtain ⟨z, hz⟩ : ∃ z, z = fadd p y0 y1 := ⟨_, rfl⟩
                rw [← hz] at hadd hv2
                have s0 := cell_bl hBk hcx0
                have s1 := cell_bl hBk hcx1
                have s2 := cell_bl hBk hcx2
                have s3 := cell_bl hBk hv0
                have s4 := cell_bl hBk hv1
                have s5 := cell_bl hBk hv2
                have HADD := hide hadd; have HBK := hide hBk
                clear hadd hBk hla hv0 hv1 hv2 hz hy0e hy1e hz0 hz1 hz2 hcx0 hcx1 hcx2
                go_wp2_with fail
                refine wp_region_held_drew (S := fun w' => Bl wr w') (by kernel_rfl) ((Dr.one (Dr.refl wr)).below _) (fun hHeld => ?_)
                refine wpAnyH_take (i := 0) (oi := { dst := some 112, op := Go.Op.move (Go.Operand.tmp 14), type := 27, pos := _, after := _, guard := none }) (v := ?_) rfl (by kernel_rfl) (by kernel_rfl) (by kernel_rfl) (fun _ _ _ h => h) ?_ (by assumption) ?_
                rotate_left
                · first | (refine Or.inl ⟨by rfl, ?_⟩; intro w hSw; have z0 := cell_bl hSw s0; have z1 := cell_bl hSw s1; have z2 := cell_bl hSw s2; have z3 := cell_bl hSw s3; have z4 := cell_bl hSw s4; have z5 := cell_bl hSw s5; have z6 := cell_bl hSw l2; go_simp; (try (with_reducible rfl)); done) | (refine Or.inr ⟨by rfl, ?_⟩; with_reducible rfl)
                try simp only [Act.put, List.setIfInBounds_toArray, List.set_cons_zero, List.set_cons_succ]
                refine wpAnyH_take (i := 1) (oi := { dst := some 113, op := Go.Op.indexAddr 27 (Go.Operand.tmp 112) (Go.Operand.const (Go.Value.int Go.IntKind.i64 0)), type := 0, pos := _, after := _, guard := none }) (v := ?_) rfl (by kernel_rfl) (by kernel_rfl) (by kernel_rfl) (fun _ _ _ h => h) ?_ (by assumption) ?_
                rotate_left
                · first | (refine Or.inl ⟨by rfl, ?_⟩; intro w hSw; have z0 := cell_bl hSw s0; have z1 := cell_bl hSw s1; have z2 := cell_bl hSw s2; have z3 := cell_bl hSw s3; have z4 := cell_bl hSw s4; have z5 := cell_bl hSw s5; have z6 := cell_bl hSw l2; go_simp; (try (with_reducible rfl)); done) | (refine Or.inr ⟨by rfl, ?_⟩; with_reducible rfl)
                try simp only [Act.put, List.setIfInBounds_toArray, List.set_cons_zero, List.set_cons_succ]
                refine wpAnyH_take (i := 2) (oi := { dst := some 114, op := Go.Op.load 30 (Go.Operand.tmp 113), type := 30, pos := _, after := _, guard := none }) (v := ?_) rfl (by kernel_rfl) (by kernel_rfl) (by kernel_rfl) (fun _ _ _ h => h) ?_ (by assumption) ?_
                rotate_left
                · first | (refine Or.inl ⟨by rfl, ?_⟩; intro w hSw; have z0 := cell_bl hSw s0; have z1 := cell_bl hSw s1; have z2 := cell_bl hSw s2; have z3 := cell_bl hSw s3; have z4 := cell_bl hSw s4; have z5 := cell_bl hSw s5; have z6 := cell_bl hSw l2; go_simp; (try (with_reducible rfl)); done) | (refine Or.inr ⟨by rfl, ?_⟩; with_reducible rfl)
                try simp only [Act.put, List.setIfInBounds_toArray, List.set_cons_zero, List.set_cons_succ]
                refine wpAnyH_take (i := 3) (oi := { dst := some 115, op := Go.Op.call { callee := Go.Callee.builtin Go.Builtin.len, args := #[Go.Operand.tmp 114], argTypes := #[30] }, type := 3, pos := _, after := _, guard := none }) (v := ?_) rfl (by kernel_rfl) (by kernel_rfl) (by kernel_rfl) (fun _ _ _ h => h) ?_ (by assumption) ?_
                rotate_left
                · first | (refine Or.inl ⟨by rfl, ?_⟩; intro w hSw; have z0 := cell_bl hSw s0; have z1 := cell_bl hSw s1; have z2 := cell_bl hSw s2; have z3 := cell_bl hSw s3; have z4 := cell_bl hSw s4; have z5 := cell_bl hSw s5; have z6 := cell_bl hSw l2; go_simp; (try (with_reducible rfl)); done) | (refine Or.inr ⟨by rfl, ?_⟩; with_reducible rfl)
                try simp only [Act.put, List.setIfInBounds_toArray, List.set_cons_zero, List.set_cons_succ]
                refine wpAnyH_take (i := 4) (oi := { dst := some 116, op := Go.Op.fieldAddr 29 (Go.Operand.tmp 3) 0, type := 0, pos := _, after := _, guard := none }) (v := ?_) rfl (by kernel_rfl) (by kernel_rfl) (by kernel_rfl) (fun _ _ _ h => h) ?_ (by assumption) ?_
                rotate_left
                · first | (refine Or.inl ⟨by rfl, ?_⟩; intro w hSw; have z0 := cell_bl hSw s0; have z1 := cell_bl hSw s1; have z2 := cell_bl hSw s2; have z3 := cell_bl hSw s3; have z4 := cell_bl hSw s4; have z5 := cell_bl hSw s5; have z6 := cell_bl hSw l2; go_simp; (try (with_reducible rfl)); done) | (refine Or.inr ⟨by rfl, ?_⟩; with_reducible rfl)
                try simp only [Act.put, List.setIfInBounds_toArray, List.set_cons_zero, List.set_cons_succ]
                refine wpAnyH_take (i := 5) (oi := { dst := some 117, op := Go.Op.fieldAddr 24 (Go.Operand.tmp 116) 2, type := 0, pos := _, after := _, guard := none }) (v := ?_) rfl (by kernel_rfl) (by kernel_rfl) (by kernel_rfl) (fun _ _ _ h => h) ?_ (by assumption) ?_
                rotate_left
                · first | (refine Or.inl ⟨by rfl, ?_⟩; intro w hSw; have z0 := cell_bl hSw s0; have z1 := cell_bl hSw s1; have z2 := cell_bl hSw s2; have z3 := cell_bl hSw s3; have z4 := cell_bl hSw s4; have z5 := cell_bl hSw s5; have z6 := cell_bl hSw l2; go_simp; (try (with_reducible rfl)); done) | (refine Or.inr ⟨by rfl, ?_⟩; with_reducible rfl)
                try simp only [Act.put, List.setIfInBounds_toArray, List.set_cons_zero, List.set_cons_succ]
                refine wpAnyH_take (i := 6) (oi := { dst := some 118, op := Go.Op.load 3 (Go.Operand.tmp 117), type := 3, pos := _, after := _, guard := none }) (v := ?_) rfl (by kernel_rfl) (by kernel_rfl) (by kernel_rfl) (fun _ _ _ h => h) ?_ (by assumption) ?_
                rotate_left
                · first | (refine Or.inl ⟨by rfl, ?_⟩; intro w hSw; have z0 := cell_bl hSw s0; have z1 := cell_bl hSw s1; have z2 := cell_bl hSw s2; have z3 := cell_bl hSw s3; have z4 := cell_bl hSw s4; have z5 := cell_bl hSw s5; have z6 := cell_bl hSw l2; go_simp; (try (with_reducible rfl)); done) | (refine Or.inr ⟨by rfl, ?_⟩; with_reducible rfl)
                try simp only [Act.put, List.setIfInBounds_toArray, List.set_cons_zero, List.set_cons_succ]
                refine wpAnyH_take (i := 7) (oi := { dst := some 119, op := Go.Op.binOp Go.BinOp.add 3 (Go.Operand.tmp 118) (Go.Operand.const (Go.Value.int Go.IntKind.i64 1)) 3, type := 3, pos := _, after := _, guard := none }) (v := ?_) rfl (by kernel_rfl) (by kernel_rfl) (by kernel_rfl) (fun _ _ _ h => h) ?_ (by assumption) ?_
                rotate_left
                · first | (refine Or.inl ⟨by rfl, ?_⟩; intro w hSw; have z0 := cell_bl hSw s0; have z1 := cell_bl hSw s1; have z2 := cell_bl hSw s2; have z3 := cell_bl hSw s3; have z4 := cell_bl hSw s4; have z5 := cell_bl hSw s5; have z6 := cell_bl hSw l2; go_simp; (try (with_reducible rfl)); done) | (refine Or.inr ⟨by rfl, ?_⟩; with_reducible rfl)
                try simp only [Act.put, List.setIfInBounds_toArray, List.set_cons_zero, List.set_cons_succ]
                refine wpAnyH_take (i := 8) (oi := { dst := some 120, op := Go.Op.binOp Go.BinOp.neq 3 (Go.Operand.tmp 115) (Go.Operand.tmp 119) 3, type := 4, pos := _, after := _, guard := none }) (v := ?_) rfl (by kernel_rfl) (by kernel_rfl) (by kernel_rfl) (fun _ _ _ h => h) ?_ (by assumption) ?_
                rotate_left
                · first | (refine Or.inl ⟨by rfl, ?_⟩; intro w hSw; have z0 := cell_bl hSw s0; have z1 := cell_bl hSw s1; have z2 := cell_bl hSw s2; have z3 := cell_bl hSw s3; have z4 := cell_bl hSw s4; have z5 := cell_bl hSw s5; have z6 := cell_bl hSw l2; go_simp; (try (with_reducible rfl)); done) | (refine Or.inr ⟨by rfl, ?_⟩; with_reducible rfl)
                try simp only [Act.put, List.setIfInBounds_toArray, List.set_cons_zero, List.set_cons_succ]
                refine wpAnyH_take (i := 9) (oi := { dst := some 121, op := Go.Op.move (Go.Operand.tmp 120), type := 4, pos := _, after := _, guard := none }) (v := ?_) rfl (by kernel_rfl) (by kernel_rfl) (by kernel_rfl) (fun _ _ _ h => h) ?_ (by assumption) ?_
                rotate_left
                · first | (refine Or.inl ⟨by rfl, ?_⟩; intro w hSw; have z0 := cell_bl hSw s0; have z1 := cell_bl hSw s1; have z2 := cell_bl hSw s2; have z3 := cell_bl hSw s3; have z4 := cell_bl hSw s4; have z5 := cell_bl hSw s5; have z6 := cell_bl hSw l2; go_simp; (try (with_reducible rfl)); done) | (refine Or.inr ⟨by rfl, ?_⟩; with_reducible rfl)
                try simp only [Act.put, List.setIfInBounds_toArray, List.set_cons_zero, List.set_cons_succ]
                refine wpAnyH_take (i := 10) (oi := { dst := some 122, op := Go.Op.move (Go.Operand.tmp 14), type := 27, pos := _, after := _, guard := some (9, false) }) (v := ?_) rfl (by kernel_rfl) (by kernel_rfl) (by kernel_rfl) (fun _ _ _ h => h) ?_ (by assumption) ?_
                rotate_left
                · first | (refine Or.inl ⟨by rfl, ?_⟩; intro w hSw; have z0 := cell_bl hSw s0; have z1 := cell_bl hSw s1; have z2 := cell_bl hSw s2; have z3 := cell_bl hSw s3; have z4 := cell_bl hSw s4; have z5 := cell_bl hSw s5; have z6 := cell_bl hSw l2; go_simp; (try (with_reducible rfl)); done) | (refine Or.inr ⟨by rfl, ?_⟩; with_reducible rfl)
                try simp only [Act.put, List.setIfInBounds_toArray, List.set_cons_zero, List.set_cons_succ]
                refine wpAnyH_take (i := 11) (oi := { dst := some 123, op := Go.Op.indexAddr 27 (Go.Operand.tmp 122) (Go.Operand.const (Go.Value.int Go.IntKind.i64 1)), type := 0, pos := _, after := _, guard := some (9, false) }) (v := ?_) rfl (by kernel_rfl) (by kernel_rfl) (by kernel_rfl) (fun _ _ _ h => h) ?_ (by assumption) ?_
                rotate_left
                · first | (refine Or.inl ⟨by rfl, ?_⟩; intro w hSw; have z0 := cell_bl hSw s0; have z1 := cell_bl hSw s1; have z2 := cell_bl hSw s2; have z3 := cell_bl hSw s3; have z4 := cell_bl hSw s4; have z5 := cell_bl hSw s5; have z6 := cell_bl hSw l2; go_simp; (try (with_reducible rfl)); done) | (refine Or.inr ⟨by rfl, ?_⟩; with_reducible rfl)
                try simp only [Act.put, List.setIfInBounds_toArray, List.set_cons_zero, List.set_cons_succ]
                refine wpAnyH_take (i := 12) (oi := { dst := some 124, op := Go.Op.load 30 (Go.Operand.tmp 123), type := 30, pos := _, after := _, guard := some (9, false) }) (v := ?_) rfl (by kernel_rfl) (by kernel_rfl) (by kernel_rfl) (fun _ _ _ h => h) ?_ (by assumption) ?_
                rotate_left
                · first | (refine Or.inl ⟨by rfl, ?_⟩; intro w hSw; have z0 := cell_bl hSw s0; have z1 := cell_bl hSw s1; have z2 := cell_bl hSw s2; have z3 := cell_bl hSw s3; have z4 := cell_bl hSw s4; have z5 := cell_bl hSw s5; have z6 := cell_bl hSw l2; go_simp; (try (with_reducible rfl)); done) | (refine Or.inr ⟨by rfl, ?_⟩; with_reducible rfl)
                try simp only [Act.put, List.setIfInBounds_toArray, List.set_cons_zero, List.set_cons_succ]
                refine wpAnyH_take (i := 13) (oi := { dst := some 125, op := Go.Op.call { callee := Go.Callee.builtin Go.Builtin.len, args := #[Go.Operand.tmp 124], argTypes := #[30] }, type := 3, pos := _, after := _, guard := some (9, false) }) (v := ?_) rfl (by kernel_rfl) (by kernel_rfl) (by kernel_rfl) (fun _ _ _ h => h) ?_ (by assumption) ?_
                rotate_left
                · first | (refine Or.inl ⟨by rfl, ?_⟩; intro w hSw; have z0 := cell_bl hSw s0; have z1 := cell_bl hSw s1; have z2 := cell_bl hSw s2; have z3 := cell_bl hSw s3; have z4 := cell_bl hSw s4; have z5 := cell_bl hSw s5; have z6 := cell_bl hSw l2; go_simp; (try (with_reducible rfl)); done) | (refine Or.inr ⟨by rfl, ?_⟩; with_reducible rfl)
                try simp only [Act.put, List.setIfInBounds_toArray, List.set_cons_zero, List.set_cons_succ]
                refine wpAnyH_take (i := 14) (oi := { dst := some 126, op := Go.Op.fieldAddr 29 (Go.Operand.tmp 3) 0, type := 0, pos := _, after := _, guard := some (9, false) }) (v := ?_) rfl (by kernel_rfl) (by kernel_rfl) (by kernel_rfl) (fun _ _ _ h => h) ?_ (by assumption) ?_
                rotate_left
                · first | (refine Or.inl ⟨by rfl, ?_⟩; intro w hSw; have z0 := cell_bl hSw s0; have z1 := cell_bl hSw s1; have z2 := cell_bl hSw s2; have z3 := cell_bl hSw s3; have z4 := cell_bl hSw s4; have z5 := cell_bl hSw s5; have z6 := cell_bl hSw l2; go_simp; (try (with_reducible rfl)); done) | (refine Or.inr ⟨by rfl, ?_⟩; with_reducible rfl)
                try simp only [Act.put, List.setIfInBounds_toArray, List.set_cons_zero, List.set_cons_succ]
                refine wpAnyH_take (i := 15) (oi := { dst := some 127, op := Go.Op.fieldAddr 24 (Go.Operand.tmp 126) 2, type := 0, pos := _, after := _, guard := some (9, false) }) (v := ?_) rfl (by kernel_rfl) (by kernel_rfl) (by kernel_rfl) (fun _ _ _ h => h) ?_ (by assumption) ?_
                rotate_left
                · first | (refine Or.inl ⟨by rfl, ?_⟩; intro w hSw; have z0 := cell_bl hSw s0; have z1 := cell_bl hSw s1; have z2 := cell_bl hSw s2; have z3 := cell_bl hSw s3; have z4 := cell_bl hSw s4; have z5 := cell_bl hSw s5; have z6 := cell_bl hSw l2; go_simp; (try (with_reducible rfl)); done) | (refine Or.inr ⟨by rfl, ?_⟩; with_reducible rfl)
                try simp only [Act.put, List.setIfInBounds_toArray, List.set_cons_zero, List.set_cons_succ]
                refine wpAnyH_take (i := 16) (oi := { dst := some 128, op := Go.Op.load 3 (Go.Operand.tmp 127), type := 3, pos := _, after := _, guard := some (9, false) }) (v := ?_) rfl (by kernel_rfl) (by kernel_rfl) (by kernel_rfl) (fun _ _ _ h => h) ?_ (by assumption) ?_
                rotate_left
                · first | (refine Or.inl ⟨by rfl, ?_⟩; intro w hSw; have z0 := cell_bl hSw s0; have z1 := cell_bl hSw s1; have z2 := cell_bl hSw s2; have z3 := cell_bl hSw s3; have z4 := cell_bl hSw s4; have z5 := cell_bl hSw s5; have z6 := cell_bl hSw l2; go_simp; (try (with_reducible rfl)); done) | (refine Or.inr ⟨by rfl, ?_⟩; with_reducible rfl)
                try simp only [Act.put, List.setIfInBounds_toArray, List.set_cons_zero, List.set_cons_succ]
                refine wpAnyH_take (i := 17) (oi := { dst := some 129, op := Go.Op.binOp Go.BinOp.add 3 (Go.Operand.tmp 128) (Go.Operand.const (Go.Value.int Go.IntKind.i64 1)) 3, type := 3, pos := _, after := _, guard := some (9, false) }) (v := ?_) rfl (by kernel_rfl) (by kernel_rfl) (by kernel_rfl) (fun _ _ _ h => h) ?_ (by assumption) ?_
                rotate_left
                · first | (refine Or.inl ⟨by rfl, ?_⟩; intro w hSw; have z0 := cell_bl hSw s0; have z1 := cell_bl hSw s1; have z2 := cell_bl hSw s2; have z3 := cell_bl hSw s3; have z4 := cell_bl hSw s4; have z5 := cell_bl hSw s5; have z6 := cell_bl hSw l2; go_simp; (try (with_reducible rfl)); done) | (refine Or.inr ⟨by rfl, ?_⟩; with_reducible rfl)
                try simp only [Act.put, List.setIfInBounds_toArray, List.set_cons_zero, List.set_cons_succ]
                refine wpAnyH_take (i := 18) (oi := { dst := some 130, op := Go.Op.binOp Go.BinOp.neq 3 (Go.Operand.tmp 125) (Go.Operand.tmp 129) 3, type := 4, pos := _, after := _, guard := some (9, false) }) (v := ?_) rfl (by kernel_rfl) (by kernel_rfl) (by kernel_rfl) (fun _ _ _ h => h) ?_ (by assumption) ?_
                rotate_left
                · first | (refine Or.inl ⟨by rfl, ?_⟩; intro w hSw; have z0 := cell_bl hSw s0; have z1 := cell_bl hSw s1; have z2 := cell_bl hSw s2; have z3 := cell_bl hSw s3; have z4 := cell_bl hSw s4; have z5 := cell_bl hSw s5; have z6 := cell_bl hSw l2; go_simp; (try (with_reducible rfl)); done) | (refine Or.inr ⟨by rfl, ?_⟩; with_reducible rfl)
                try simp only [Act.put, List.setIfInBounds_toArray, List.set_cons_zero, List.set_cons_succ]
                refine wpAnyH_take (i := 19) (oi := { dst := some 131, op := Go.Op.pick (Go.Operand.tmp 121) (Go.Operand.const (Go.Value.bool true)) (Go.Operand.tmp 130), type := 4, pos := _, after := _, guard := none }) (v := ?_) rfl (by kernel_rfl) (by kernel_rfl) (by kernel_rfl) (fun _ _ _ h => h) ?_ (by assumption) ?_
                rotate_left
                · first | (refine Or.inl ⟨by rfl, ?_⟩; intro w hSw; have z0 := cell_bl hSw s0; have z1 := cell_bl hSw s1; have z2 := cell_bl hSw s2; have z3 := cell_bl hSw s3; have z4 := cell_bl hSw s4; have z5 := cell_bl hSw s5; have z6 := cell_bl hSw l2; go_simp; (try (with_reducible rfl)); done) | (refine Or.inr ⟨by rfl, ?_⟩; with_reducible rfl)
                try simp only [Act.put, List.setIfInBounds_toArray, List.set_cons_zero, List.set_cons_succ]
                refine wpAnyH_take (i := 20) (oi := { dst := some 132, op := Go.Op.move (Go.Operand.tmp 131), type := 4, pos := _, after := _, guard := none }) (v := ?_) rfl (by kernel_rfl) (by kernel_rfl) (by kernel_rfl) (fun _ _ _ h => h) ?_ (by assumption) ?_
                rotate_left
                · first | (refine Or.inl ⟨by rfl, ?_⟩; intro w hSw; have z0 := cell_bl hSw s0; have z1 := cell_bl hSw s1; have z2 := cell_bl hSw s2; have z3 := cell_bl hSw s3; have z4 := cell_bl hSw s4; have z5 := cell_bl hSw s5; have z6 := cell_bl hSw l2; go_simp; (try (with_reducible rfl)); done) | (refine Or.inr ⟨by rfl, ?_⟩; with_reducible rfl)
                try simp only [Act.put, List.setIfInBounds_toArray, List.set_cons_zero, List.set_cons_succ]
                refine wpAnyH_take (i := 21) (oi := { dst := some 133, op := Go.Op.move (Go.Operand.tmp 14), type := 27, pos := _, after := _, guard := some (20, false) }) (v := ?_) rfl (by kernel_rfl) (by kernel_rfl) (by kernel_rfl) (fun _ _ _ h => h) ?_ (by assumption) ?_
                rotate_left
                · first | (refine Or.inl ⟨by rfl, ?_⟩; intro w hSw; have z0 := cell_bl hSw s0; have z1 := cell_bl hSw s1; have z2 := cell_bl hSw s2; have z3 := cell_bl hSw s3; have z4 := cell_bl hSw s4; have z5 := cell_bl hSw s5; have z6 := cell_bl hSw l2; go_simp; (try (with_reducible rfl)); done) | (refine Or.inr ⟨by rfl, ?_⟩; with_reducible rfl)
                try simp only [Act.put, List.setIfInBounds_toArray, List.set_cons_zero, List.set_cons_succ]
                refine wpAnyH_take (i := 22) (oi := { dst := some 134, op := Go.Op.indexAddr 27 (Go.Operand.tmp 133) (Go.Operand.const (Go.Value.int Go.IntKind.i64 2)), type := 0, pos := _, after := _, guard := some (20, false) }) (v := ?_) rfl (by kernel_rfl) (by kernel_rfl) (by kernel_rfl) (fun _ _ _ h => h) ?_ (by assumption) ?_
                rotate_left
                · first | (refine Or.inl ⟨by rfl, ?_⟩; intro w hSw; have z0 := cell_bl hSw s0; have z1 := cell_bl hSw s1; have z2 := cell_bl hSw s2; have z3 := cell_bl hSw s3; have z4 := cell_bl hSw s4; have z5 := cell_bl hSw s5; have z6 := cell_bl hSw l2; go_simp; (try (with_reducible rfl)); done) | (refine Or.inr ⟨by rfl, ?_⟩; with_reducible rfl)
                try simp only [Act.put, List.setIfInBounds_toArray, List.set_cons_zero, List.set_cons_succ]
                refine wpAnyH_take (i := 23) (oi := { dst := some 135, op := Go.Op.load 30 (Go.Operand.tmp 134), type := 30, pos := _, after := _, guard := some (20, false) }) (v := ?_) rfl (by kernel_rfl) (by kernel_rfl) (by kernel_rfl) (fun _ _ _ h => h) ?_ (by assumption) ?_
                rotate_left
                · first | (refine Or.inl ⟨by rfl, ?_⟩; intro w hSw; have z0 := cell_bl hSw s0; have z1 := cell_bl hSw s1; have z2 := cell_bl hSw s2; have z3 := cell_bl hSw s3; have z4 := cell_bl hSw s4; have z5 := cell_bl hSw s5; have z6 := cell_bl hSw l2; go_simp; (try (with_reducible rfl)); done) | (refine Or.inr ⟨by rfl, ?_⟩; with_reducible rfl)
                try simp only [Act.put, List.setIfInBounds_toArray, List.set_cons_zero, List.set_cons_succ]
                refine wpAnyH_take (i := 24) (oi := { dst := some 136, op := Go.Op.call { callee := Go.Callee.builtin Go.Builtin.len, args := #[Go.Operand.tmp 135], argTypes := #[30] }, type := 3, pos := _, after := _, guard := some (20, false) }) (v := ?_) rfl (by kernel_rfl) (by kernel_rfl) (by kernel_rfl) (fun _ _ _ h => h) ?_ (by assumption) ?_
                rotate_left
                · first | (refine Or.inl ⟨by rfl, ?_⟩; intro w hSw; have z0 := cell_bl hSw s0; have z1 := cell_bl hSw s1; have z2 := cell_bl hSw s2; have z3 := cell_bl hSw s3; have z4 := cell_bl hSw s4; have z5 := cell_bl hSw s5; have z6 := cell_bl hSw l2; go_simp; (try (with_reducible rfl)); done) | (refine Or.inr ⟨by rfl, ?_⟩; with_reducible rfl)
                try simp only [Act.put, List.setIfInBounds_toArray, List.set_cons_zero, List.set_cons_succ]
                refine wpAnyH_take (i := 25) (oi := { dst := some 137, op := Go.Op.fieldAddr 29 (Go.Operand.tmp 3) 0, type := 0, pos := _, after := _, guard := some (20, false) }) (v := ?_) rfl (by kernel_rfl) (by kernel_rfl) (by kernel_rfl) (fun _ _ _ h => h) ?_ (by assumption) ?_
                rotate_left
                · first | (refine Or.inl ⟨by rfl, ?_⟩; intro w hSw; have z0 := cell_bl hSw s0; have z1 := cell_bl hSw s1; have z2 := cell_bl hSw s2; have z3 := cell_bl hSw s3; have z4 := cell_bl hSw s4; have z5 := cell_bl hSw s5; have z6 := cell_bl hSw l2; go_simp; (try (with_reducible rfl)); done) | (refine Or.inr ⟨by rfl, ?_⟩; with_reducible rfl)
                try simp only [Act.put, List.setIfInBounds_toArray, List.set_cons_zero, List.set_cons_succ]
                refine wpAnyH_take (i := 26) (oi := { dst := some 138, op := Go.Op.fieldAddr 24 (Go.Operand.tmp 137) 2, type := 0, pos := _, after := _, guard := some (20, false) }) (v := ?_) rfl (by kernel_rfl) (by kernel_rfl) (by kernel_rfl) (fun _ _ _ h => h) ?_ (by assumption) ?_
                rotate_left
                · first | (refine Or.inl ⟨by rfl, ?_⟩; intro w hSw; have z0 := cell_bl hSw s0; have z1 := cell_bl hSw s1; have z2 := cell_bl hSw s2; have z3 := cell_bl hSw s3; have z4 := cell_bl hSw s4; have z5 := cell_bl hSw s5; have z6 := cell_bl hSw l2; go_simp; (try (with_reducible rfl)); done) | (refine Or.inr ⟨by rfl, ?_⟩; with_reducible rfl)
                try simp only [Act.put, List.setIfInBounds_toArray, List.set_cons_zero, List.set_cons_succ]
                refine wpAnyH_take (i := 27) (oi := { dst := some 139, op := Go.Op.load 3 (Go.Operand.tmp 138), type := 3, pos := _, after := _, guard := some (20, false) }) (v := ?_) rfl (by kernel_rfl) (by kernel_rfl) (by kernel_rfl) (fun _ _ _ h => h) ?_ (by assumption) ?_
                rotate_left
                · first | (refine Or.inl ⟨by rfl, ?_⟩; intro w hSw; have z0 := cell_bl hSw s0; have z1 := cell_bl hSw s1; have z2 := cell_bl hSw s2; have z3 := cell_bl hSw s3; have z4 := cell_bl hSw s4; have z5 := cell_bl hSw s5; have z6 := cell_bl hSw l2; go_simp; (try (with_reducible rfl)); done) | (refine Or.inr ⟨by rfl, ?_⟩; with_reducible rfl)
                try simp only [Act.put, List.setIfInBounds_toArray, List.set_cons_zero, List.set_cons_succ]
                refine wpAnyH_take (i := 28) (oi := { dst := some 140, op := Go.Op.binOp Go.BinOp.add 3 (Go.Operand.tmp 139) (Go.Operand.const (Go.Value.int Go.IntKind.i64 1)) 3, type := 3, pos := _, after := _, guard := some (20, false) }) (v := ?_) rfl (by kernel_rfl) (by kernel_rfl) (by kernel_rfl) (fun _ _ _ h => h) ?_ (by assumption) ?_
                rotate_left
                · first | (refine Or.inl ⟨by rfl, ?_⟩; intro w hSw; have z0 := cell_bl hSw s0; have z1 := cell_bl hSw s1; have z2 := cell_bl hSw s2; have z3 := cell_bl hSw s3; have z4 := cell_bl hSw s4; have z5 := cell_bl hSw s5; have z6 := cell_bl hSw l2; go_simp; (try (with_reducible rfl)); done) | (refine Or.inr ⟨by rfl, ?_⟩; with_reducible rfl)
                try simp only [Act.put, List.setIfInBounds_toArray, List.set_cons_zero, List.set_cons_succ]
                refine wpAnyH_take (i := 29) (oi := { dst := some 141, op := Go.Op.binOp Go.BinOp.neq 3 (Go.Operand.tmp 136) (Go.Operand.tmp 140) 3, type := 4, pos := _, after := _, guard := some (20, false) }) (v := ?_) rfl (by kernel_rfl) (by kernel_rfl) (by kernel_rfl) (fun _ _ _ h => h) ?_ (by assumption) ?_
                rotate_left
                · first | (refine Or.inl ⟨by rfl, ?_⟩; intro w hSw; have z0 := cell_bl hSw s0; have z1 := cell_bl hSw s1; have z2 := cell_bl hSw s2; have z3 := cell_bl hSw s3; have z4 := cell_bl hSw s4; have z5 := cell_bl hSw s5; have z6 := cell_bl hSw l2; go_simp; (try (with_reducible rfl)); done) | (refine Or.inr ⟨by rfl, ?_⟩; with_reducible rfl)
                try simp only [Act.put, List.setIfInBounds_toArray, List.set_cons_zero, List.set_cons_succ]
                refine wpAnyH_take (i := 30) (oi := { dst := some 142, op := Go.Op.pick (Go.Operand.tmp 132) (Go.Operand.const (Go.Value.bool true)) (Go.Operand.tmp 141), type := 4, pos := _, after := _, guard := none }) (v := ?_) rfl (by kernel_rfl) (by kernel_rfl) (by kernel_rfl) (fun _ _ _ h => h) ?_ (by assumption) ?_
                rotate_left
                · first | (refine Or.inl ⟨by rfl, ?_⟩; intro w hSw; have z0 := cell_bl hSw s0; have z1 := cell_bl hSw s1; have z2 := cell_bl hSw s2; have z3 := cell_bl hSw s3; have z4 := cell_bl hSw s4; have z5 := cell_bl hSw s5; have z6 := cell_bl hSw l2; go_simp; (try (with_reducible rfl)); done) | (refine Or.inr ⟨by rfl, ?_⟩; with_reducible rfl)
                try simp only [Act.put, List.setIfInBounds_toArray, List.set_cons_zero, List.set_cons_succ]
                refine wpAnyH_take (i := 31) (oi := { dst := some 143, op := Go.Op.move (Go.Operand.tmp 142), type := 4, pos := _, after := _, guard := none }) (v := ?_) rfl (by kernel_rfl) (by kernel_rfl) (by kernel_rfl) (fun _ _ _ h => h) ?_ (by assumption) ?_
                rotate_left
                · first | (refine Or.inl ⟨by rfl, ?_⟩; intro w hSw; have z0 := cell_bl hSw s0; have z1 := cell_bl hSw s1; have z2 := cell_bl hSw s2; have z3 := cell_bl hSw s3; have z4 := cell_bl hSw s4; have z5 := cell_bl hSw s5; have z6 := cell_bl hSw l2; go_simp; (try (with_reducible rfl)); done) | (refine Or.inr ⟨by rfl, ?_⟩; with_reducible rfl)
                try simp only [Act.put, List.setIfInBounds_toArray, List.set_cons_zero, List.set_cons_succ]
                refine wpAnyH_take (i := 32) (oi := { dst := some 144, op := Go.Op.move (Go.Operand.tmp 14), type := 27, pos := _, after := _, guard := some (31, false) }) (v := ?_) rfl (by kernel_rfl) (by kernel_rfl) (by kernel_rfl) (fun _ _ _ h => h) ?_ (by assumption) ?_
                rotate_left
                · first | (refine Or.inl ⟨by rfl, ?_⟩; intro w hSw; have z0 := cell_bl hSw s0; have z1 := cell_bl hSw s1; have z2 := cell_bl hSw s2; have z3 := cell_bl hSw s3; have z4 := cell_bl hSw s4; have z5 := cell_bl hSw s5; have z6 := cell_bl hSw l2; go_simp; (try (with_reducible rfl)); done) | (refine Or.inr ⟨by rfl, ?_⟩; with_reducible rfl)
                try simp only [Act.put, List.setIfInBounds_toArray, List.set_cons_zero, List.set_cons_succ]
                refine wpAnyH_take (i := 33) (oi := { dst := some 145, op := Go.Op.indexAddr 27 (Go.Operand.tmp 144) (Go.Operand.const (Go.Value.int Go.IntKind.i64 2)), type := 0, pos := _, after := _, guard := some (31, false) }) (v := ?_) rfl (by kernel_rfl) (by kernel_rfl) (by kernel_rfl) (fun _ _ _ h => h) ?_ (by assumption) ?_
                rotate_left
                · first | (refine Or.inl ⟨by rfl, ?_⟩; intro w hSw; have z0 := cell_bl hSw s0; have z1 := cell_bl hSw s1; have z2 := cell_bl hSw s2; have z3 := cell_bl hSw s3; have z4 := cell_bl hSw s4; have z5 := cell_bl hSw s5; have z6 := cell_bl hSw l2; go_simp; (try (with_reducible rfl)); done) | (refine Or.inr ⟨by rfl, ?_⟩; with_reducible rfl)
                try simp only [Act.put, List.setIfInBounds_toArray, List.set_cons_zero, List.set_cons_succ]
                refine wpAnyH_take (i := 34) (oi := { dst := some 146, op := Go.Op.load 30 (Go.Operand.tmp 145), type := 30, pos := _, after := _, guard := some (31, false) }) (v := ?_) rfl (by kernel_rfl) (by kernel_rfl) (by kernel_rfl) (fun _ _ _ h => h) ?_ (by assumption) ?_
                rotate_left
                · first | (refine Or.inl ⟨by rfl, ?_⟩; intro w hSw; have z0 := cell_bl hSw s0; have z1 := cell_bl hSw s1; have z2 := cell_bl hSw s2; have z3 := cell_bl hSw s3; have z4 := cell_bl hSw s4; have z5 := cell_bl hSw s5; have z6 := cell_bl hSw l2; go_simp; (try (with_reducible rfl)); done) | (refine Or.inr ⟨by rfl, ?_⟩; with_reducible rfl)
                try simp only [Act.put, List.setIfInBounds_toArray, List.set_cons_zero, List.set_cons_succ]
                refine wpAnyH_take (i := 35) (oi := { dst := some 147, op := Go.Op.move (Go.Operand.tmp 15), type := 3, pos := _, after := _, guard := some (31, false) }) (v := ?_) rfl (by kernel_rfl) (by kernel_rfl) (by kernel_rfl) (fun _ _ _ h => h) ?_ (by assumption) ?_
                rotate_left
                · first | (refine Or.inl ⟨by rfl, ?_⟩; intro w hSw; have z0 := cell_bl hSw s0; have z1 := cell_bl hSw s1; have z2 := cell_bl hSw s2; have z3 := cell_bl hSw s3; have z4 := cell_bl hSw s4; have z5 := cell_bl hSw s5; have z6 := cell_bl hSw l2; go_simp; (try (with_reducible rfl)); done) | (refine Or.inr ⟨by rfl, ?_⟩; with_reducible rfl)
                try simp only [Act.put, List.setIfInBounds_toArray, List.set_cons_zero, List.set_cons_succ]
                refine wpAnyH_take (i := 36) (oi := { dst := some 148, op := Go.Op.indexAddr 30 (Go.Operand.tmp 146) (Go.Operand.tmp 147), type := 0, pos := _, after := _, guard := some (31, false) }) (v := ?_) rfl (by kernel_rfl) (by kernel_rfl) (by kernel_rfl) (fun _ _ _ h => h) ?_ (by assumption) ?_
                rotate_left
                · first | (refine Or.inl ⟨by rfl, ?_⟩; intro w hSw; have z0 := cell_bl hSw s0; have z1 := cell_bl hSw s1; have z2 := cell_bl hSw s2; have z3 := cell_bl hSw s3; have z4 := cell_bl hSw s4; have z5 := cell_bl hSw s5; have z6 := cell_bl hSw l2; go_simp; (try (with_reducible rfl)); done) | (refine Or.inr ⟨by rfl, ?_⟩; with_reducible rfl)
                try simp only [Act.put, List.setIfInBounds_toArray, List.set_cons_zero, List.set_cons_succ]
                refine wpAnyH_take (i := 37) (oi := { dst := some 149, op := Go.Op.load 22 (Go.Operand.tmp 148), type := 22, pos := _, after := _, guard := some (31, false) }) (v := ?_) rfl (by kernel_rfl) (by kernel_rfl) (by kernel_rfl) (fun _ _ _ h => h) ?_ (by assumption) ?_
                rotate_left
                · first | (refine Or.inl ⟨by rfl, ?_⟩; intro w hSw; have z0 := cell_bl hSw s0; have z1 := cell_bl hSw s1; have z2 := cell_bl hSw s2; have z3 := cell_bl hSw s3; have z4 := cell_bl hSw s4; have z5 := cell_bl hSw s5; have z6 := cell_bl hSw l2; go_simp; (try (with_reducible rfl)); done) | (refine Or.inr ⟨by rfl, ?_⟩; with_reducible rfl)
                try simp only [Act.put, List.setIfInBounds_toArray, List.set_cons_zero, List.set_cons_succ]
                refine wpAnyH_take (i := 38) (oi := { dst := some 150, op := Go.Op.move (Go.Operand.tmp 9), type := 22, pos := _, after := _, guard := some (31, false) }) (v := ?_) rfl (by kernel_rfl) (by kernel_rfl) (by kernel_rfl) (fun _ _ _ h => h) ?_ (by assumption) ?_
                rotate_left
                · first | (refine Or.inl ⟨by rfl, ?_⟩; intro w hSw; have z0 := cell_bl hSw s0; have z1 := cell_bl hSw s1; have z2 := cell_bl hSw s2; have z3 := cell_bl hSw s3; have z4 := cell_bl hSw s4; have z5 := cell_bl hSw s5; have z6 := cell_bl hSw l2; go_simp; (try (with_reducible rfl)); done) | (refine Or.inr ⟨by rfl, ?_⟩; with_reducible rfl)
                try simp only [Act.put, List.setIfInBounds_toArray, List.set_cons_zero, List.set_cons_succ]
                refine wpAnyH_take (i := 39) (oi := { dst := some 151, op := Go.Op.move (Go.Operand.tmp 14), type := 27, pos := _, after := _, guard := some (31, false) }) (v := ?_) rfl (by kernel_rfl) (by kernel_rfl) (by kernel_rfl) (fun _ _ _ h => h) ?_ (by assumption) ?_
                rotate_left
                · first | (refine Or.inl ⟨by rfl, ?_⟩; intro w hSw; have z0 := cell_bl hSw s0; have z1 := cell_bl hSw s1; have z2 := cell_bl hSw s2; have z3 := cell_bl hSw s3; have z4 := cell_bl hSw s4; have z5 := cell_bl hSw s5; have z6 := cell_bl hSw l2; go_simp; (try (with_reducible rfl)); done) | (refine Or.inr ⟨by rfl, ?_⟩; with_reducible rfl)
                try simp only [Act.put, List.setIfInBounds_toArray, List.set_cons_zero, List.set_cons_succ]
                refine wpAnyH_take (i := 40) (oi := { dst := some 152, op := Go.Op.indexAddr 27 (Go.Operand.tmp 151) (Go.Operand.const (Go.Value.int Go.IntKind.i64 0)), type := 0, pos := _, after := _, guard := some (31, false) }) (v := ?_) rfl (by kernel_rfl) (by kernel_rfl) (by kernel_rfl) (fun _ _ _ h => h) ?_ (by assumption) ?_
                rotate_left
                · first | (refine Or.inl ⟨by rfl, ?_⟩; intro w hSw; have z0 := cell_bl hSw s0; have z1 := cell_bl hSw s1; have z2 := cell_bl hSw s2; have z3 := cell_bl hSw s3; have z4 := cell_bl hSw s4; have z5 := cell_bl hSw s5; have z6 := cell_bl hSw l2; go_simp; (try (with_reducible rfl)); done) | (refine Or.inr ⟨by rfl, ?_⟩; with_reducible rfl)
                try simp only [Act.put, List.setIfInBounds_toArray, List.set_cons_zero, List.set_cons_succ]
                refine wpAnyH_take (i := 41) (oi := { dst := some 153, op := Go.Op.load 30 (Go.Operand.tmp 152), type := 30, pos := _, after := _, guard := some (31, false) }) (v := ?_) rfl (by kernel_rfl) (by kernel_rfl) (by kernel_rfl) (fun _ _ _ h => h) ?_ (by assumption) ?_
                rotate_left
                · first | (refine Or.inl ⟨by rfl, ?_⟩; intro w hSw; have z0 := cell_bl hSw s0; have z1 := cell_bl hSw s1; have z2 := cell_bl hSw s2; have z3 := cell_bl hSw s3; have z4 := cell_bl hSw s4; have z5 := cell_bl hSw s5; have z6 := cell_bl hSw l2; go_simp; (try (with_reducible rfl)); done) | (refine Or.inr ⟨by rfl, ?_⟩; with_reducible rfl)
                try simp only [Act.put, List.setIfInBounds_toArray, List.set_cons_zero, List.set_cons_succ]
                refine wpAnyH_take (i := 42) (oi := { dst := some 154, op := Go.Op.move (Go.Operand.tmp 15), type := 3, pos := _, after := _, guard := some (31, false) }) (v := ?_) rfl (by kernel_rfl) (by kernel_rfl) (by kernel_rfl) (fun _ _ _ h => h) ?_ (by assumption) ?_
                rotate_left
                · first | (refine Or.inl ⟨by rfl, ?_⟩; intro w hSw; have z0 := cell_bl hSw s0; have z1 := cell_bl hSw s1; have z2 := cell_bl hSw s2; have z3 := cell_bl hSw s3; have z4 := cell_bl hSw s4; have z5 := cell_bl hSw s5; have z6 := cell_bl hSw l2; go_simp; (try (with_reducible rfl)); done) | (refine Or.inr ⟨by rfl, ?_⟩; with_reducible rfl)
                try simp only [Act.put, List.setIfInBounds_toArray, List.set_cons_zero, List.set_cons_succ]
                refine wpAnyH_take (i := 43) (oi := { dst := some 155, op := Go.Op.indexAddr 30 (Go.Operand.tmp 153) (Go.Operand.tmp 154), type := 0, pos := _, after := _, guard := some (31, false) }) (v := ?_) rfl (by kernel_rfl) (by kernel_rfl) (by kernel_rfl) (fun _ _ _ h => h) ?_ (by assumption) ?_
                rotate_left
                · first | (refine Or.inl ⟨by rfl, ?_⟩; intro w hSw; have z0 := cell_bl hSw s0; have z1 := cell_bl hSw s1; have z2 := cell_bl hSw s2; have z3 := cell_bl hSw s3; have z4 := cell_bl hSw s4; have z5 := cell_bl hSw s5; have z6 := cell_bl hSw l2; go_simp; (try (with_reducible rfl)); done) | (refine Or.inr ⟨by rfl, ?_⟩; with_reducible rfl)
                try simp only [Act.put, List.setIfInBounds_toArray, List.set_cons_zero, List.set_cons_succ]
                refine wpAnyH_take (i := 44) (oi := { dst := some 156, op := Go.Op.load 22 (Go.Operand.tmp 155), type := 22, pos := _, after := _, guard := some (31, false) }) (v := ?_) rfl (by kernel_rfl) (by kernel_rfl) (by kernel_rfl) (fun _ _ _ h => h) ?_ (by assumption) ?_
                rotate_left
                · first | (refine Or.inl ⟨by rfl, ?_⟩; intro w hSw; have z0 := cell_bl hSw s0; have z1 := cell_bl hSw s1; have z2 := cell_bl hSw s2; have z3 := cell_bl hSw s3; have z4 := cell_bl hSw s4; have z5 := cell_bl hSw s5; have z6 := cell_bl hSw l2; go_simp; (try (with_reducible rfl)); done) | (refine Or.inr ⟨by rfl, ?_⟩; with_reducible rfl)
                try simp only [Act.put, List.setIfInBounds_toArray, List.set_cons_zero, List.set_cons_succ]
                refine wpAnyH_take (i := 45) (oi := { dst := some 157, op := Go.Op.move (Go.Operand.tmp 14), type := 27, pos := _, after := _, guard := some (31, false) }) (v := ?_) rfl (by kernel_rfl) (by kernel_rfl) (by kernel_rfl) (fun _ _ _ h => h) ?_ (by assumption) ?_
                rotate_left
                · first | (refine Or.inl ⟨by rfl, ?_⟩; intro w hSw; have z0 := cell_bl hSw s0; have z1 := cell_bl hSw s1; have z2 := cell_bl hSw s2; have z3 := cell_bl hSw s3; have z4 := cell_bl hSw s4; have z5 := cell_bl hSw s5; have z6 := cell_bl hSw l2; go_simp; (try (with_reducible rfl)); done) | (refine Or.inr ⟨by rfl, ?_⟩; with_reducible rfl)
                try simp only [Act.put, List.setIfInBounds_toArray, List.set_cons_zero, List.set_cons_succ]
                refine wpAnyH_take (i := 46) (oi := { dst := some 158, op := Go.Op.indexAddr 27 (Go.Operand.tmp 157) (Go.Operand.const (Go.Value.int Go.IntKind.i64 1)), type := 0, pos := _, after := _, guard := some (31, false) }) (v := ?_) rfl (by kernel_rfl) (by kernel_rfl) (by kernel_rfl) (fun _ _ _ h => h) ?_ (by assumption) ?_
                rotate_left
                · first | (refine Or.inl ⟨by rfl, ?_⟩; intro w hSw; have z0 := cell_bl hSw s0; have z1 := cell_bl hSw s1; have z2 := cell_bl hSw s2; have z3 := cell_bl hSw s3; have z4 := cell_bl hSw s4; have z5 := cell_bl hSw s5; have z6 := cell_bl hSw l2; go_simp; (try (with_reducible rfl)); done) | (refine Or.inr ⟨by rfl, ?_⟩; with_reducible rfl)
                try simp only [Act.put, List.setIfInBounds_toArray, List.set_cons_zero, List.set_cons_succ]
                refine wpAnyH_take (i := 47) (oi := { dst := some 159, op := Go.Op.load 30 (Go.Operand.tmp 158), type := 30, pos := _, after := _, guard := some (31, false) }) (v := ?_) rfl (by kernel_rfl) (by kernel_rfl) (by kernel_rfl) (fun _ _ _ h => h) ?_ (by assumption) ?_
                rotate_left
                · first | (refine Or.inl ⟨by rfl, ?_⟩; intro w hSw; have z0 := cell_bl hSw s0; have z1 := cell_bl hSw s1; have z2 := cell_bl hSw s2; have z3 := cell_bl hSw s3; have z4 := cell_bl hSw s4; have z5 := cell_bl hSw s5; have z6 := cell_bl hSw l2; go_simp; (try (with_reducible rfl)); done) | (refine Or.inr ⟨by rfl, ?_⟩; with_reducible rfl)
                try simp only [Act.put, List.setIfInBounds_toArray, List.set_cons_zero, List.set_cons_succ]
                refine wpAnyH_take (i := 48) (oi := { dst := some 160, op := Go.Op.move (Go.Operand.tmp 15), type := 3, pos := _, after := _, guard := some (31, false) }) (v := ?_) rfl (by kernel_rfl) (by kernel_rfl) (by kernel_rfl) (fun _ _ _ h => h) ?_ (by assumption) ?_
                rotate_left
                · first | (refine Or.inl ⟨by rfl, ?_⟩; intro w hSw; have z0 := cell_bl hSw s0; have z1 := cell_bl hSw s1; have z2 := cell_bl hSw s2; have z3 := cell_bl hSw s3; have z4 := cell_bl hSw s4; have z5 := cell_bl hSw s5; have z6 := cell_bl hSw l2; go_simp; (try (with_reducible rfl)); done) | (refine Or.inr ⟨by rfl, ?_⟩; with_reducible rfl)
                try simp only [Act.put, List.setIfInBounds_toArray, List.set_cons_zero, List.set_cons_succ]
                refine wpAnyH_take (i := 49) (oi := { dst := some 161, op := Go.Op.indexAddr 30 (Go.Operand.tmp 159) (Go.Operand.tmp 160), type := 0, pos := _, after := _, guard := some (31, false) }) (v := ?_) rfl (by kernel_rfl) (by kernel_rfl) (by kernel_rfl) (fun _ _ _ h => h) ?_ (by assumption) ?_
                rotate_left
                · first | (refine Or.inl ⟨by rfl, ?_⟩; intro w hSw; have z0 := cell_bl hSw s0; have z1 := cell_bl hSw s1; have z2 := cell_bl hSw s2; have z3 := cell_bl hSw s3; have z4 := cell_bl hSw s4; have z5 := cell_bl hSw s5; have z6 := cell_bl hSw l2; go_simp; (try (with_reducible rfl)); done) | (refine Or.inr ⟨by rfl, ?_⟩; with_reducible rfl)
                try simp only [Act.put, List.setIfInBounds_toArray, List.set_cons_zero, List.set_cons_succ]
                refine wpAnyH_take (i := 50) (oi := { dst := some 162, op := Go.Op.load 22 (Go.Operand.tmp 161), type := 22, pos := _, after := _, guard := some (31, false) }) (v := ?_) rfl (by kernel_rfl) (by kernel_rfl) (by kernel_rfl) (fun _ _ _ h => h) ?_ (by assumption) ?_
                rotate_left
                · first | (refine Or.inl ⟨by rfl, ?_⟩; intro w hSw; have z0 := cell_bl hSw s0; have z1 := cell_bl hSw s1; have z2 := cell_bl hSw s2; have z3 := cell_bl hSw s3; have z4 := cell_bl hSw s4; have z5 := cell_bl hSw s5; have z6 := cell_bl hSw l2; go_simp; (try (with_reducible rfl)); done) | (refine Or.inr ⟨by rfl, ?_⟩; with_reducible rfl)
                try simp only [Act.put, List.setIfInBounds_toArray, List.set_cons_zero, List.set_cons_succ]
                refine wpAnyH_ready (rs := [51]) (by kernel_rfl) (by simp) ?_
                refine AllReadyH.cons (o := { dst := some 163, op := Go.Op.call { callee := Go.Callee.value (Go.Operand.func 27), args := #[Go.Operand.tmp 150, Go.Operand.tmp 156, Go.Operand.tmp 162], argTypes := #[22, 22, 22] }, type := 22, pos := _, after := _, guard := some (31, false) }) rfl (fun K hK => ?_) AllReadyH.nil
                go_simp
                refine (HADD.out _).mono ?_
                rintro e we ⟨rfl, rfl⟩
                have hBd : Bl wr wr.drew := (Dr.one (Dr.refl wr)).below _
                simp only []
                refine hK.out _ _ ?_ (fun hHeld => ?_)
                · exact hBd
                clear hK K
                try simp only [Act.put, List.setIfInBounds_toArray, List.set_cons_zero, List.set_cons_succ]
                refine wpAnyH_take (i := 52) (oi := { dst := some 164, op := Go.Op.binOp Go.BinOp.neq 22 (Go.Operand.tmp 149) (Go.Operand.tmp 163) 22, type := 4, pos := _, after := _, guard := some (31, false) }) (v := ?_) rfl (by kernel_rfl) (by kernel_rfl) (by kernel_rfl) (fun _ _ _ h => h) ?_ (by assumption) ?_
                rotate_left
                · first | (refine Or.inl ⟨by rfl, ?_⟩; intro w hSw; have z0 := cell_bl hSw s0; have z1 := cell_bl hSw s1; have z2 := cell_bl hSw s2; have z3 := cell_bl hSw s3; have z4 := cell_bl hSw s4; have z5 := cell_bl hSw s5; have z6 := cell_bl hSw l2; go_simp; (try (with_reducible rfl)); done) | (refine Or.inr ⟨by rfl, ?_⟩; with_reducible rfl)
                try simp only [Act.put, List.setIfInBounds_toArray, List.set_cons_zero, List.set_cons_succ]
                refine wpAnyH_take (i := 53) (oi := { dst := some 165, op := Go.Op.pick (Go.Operand.tmp 143) (Go.Operand.const (Go.Value.bool true)) (Go.Operand.tmp 164), type := 4, pos := _, after := _, guard := none }) (v := ?_) rfl (by kernel_rfl) (by kernel_rfl) (by kernel_rfl) (fun _ _ _ h => h) ?_ (by assumption) ?_
                rotate_left
                · first | (refine Or.inl ⟨by rfl, ?_⟩; intro w hSw; have z0 := cell_bl hSw s0; have z1 := cell_bl hSw s1; have z2 := cell_bl hSw s2; have z3 := cell_bl hSw s3; have z4 := cell_bl hSw s4; have z5 := cell_bl hSw s5; have z6 := cell_bl hSw l2; go_simp; (try (with_reducible rfl)); done) | (refine Or.inr ⟨by rfl, ?_⟩; with_reducible rfl)
                try simp only [Act.put, List.setIfInBounds_toArray, List.set_cons_zero, List.set_cons_succ]
                refine wpAnyH_done (by kernel_rfl) ?_ _
                have HBN := hide (Bl.then HBK.out HBK.out.size hBd)
                clear hBd
                go_wp2_with fail
                go_round
                case rel => exact ⟨k + 1, by omega, by go_num, HBN.out⟩
                case measure => simp [intOf]; omega
              · as_aux_lemma =>
                obtain rfl : k = T1 := by omega
                have hkTi : ¬ (k : Int) ≤ (T : Int) := by omega
                have HBK := hide (Bl.then HB8.out HB8.out.size hBk)
                clear hBk
                go_wp2_with fail
                refine (HAW.out wr HBK.out).mono ?_
                rintro e w9 ⟨rfl, hB9⟩
                have HB9 := hide (Bl.then HBK.out HBK.out.size hB9)
                clear hB9
                go_wp2_with fail
                go_ret
                exact ⟨rfl, HB9.out⟩
    · have hDi : ((DL : Int) == 2) = false := by rw [beq_eq_false_iff_ne]; omega
      have hDn : ¬ (DL : Int) = 2 := by omega
      simp only [askVal] at hmc ⊢
      rw [← hDL] at hmc hbox hW0 ⊢
      have HB0 := hide hB0; have HBX := hide hbox; have HMC := hide hmc; have HW0 := hide hW0; have HAW := hide haw; have HDL := hide hDL
      clear haw hB0 hbox hmc hF hL hW0 hDL htlow hllow hc hd ht hl hs hmay hs0
      go_enter Tryd.func7, Tryd.ntmps7
      go_upto_region 1 with fail
      rw [← HW0.out]
      have b0 := HBX.out 0 _ rfl
      have b1 := HBX.out 1 _ rfl
      have b2 := HBX.out 2 _ rfl
      have b3 := HBX.out 3 _ rfl
      have b4 := HBX.out 4 _ rfl
      have b5 := HBX.out 5 _ rfl
      have b6 := HBX.out 6 _ rfl
      have b7 := HBX.out 7 _ rfl
      go_upto_region 2 with fail
      obtain ⟨b3', hb3'⟩ : ∃ bb, bb = W0.heap.size := ⟨_, rfl⟩
      obtain ⟨W1, hW1⟩ : ∃ W1, W1 = W0.alloc (.cells #[.int .u64 p, .int .i64 N, .int .i64 T, .slice Ac corrupt.length cc, .slice Ad devs.length cd, .slice At tapes.length ct] 29) := ⟨_, rfl⟩
      have hx1 : W1.heap[b3']? = some (.cells #[.int .u64 p, .int .i64 N, .int .i64 T, .slice Ac corrupt.length cc, .slice Ad devs.length cd, .slice At tapes.length ct] 29 (0, 0)) := by rw [hW1, hb3']; exact heap_alloc_new W0 _
      have hB01 : Bl W0 W1 := by rw [hW1]; exact (Below.refl _ _).alloc (Nat.le_refl _) _
      rw [← hW1, ← hb3']
      have d3 : W1.cell? ⟨b3', 3, none⟩ = some (.slice Ac corrupt.length cc) := by simp [World.cell?, hx1]
      have fr3 : W1.frozen? ⟨b3', 3, none⟩ = false := by simp [World.frozen?, hx1]
      have d4 : W1.cell? ⟨b3', 4, none⟩ = some (.slice Ad devs.length cd) := by simp [World.cell?, hx1]
      have fr4 : W1.frozen? ⟨b3', 4, none⟩ = false := by simp [World.frozen?, hx1]
      have HX1 := hide hx1; have HB01 := hide hB01; have HBE := hide hb3'
      clear hx1 hB01 hb3' hW1
      go_upto_region 3 with fail
      obtain ⟨W2, hW2⟩ : ∃ W2, W2 = (W1.setCell ⟨b3', 3, none⟩ (.slice none 0 0)).setCell ⟨b3', 4, none⟩ (.slice none 0 0) := ⟨_, rfl⟩
      rw [← hW2]
      have hx2 : W2.heap[b3']? = some (.cells #[.int .u64 p, .int .i64 N, .int .i64 T, .slice none 0 0, .slice none 0 0, .slice At tapes.length ct] 29 (0, 0)) := by rw [hW2]; simp [World.setCell, Array.getElem?_modify, HX1.out]
      have hB02 : Bl W0 W2 := by rw [hW2]; exact (HB01.out.setCell (by rw [HBE.out]; exact Nat.le_refl _) _).setCell (by rw [HBE.out]; exact Nat.le_refl _) _
      clear d3 fr3 d4 fr4 hW2
      have d0 : W2.cell? ⟨b3', 0, none⟩ = some (.int .u64 p) := by simp [World.cell?, hx2]
      have d1 : W2.cell? ⟨b3', 1, none⟩ = some (.int .i64 N) := by simp [World.cell?, hx2]
      have d2 : W2.cell? ⟨b3', 2, none⟩ = some (.int .i64 T) := by simp [World.cell?, hx2]
      have d3 : W2.cell? ⟨b3', 3, none⟩ = some (.slice none 0 0) := by simp [World.cell?, hx2]
      have d4 : W2.cell? ⟨b3', 4, none⟩ = some (.slice none 0 0) := by simp [World.cell?, hx2]
      have d5 : W2.cell? ⟨b3', 5, none⟩ = some (.slice At tapes.length ct) := by simp [World.cell?, hx2]
      have c6 := cell_bl hB02 b6
      have c7 := cell_bl hB02 b7
      have HB02 := hide hB02
      clear hx2 hB02 b0 b1 b2 b3 b4 b5 b6 b7
      go_upto_region 4 with fail
      obtain ⟨b4', hb4'⟩ : ∃ bb, bb = W2.heap.size := ⟨_, rfl⟩
      obtain ⟨W3, hW3⟩ : ∃ W3, W3 = W2.alloc (.cells #[.int .u64 p, .int .i64 N, .int .i64 T, .slice none 0 0, .slice none 0 0, .slice At tapes.length ct, .int .u8 wh, .slice Al DL cl, .slice none 0 0] 32) := ⟨_, rfl⟩
      have hB23 : Bl W2 W3 := by rw [hW3]; exact (Below.refl _ _).alloc (Nat.le_refl _) _
      have e0 : W3.cell? ⟨b4', 0, none⟩ = some (.int .u64 p) := by rw [hW3, hb4']; exact World.cell?_alloc_at _ _ _ _ rfl
      have e1 : W3.cell? ⟨b4', 1, none⟩ = some (.int .i64 N) := by rw [hW3, hb4']; exact World.cell?_alloc_at _ _ _ _ rfl
      have e2 : W3.cell? ⟨b4', 2, none⟩ = some (.int .i64 T) := by rw [hW3, hb4']; exact World.cell?_alloc_at _ _ _ _ rfl
      have e3 : W3.cell? ⟨b4', 3, none⟩ = some (.slice none 0 0) := by rw [hW3, hb4']; exact World.cell?_alloc_at _ _ _ _ rfl
      have e4 : W3.cell? ⟨b4', 4, none⟩ = some (.slice none 0 0) := by rw [hW3, hb4']; exact World.cell?_alloc_at _ _ _ _ rfl
      have e5 : W3.cell? ⟨b4', 5, none⟩ = some (.slice At tapes.length ct) := by rw [hW3, hb4']; exact World.cell?_alloc_at _ _ _ _ rfl
      have e6 : W3.cell? ⟨b4', 6, none⟩ = some (.int .u8 wh) := by rw [hW3, hb4']; exact World.cell?_alloc_at _ _ _ _ rfl
      have e7 : W3.cell? ⟨b4', 7, none⟩ = some (.slice Al DL cl) := by rw [hW3, hb4']; exact World.cell?_alloc_at _ _ _ _ rfl
      have e8 : W3.cell? ⟨b4', 8, none⟩ = some (.slice none 0 0) := by rw [hW3, hb4']; exact World.cell?_alloc_at _ _ _ _ rfl
      rw [← hW3, ← hb4']
      have g0 := cell_bl hB23 d0
      have g1 := cell_bl hB23 d1
      have g2 := cell_bl hB23 d2
      have g3 := cell_bl hB23 d3
      have g4 := cell_bl hB23 d4
      have g5 := cell_bl hB23 d5
      have f7 := cell_bl hB23 c7
      have HB3 := hide (Bl.then HB0.out HB0.out.size (Bl.then HB02.out HB02.out.size hB23))
      clear hB23 hW3 hb4' d0 d1 d2 d3 d4 d5 c6 c7 HX1 HB01 HBE HB02 HBX
      go_wp2_with fail
      refine (HMC.out W3 HB3.out).mono ?_
      rintro e w4 ⟨rfl, hB4⟩
      have f7 := cell_bl hB4 f7
      have HB4 := hide (Bl.then HB3.out HB3.out.size hB4)
      clear hB4
      go_wp2_with fail
      refine (HAW.out w4 HB4.out).mono ?_
      rintro e w5 ⟨rfl, hB5⟩
      have HB5 := hide (Bl.then HB4.out HB4.out.size hB5)
      clear hB5
      go_wp2_with fail
      go_ret
      exact ⟨rfl, HB5.out⟩
  · have hmc := fun W2 (h : Bl w W2) => (hmc W2 h).mono (R' := fun e w' => e = .returned (.bool false) ∧ Bl W2 w') (fun e w' h => by
      obtain ⟨h1, b, rfl, hb⟩ := h
      cases b with
      | true => exact absurd (hb.1 rfl) hmay
      | false => exact ⟨rfl, h1⟩)
    obtain ⟨DL, hDL⟩ : ∃ D, D = L.length := ⟨_, rfl⟩
    simp only [askVal] at hmc ⊢
    rw [← hDL] at hmc hbox hW0 ⊢
    have HB0 := hide hB0; have HBX := hide hbox; have HMC := hide hmc; have HW0 := hide hW0; have HAW := hide haw; have HDL := hide hDL
    clear haw hB0 hbox hmc hL hW0 hDL htlow hllow hc hd ht hl hs hmay hs0
    go_enter Tryd.func7, Tryd.ntmps7
    go_upto_region 1 with fail
    rw [← HW0.out]
    have b0 := HBX.out 0 _ rfl
    have b1 := HBX.out 1 _ rfl
    have b2 := HBX.out 2 _ rfl
    have b3 := HBX.out 3 _ rfl
    have b4 := HBX.out 4 _ rfl
    have b5 := HBX.out 5 _ rfl
    have b6 := HBX.out 6 _ rfl
    have b7 := HBX.out 7 _ rfl
    go_upto_region 2 with fail
    obtain ⟨b3', hb3'⟩ : ∃ bb, bb = W0.heap.size := ⟨_, rfl⟩
    obtain ⟨W1, hW1⟩ : ∃ W1, W1 = W0.alloc (.cells #[.int .u64 p, .int .i64 n, .int .i64 t, .slice Ac corrupt.length cc, .slice Ad devs.length cd, .slice At tapes.length ct] 29) := ⟨_, rfl⟩
    have hx1 : W1.heap[b3']? = some (.cells #[.int .u64 p, .int .i64 n, .int .i64 t, .slice Ac corrupt.length cc, .slice Ad devs.length cd, .slice At tapes.length ct] 29 (0, 0)) := by rw [hW1, hb3']; exact heap_alloc_new W0 _
    have hB01 : Bl W0 W1 := by rw [hW1]; exact (Below.refl _ _).alloc (Nat.le_refl _) _
    rw [← hW1, ← hb3']
    have d3 : W1.cell? ⟨b3', 3, none⟩ = some (.slice Ac corrupt.length cc) := by simp [World.cell?, hx1]
    have fr3 : W1.frozen? ⟨b3', 3, none⟩ = false := by simp [World.frozen?, hx1]
    have d4 : W1.cell? ⟨b3', 4, none⟩ = some (.slice Ad devs.length cd) := by simp [World.cell?, hx1]
    have fr4 : W1.frozen? ⟨b3', 4, none⟩ = false := by simp [World.frozen?, hx1]
    have HX1 := hide hx1; have HB01 := hide hB01; have HBE := hide hb3'
    clear hx1 hB01 hb3' hW1
    go_upto_region 3 with fail
    obtain ⟨W2, hW2⟩ : ∃ W2, W2 = (W1.setCell ⟨b3', 3, none⟩ (.slice none 0 0)).setCell ⟨b3', 4, none⟩ (.slice none 0 0) := ⟨_, rfl⟩
    rw [← hW2]
    have hx2 : W2.heap[b3']? = some (.cells #[.int .u64 p, .int .i64 n, .int .i64 t, .slice none 0 0, .slice none 0 0, .slice At tapes.length ct] 29 (0, 0)) := by rw [hW2]; simp [World.setCell, Array.getElem?_modify, HX1.out]
    have hB02 : Bl W0 W2 := by rw [hW2]; exact (HB01.out.setCell (by rw [HBE.out]; exact Nat.le_refl _) _).setCell (by rw [HBE.out]; exact Nat.le_refl _) _
    clear d3 fr3 d4 fr4 hW2
    have d0 : W2.cell? ⟨b3', 0, none⟩ = some (.int .u64 p) := by simp [World.cell?, hx2]
    have d1 : W2.cell? ⟨b3', 1, none⟩ = some (.int .i64 n) := by simp [World.cell?, hx2]
    have d2 : W2.cell? ⟨b3', 2, none⟩ = some (.int .i64 t) := by simp [World.cell?, hx2]
    have d3 : W2.cell? ⟨b3', 3, none⟩ = some (.slice none 0 0) := by simp [World.cell?, hx2]
    have d4 : W2.cell? ⟨b3', 4, none⟩ = some (.slice none 0 0) := by simp [World.cell?, hx2]
    have d5 : W2.cell? ⟨b3', 5, none⟩ = some (.slice At tapes.length ct) := by simp [World.cell?, hx2]
    have c6 := cell_bl hB02 b6
    have c7 := cell_bl hB02 b7
    have HB02 := hide hB02
    clear hx2 hB02 b0 b1 b2 b3 b4 b5 b6 b7
    go_upto_region 4 with fail
    obtain ⟨b4', hb4'⟩ : ∃ bb, bb = W2.heap.size := ⟨_, rfl⟩
    obtain ⟨W3, hW3⟩ : ∃ W3, W3 = W2.alloc (.cells #[.int .u64 p, .int .i64 n, .int .i64 t, .slice none 0 0, .slice none 0 0, .slice At tapes.length ct, .int .u8 wh, .slice Al DL cl, .slice none 0 0] 32) := ⟨_, rfl⟩
    have hB23 : Bl W2 W3 := by rw [hW3]; exact (Below.refl _ _).alloc (Nat.le_refl _) _
    have e0 : W3.cell? ⟨b4', 0, none⟩ = some (.int .u64 p) := by rw [hW3, hb4']; exact World.cell?_alloc_at _ _ _ _ rfl
    have e1 : W3.cell? ⟨b4', 1, none⟩ = some (.int .i64 n) := by rw [hW3, hb4']; exact World.cell?_alloc_at _ _ _ _ rfl
    have e2 : W3.cell? ⟨b4', 2, none⟩ = some (.int .i64 t) := by rw [hW3, hb4']; exact World.cell?_alloc_at _ _ _ _ rfl
    have e3 : W3.cell? ⟨b4', 3, none⟩ = some (.slice none 0 0) := by rw [hW3, hb4']; exact World.cell?_alloc_at _ _ _ _ rfl
    have e4 : W3.cell? ⟨b4', 4, none⟩ = some (.slice none 0 0) := by rw [hW3, hb4']; exact World.cell?_alloc_at _ _ _ _ rfl
    have e5 : W3.cell? ⟨b4', 5, none⟩ = some (.slice At tapes.length ct) := by rw [hW3, hb4']; exact World.cell?_alloc_at _ _ _ _ rfl
    have e6 : W3.cell? ⟨b4', 6, none⟩ = some (.int .u8 wh) := by rw [hW3, hb4']; exact World.cell?_alloc_at _ _ _ _ rfl
    have e7 : W3.cell? ⟨b4', 7, none⟩ = some (.slice Al DL cl) := by rw [hW3, hb4']; exact World.cell?_alloc_at _ _ _ _ rfl
    have e8 : W3.cell? ⟨b4', 8, none⟩ = some (.slice none 0 0) := by rw [hW3, hb4']; exact World.cell?_alloc_at _ _ _ _ rfl
    rw [← hW3, ← hb4']
    have g0 := cell_bl hB23 d0
    have g1 := cell_bl hB23 d1
    have g2 := cell_bl hB23 d2
    have g3 := cell_bl hB23 d3
    have g4 := cell_bl hB23 d4
    have g5 := cell_bl hB23 d5
    have f7 := cell_bl hB23 c7
    have HB3 := hide (Bl.then HB0.out HB0.out.size (Bl.then HB02.out HB02.out.size hB23))
    clear hB23 hW3 hb4' d0 d1 d2 d3 d4 d5 c6 c7 HX1 HB01 HBE HB02 HBX
    go_wp2_with fail
    refine (HMC.out W3 HB3.out).mono ?_
    rintro e w4 ⟨rfl, hB4⟩
    have f7 := cell_bl hB4 f7
    have HB4 := hide (Bl.then HB3.out HB3.out.size hB4)
    clear hB4
    go_wp2_with fail
    refine (HAW.out w4 HB4.out).mono ?_
    rintro e w5 ⟨rfl, hB5⟩
    have HB5 := hide (Bl.then HB4.out HB4.out.size hB5)
    clear hB5
    go_wp2_with fail
    go_ret
    exact ⟨rfl, HB5.out⟩
end Pv
