import Derived.Test.YtjokahbkmceocaaDoorYLawMsgs
import Derived.Test.YtjokahbkmceocaaDoorYViews
import Derived.Test.YtjokahbkmceocaaDoorYLawNets2
import Derived.Test.YtjokahbkmceocaaDoorZa
import Derived.Deep.RegionHeld
set_option linter.unusedVariables false
set_option linter.unusedSimpArgs false
namespace Pv
open Go Go.RowKit Go.Proofs

theorem kS_toT {α : Type} {K : Kn α} {T S S' : Nat → Prop} {w : World} {us : List Value} {xs : List α} (h : (kS K).R w S us xs) (hS : ∀ b, b < w.heap.size → S b → S' b ∧ T b) : (kS (kT K T)).R w S' us xs := by
  obtain ⟨A, n, c, e, h1, h2, h3⟩ := (kS K).sub h (S' := fun b => S' b ∧ T b) hS
  exact ⟨A, n, c, e, h1, h2, fun j x hx => by
    obtain ⟨ad, vs, e1, e2, e3, e4⟩ := h3 j x hx
    exact ⟨ad, vs, e1, e2.1, e3, e4⟩⟩
/-- the row that is put in the place of the recovering party's own -/
def igRow (p T : Nat) (other : List Nat) (i : Nat) : List Nat := (List.range (T + 1)).map fun j => if j < i ∧ j < other.length then other.getD j 0 % p else 0
theorem igRow_len (p T : Nat) (other : List Nat) (i : Nat) : (igRow p T other i).length = T + 1 := by simp [igRow]
theorem igRow_lt {p : Nat} (hp : 0 < p) (T : Nat) (other : List Nat) (i : Nat) : ∀ c, c ∈ igRow p T other i → c < p := fun c hc => by
  obtain ⟨j, _, rfl⟩ := List.mem_map.1 hc
  split
  · exact Nat.mod_lt _ hp
  · exact hp
theorem igRow_0 (p T : Nat) (other : List Nat) : List.replicate (T + 1) 0 = igRow p T other 0 := by
  unfold igRow
  refine List.ext_getElem? fun j => ?_
  rw [List.getElem?_map, List.getElem?_replicate]
  by_cases h : j < T + 1
  · rw [if_pos h, List.getElem?_range h]; rfl
  · rw [if_neg h, List.getElem?_eq_none (by simpa using h)]; rfl
theorem igRow_succ {p T : Nat} {other : List Nat} {i : Nat} (hi : i < T + 1) (ho : i < other.length) : (igRow p T other i).set i (other.getD i 0 % p) = igRow p T other (i + 1) := by
  unfold igRow
  refine List.ext_getElem? fun j => ?_
  rw [List.getElem?_set, List.length_map, List.length_range, List.getElem?_map, List.getElem?_map]
  by_cases h : j < T + 1
  · rw [List.getElem?_range h]
    by_cases e : i = j
    · subst e; rw [if_pos rfl, if_pos h]; simp [ho]
    · rw [if_neg e]
      have : (j < i ∧ j < other.length) ↔ (j < i + 1 ∧ j < other.length) := by omega
      simp only [Option.map_some, this]
  · rw [List.getElem?_eq_none (l := List.range (T + 1)) (by simpa using h)]
    by_cases e : i = j
    · omega
    · rw [if_neg e]; rfl
theorem igRow_end {p T : Nat} {other : List Nat} {i : Nat} (h : ¬ (i < T + 1 ∧ i < other.length)) : igRow p T other i = igRow p T other (T + 1) := by
  unfold igRow
  refine List.map_congr_left fun j hj => ?_
  have hj := List.mem_range.1 hj
  have : (j < i ∧ j < other.length) ↔ (j < T + 1 ∧ j < other.length) := by omega
  simp only [this]
/-- the sharings with the other row -/
def igSh (p N T : Nat) (corrupt : List Int) (spoil : List Nat) (L : List (List Nat)) (other : List Nat) (q1 k : Nat) : List (List Nat) := (numSh p N T corrupt spoil L k).set q1 (igRow p T other (T + 1))
def igL (p N T : Nat) (corrupt : List Int) (spoil : List Nat) (L : List (List Nat)) (other : List Nat) (q1 : Nat) : List (List (List Nat)) := (List.range L.length).map (igSh p N T corrupt spoil L other q1)
theorem numSh_len (p N T : Nat) (corrupt : List Int) (spoil : List Nat) (L : List (List Nat)) (k : Nat) : (numSh p N T corrupt spoil L k).length = N := by simp [numSh]
theorem igL_len (p N T : Nat) (corrupt : List Int) (spoil : List Nat) (L : List (List Nat)) (other : List Nat) (q1 : Nat) : (igL p N T corrupt spoil L other q1).length = L.length := by simp [igL]
theorem igL_ok {p N T : Nat} (hp : 0 < p) (corrupt : List Int) (spoil : List Nat) (L : List (List Nat)) (other : List Nat) (q1 : Nat) : ∀ l, l ∈ igL p N T corrupt spoil L other q1 → l.length = N ∧ ∀ r, r ∈ l → ∀ c, c ∈ r → c < p := fun l hl => by
  obtain ⟨k, hk, rfl⟩ := List.mem_map.1 hl
  refine ⟨by unfold igSh; rw [List.length_set, numSh_len], fun r hr => ?_⟩
  rcases List.mem_or_eq_of_mem_set hr with h | h
  · exact (numL_ok hp corrupt spoil L _ (List.mem_map.2 ⟨k, hk, rfl⟩)).2 r h
  · rw [h]; exact igRow_lt hp _ _ _
theorem ig_rows {p N T : Nat} {corrupt : List Int} {spoil : List Nat} {L : List (List Nat)} {other : List Nat} {q : Nat} (hq : 1 ≤ q) : recOut p q L.length (rw2 (igL p N T corrupt spoil L other (q - 1))) = recOut p q L.length (rw2 (numL p N T corrupt spoil L)) :=
  recOut_congr fun k i hk hi => by
    congr 1
    unfold rw2
    have e1 : (igL p N T corrupt spoil L other (q - 1)).getD k [] = igSh p N T corrupt spoil L other (q - 1) k := by
      unfold igL; rw [List.getD_eq_getElem?_getD, List.getElem?_map, List.getElem?_range hk]; rfl
    have e2 : (numL p N T corrupt spoil L).getD k [] = numSh p N T corrupt spoil L k := by
      unfold numL; rw [List.getD_eq_getElem?_getD, List.getElem?_map, List.getElem?_range hk]; rfl
    rw [e1, e2]
    unfold igSh
    rw [List.getD_eq_getElem?_getD, List.getD_eq_getElem?_getD, List.getElem?_set, if_neg (by omega)]
set_option maxHeartbeats 4000000 in
set_option maxRecDepth 100000 in
theorem rign_any (p : Nat) (n t : Int) (vc vd vt vl vs : Value) (wh : Nat) (corrupt : List Int) (devs : List Dev) (tapes L : List (List Nat)) (spoil : List Nat) (w : World) (hL : Laid w) (hc : (kS kI).R w Any [vc] corrupt) (hd : (kS kDev).R w Any [vd] devs) (ht : (kS (kS kU)).R w Any [vt] tapes) (hl : (kS (kS kU)).R w Any [vl] L) (hs : (kS kU).R w Any [vs] spoil) (hwh : wh < 256) (vo : Value) (other : List Nat) (ho : (kS kU).R w Any [vo] other) :
    Calls Tryd.prog 6 #[askVal p n t vc vd vt wh vl vs, vo] w fun e w' => LawP w e w' := by
  have hclow := (kS kI).low hc
  have hdlow := (kS kDev).low hd
  have htlow := (kS (kS kU)).low ht
  have hllow := (kS (kS kU)).low hl
  have hslow := (kS kU).low hs
  obtain ⟨Ao, co, rfl, ⟨ho1, ho2⟩, hoc⟩ := rdU ((kS kU).low ho)
  obtain ⟨Ac, cc, rfl, _, _⟩ := kS_len hc
  obtain ⟨Ad, cd, rfl, _, _⟩ := kS_len hd
  obtain ⟨At, ct, rfl, _, _⟩ := kS_len ht
  obtain ⟨Al, cl, rfl, _, _⟩ := kS_len hl
  obtain ⟨As, cs, rfl, _, _⟩ := kS_len hs
  obtain ⟨W0, hW0⟩ : ∃ W0, W0 = w.alloc (.cells #[.int .u64 p, .int .i64 n, .int .i64 t, .slice Ac corrupt.length cc, .slice Ad devs.length cd, .slice At tapes.length ct, .int .u8 wh, .slice Al L.length cl, .slice As spoil.length cs] 32) := ⟨_, rfl⟩
  have hB0 : Bl w W0 := by rw [hW0]; exact (Below.refl _ _).alloc (Nat.le_refl _) _
  have hbox : ∀ i u, (#[.int .u64 p, .int .i64 n, .int .i64 t, .slice Ac corrupt.length cc, .slice Ad devs.length cd, .slice At tapes.length ct, .int .u8 wh, .slice Al L.length cl, .slice As spoil.length cs] : Array Value)[i]? = some u → W0.cell? ⟨w.heap.size, i, none⟩ = some u := fun i u hu => by
    rw [hW0, World.cell?_alloc_at _ _ _ _ rfl]; exact hu
  have hmc := lmay_any p n t _ _ _ _ _ wh corrupt devs tapes L spoil W0 ((kS kI).any ((kS kI).bl hclow hB0)) ((kS kDev).any ((kS kDev).bl hdlow hB0)) ((kS (kS kU)).any ((kS (kS kU)).bl htlow hB0)) ((kS (kS kU)).any ((kS (kS kU)).bl hllow hB0)) ((kS kU).any ((kS kU).bl hslow hB0))
  by_cases hmay : MayB p n t corrupt devs tapes L spoil
  · obtain ⟨N, T, rfl, rfl, hF⟩ := fair_facts hmay.1
    have hmc := hmc.mono (R' := fun e w' => e = .returned (.bool true) ∧ Bl W0 w') (fun e w' h => by
      obtain ⟨h1, b, rfl, hb⟩ := h
      cases b with
      | true => exact ⟨rfl, h1⟩
      | false => have := hb.2 hmay; cases this)
    have hnets := fun W2 (h : Bl w W2) => nets_anyB p N T _ _ _ corrupt devs tapes W2 (hL.bl h) w.heap.size h.size ((kS kI).bl hclow h) ((kS kDev).bl hdlow h) ((kS (kS kU)).any ((kS (kS kU)).bl htlow h)) (fun l hl => Nat.le_trans (hF.tl l hl) (by decide))
    have hwho := fun W2 => who_any p N T Ac Ad At Al As corrupt.length cc devs.length cd tapes.length ct L.length cl spoil.length cs wh W2 (by have := hF.n4; omega) (by have := hF.n13; omega) hwh
    have hnum := fun W2 (h : Bl w W2) => numbers_any p N T _ _ _ _ _ wh corrupt devs tapes L spoil W2 ((kS kI).any ((kS kI).bl hclow h)) ((kS kDev).any ((kS kDev).bl hdlow h)) ((kS (kS kU)).any ((kS (kS kU)).bl htlow h)) ((kS (kS kU)).any ((kS (kS kU)).bl hllow h)) ((kS kU).any ((kS kU).bl hslow h)) hF.hp hF.n13 hF.np (by have := hF.t3; have := hF.n13; omega) hmay.2.1 hmay.2.2
    obtain ⟨q, hq⟩ : ∃ q, q = whoN N wh := ⟨_, rfl⟩
    have hqw := whoN_in (N := N) (wh := wh) (by have := hF.n4; omega)
    rw [← hq] at hwho hqw
    obtain ⟨hq1, hqN⟩ := hqw
    simp only [scVal, askVal] at hmc hnets hwho hnum ⊢
    obtain ⟨DL, hDL⟩ : ∃ D, D = L.length := ⟨_, rfl⟩
    have hDL3 : DL ≤ 3 := by rw [hDL]; exact hmay.2.1
    have hnl := numL_len p N T corrupt spoil L
    have hnok := numL_ok (p := p) (N := N) (T := T) (by have := hF.np; omega) corrupt spoil L
    rw [← hDL] at hmc hwho hnum hbox hW0 hnl ⊢
    have hn4 := hF.n4
    have hn13 := hF.n13
    have hat : ∀ d, d ∈ devs → 0 ≤ d.at_ := fun d hd => (hF.dv d hd).at0
    have HB0 := hide hB0; have HBX := hide hbox; have HMC := hide hmc; have HN := hide hnets; have HWHO := hide hwho; have HNUM := hide hnum; have HFF := hide hF; have HLD := hide hL; have HW0 := hide hW0; have HQ := hide hq; have HDL := hide hDL; have HNL := hide hnl; have HNOK := hide hnok; have HAT := hide hat
    have haw := fun W2 (h : Bl w W2) => awake_any W2 (HLD.out.bl h)
    obtain ⟨DO, hDO⟩ : ∃ D, D = other.length := ⟨_, rfl⟩
    rw [← hDO] at ho1 hoc ⊢
    have HOC := hide hoc; have HDO := hide hDO; have HAW := hide haw
    have hlo := hF.hp.lo
    have hhi := hF.hp.hi
    have hT4 : T ≤ 4 := by have := hF.t3; have := hF.n13; omega
    clear ho hoc hDO haw hB0 hbox hmc hnets hwho hnum hF hL hW0 hq hDL hclow hdlow htlow hllow hslow hc hd ht hl hs hmay hnl hnok hat
    go_enter Tryd.func6, Tryd.ntmps6
    go_wp2_with fail
    rw [← HW0.out]
    refine HMC.out.mono ?_
    rintro e w2 ⟨rfl, hB2⟩
    have b0 := cell_bl hB2 (HBX.out 0 _ rfl)
    have b1 := cell_bl hB2 (HBX.out 1 _ rfl)
    have b2 := cell_bl hB2 (HBX.out 2 _ rfl)
    have b3 := cell_bl hB2 (HBX.out 3 _ rfl)
    have b4 := cell_bl hB2 (HBX.out 4 _ rfl)
    have b5 := cell_bl hB2 (HBX.out 5 _ rfl)
    have b6 := cell_bl hB2 (HBX.out 6 _ rfl)
    have b7 := cell_bl hB2 (HBX.out 7 _ rfl)
    have b8 := cell_bl hB2 (HBX.out 8 _ rfl)
    have HB2 := hide (Bl.then HB0.out HB0.out.size hB2)
    clear hB2
    go_wp2_with fail
    refine (HN.out w2 HB2.out).mono ?_
    rintro e w3 ⟨hB3, hcase⟩
    rcases hcase with ⟨hno, _⟩ | ⟨_, nb, vb, vtp, rb, rfl, hN, hnb, hvb, hnbw, hvbw⟩
    · exact absurd HFF.out.ok hno
    have c0 := cell_bl hB3 b0
    have c1 := cell_bl hB3 b1
    have c2 := cell_bl hB3 b2
    have c3 := cell_bl hB3 b3
    have c4 := cell_bl hB3 b4
    have c5 := cell_bl hB3 b5
    have c6 := cell_bl hB3 b6
    have c7 := cell_bl hB3 b7
    have c8 := cell_bl hB3 b8
    have HB3 := hide hB3; have HNR := hide hN
    have HBW3 := hide (Bl.then HB2.out HB2.out.size hB3)
    clear hB3 hN
    go_wp2_with fail
    refine (HN.out w3 HBW3.out).mono ?_
    rintro e w4 ⟨hB4, hcase⟩
    rcases hcase with ⟨hno, _⟩ | ⟨_, nb2, vb2, vtp2, rb2, rfl, hN2, hnb2, hvb2, hnbw2, hvbw2⟩
    · exact absurd HFF.out.ok hno
    have d0 := cell_bl hB4 c0
    have d1 := cell_bl hB4 c1
    have d2 := cell_bl hB4 c2
    have d3 := cell_bl hB4 c3
    have d4 := cell_bl hB4 c4
    have d5 := cell_bl hB4 c5
    have d6 := cell_bl hB4 c6
    have d7 := cell_bl hB4 c7
    have d8 := cell_bl hB4 c8
    have HB4 := hide hB4; have HNR2 := hide hN2
    have HBW4 := hide (Bl.then HBW3.out HBW3.out.size hB4)
    clear hB4 hN2 c0 c1 c2 c3 c4 c5 c6 c7 c8
    go_wp2_with fail
    refine (HNUM.out w4 HBW4.out).mono ?_
    rintro e w5 ⟨hB5, v5, rfl, hr5⟩
    obtain ⟨A5, c5, hv5, _, _⟩ := kS_len hr5
    rw [HNL.out] at hv5
    subst hv5
    have e0 := cell_bl hB5 d0
    have e1 := cell_bl hB5 d1
    have e2 := cell_bl hB5 d2
    have e3 := cell_bl hB5 d3
    have e4 := cell_bl hB5 d4
    have e5 := cell_bl hB5 d5
    have e6 := cell_bl hB5 d6
    have e7 := cell_bl hB5 d7
    have e8 := cell_bl hB5 d8
    have HB5 := hide hB5; have HR5 := hide hr5
    clear hB5 hr5 d0 d1 d2 d3 d4 d5 d6 d7 d8
    obtain ⟨q1, hq1e⟩ : ∃ q1, q1 = q - 1 := ⟨_, rfl⟩
    have hqi : (q : Int) - 1 = (q1 : Int) := by omega
    have hqw : IntKind.i64.wrap (q1 : Int) = (q1 : Int) := by rw [IntWalk.i64_in _ (by omega)]
    have hq1N : q1 < N := by omega
    have hq1i : (q1 : Int) < (N : Int) := by omega
    have hq10 : (0 : Int) ≤ (q1 : Int) := by omega
    have HQ1 := hide hq1e; clear hq1e
    go_wp2_with fail
    go_loopw [12, 13] (fun s12 ix wr => ∃ k : Nat, k ≤ DL ∧ ix = .int .i64 k ∧ Bl w5 wr ∧ Ow (kT (kS (kS kU)) (fun b => w4.heap.size ≤ b)) wr w5.heap.size 44 s12 ((List.range k).map (igSh p N T corrupt spoil L other q1))) (fun _ ix _ => DL - (intOf ix).toNat)
    case atStart => exact ⟨0, by omega, rfl, Below.refl _ _, Ow.nil _ _ _ _⟩
    case round =>
      obtain ⟨k, hk, rfl, hBk, hOk⟩ := hrel
      by_cases hkD : k < DL
      · as_aux_lemma =>
        have hki : (k : Int) < (DL : Int) := by omega
        have hk0 : (0 : Int) ≤ (k : Int) := by omega
        obtain ⟨A', c', e', _, hel⟩ := rd_open rfl HR5.out
        obtain ⟨ad, u, hA, _, hu, hcu⟩ := hel k (numSh p N T corrupt spoil L k) (by unfold numL; rw [List.getElem?_map, List.getElem?_range (by rw [← HDL.out]; exact hkD)]; rfl)
        injection e' with e'1 e'2 e'3
        subst e'1
        subst hA
        obtain ⟨Au, cu, hvu, _, _⟩ := kS_len hu
        rw [numSh_len] at hvu
        subst hvu
        have f1 := cell_bl hBk hcu
        have g0 := cell_bl hBk e0
        have g1 := cell_bl hBk e1
        have g2 := cell_bl hBk e2
        have g3 := cell_bl hBk e3
        have g4 := cell_bl hBk e4
        have g5 := cell_bl hBk e5
        have g6 := cell_bl hBk e6
        have g7 := cell_bl hBk e7
        have g8 := cell_bl hBk e8
        obtain ⟨A12, c12, hv12, _, _⟩ := hOk.slice
        rw [List.length_map, List.length_range] at hv12
        subst hv12
        have hur := (kS (kS kU)).kp ((kS (kS kU)).sub hu (S' := fun b => w4.heap.size ≤ b ∧ b < w5.heap.size) fun b hl hb => ⟨hb, hl⟩) fun b hb _ => hBk.block b hb
        have HUR := hide hur; have HBK := hide hBk; have HOK := hide hOk
        have h45 := HB5.out.size
        have h5r := hBk.size
        clear hur hBk hOk hu hel e'2 e'3 hcu e0 e1 e2 e3 e4 e5 e6 e7 e8
        have hBal : Bl wr (wr.alloc (.cells #[] 30)) := (Below.refl _ _).alloc (Nat.le_refl _) _
        have hsl : (wr.alloc (.cells #[] 30)).heap.size = wr.heap.size + 1 := by rw [Dr.alloc_heap, Array.size_push]
        have hX : (kS (kT (kS kU) (fun b => w4.heap.size ≤ b ∧ (b < w5.heap.size ∨ wr.heap.size ≤ b)))).R (wr.alloc (.cells #[] 30)) (Ne (Value.slice (some ⟨wr.heap.size, 0, none⟩) 0 0).ownBlock) [.slice Au N cu] (numSh p N T corrupt spoil L k) :=
          kS_toT ((kS (kS kU)).kp HUR.out (hBal.kp _)) fun b _ hb => ⟨fun e => by
            have e : some b = some wr.heap.size := e
            injection e with e; omega, hb.1, .inl hb.2⟩
        have hl24 : (([] : List (List Nat)).length + (numSh p N T corrupt spoil L k).length) * 24 ≤ 140737488355328 := by rw [numSh_len]; simp; omega
        have HX := hide hX; have HL24 := hide hl24
        have f1b := cell_bl hBal f1
        clear hX hl24 hBal
        go_wp2_with (at_builtin; refine Ow.append_row (kT (kS kU) (fun b => w4.heap.size ≤ b ∧ (b < w5.heap.size ∨ wr.heap.size ≤ b))) (w0 := wr) wr.heap.size rfl (.tmp 51) (.tmp 55) 44 30 (.slice none 0 0) 24 rfl Tryd.underlying44 crowinfo rfl (.slice (some ⟨wr.heap.size, 0, none⟩) 0 0) (.slice Au N cu) [] (numSh p N T corrupt spoil L k) rfl rfl (Ow.lit0 _ wr wr.heap.size _ (Nat.le_refl _)) ((Below.refl _ _).alloc (Nat.le_refl _) _) (by rw [hsl]; omega) HX.out HL24.out (by decide) ?_)
        intro vx wx hOx hBx _ _
        obtain ⟨gx, cx, hvx, hgx1, hgx2⟩ := hOx.form (by rw [numSh_len]; omega)
        rw [numSh_len] at hvx
        subst hvx
        have z0 := cell_bl hBx g0
        have z1 := cell_bl hBx g1
        have z2 := cell_bl hBx g2
        obtain ⟨T1, hT1⟩ : ∃ T1, T1 = T + 1 := ⟨_, rfl⟩
        have hT1i : (T : Int) + 1 = (T1 : Int) := by omega
        have hT15 : T1 ≤ 5 := by omega
        have HT1 := hide hT1; have HOX := hide hOx; have HBX2 := hide hBx
        clear hT1 hOx hBx hsl
        go_wp2_with (at_make; refine Ow.make kU (w0 := wx) wx.heap.size rfl _ _ 30 22 (.int .u64 0) 8 rfl Tryd.underlying30 cu64info rfl rfl T1 rfl rfl (by omega) (by decide) 0 (fun _ _ => ⟨rfl, by omega⟩) (Below.refl _ _) (Nat.le_refl _) ?_)
        intro w7 hO7 hB7
        rw [show List.replicate T1 0 = igRow p T other 0 by rw [HT1.out]; exact igRow_0 p T other] at hO7
        have HO7 := hide hO7; have HB7 := hide hB7
        clear hO7 hB7 z0 z1 z2
        obtain ⟨gr, hgr⟩ : ∃ gr, gr = wx.heap.size := ⟨_, rfl⟩
        rw [← hgr] at HO7 hgx2 ⊢
        have HGR := hide hgr; clear hgr
        have hocx : ∀ j, j < DO → ∃ ad, Ao = some ad ∧ wx.cell? (ad.add j) = some (.int .u64 (other.getD j 0 : Nat)) ∧ other.getD j 0 < 18446744073709551616 := fun j hj => by
          obtain ⟨ado, h1, _, h2, h3⟩ := HOC.out j hj
          exact ⟨ado, h1, cell_bl (Bl.then (Bl.then (Bl.then HBW4.out HBW4.out.size HB5.out) (Bl.then HBW4.out HBW4.out.size HB5.out).size HBK.out) (Bl.then (Bl.then HBW4.out HBW4.out.size HB5.out) (Bl.then HBW4.out HBW4.out.size HB5.out).size HBK.out).size HBX2.out) h2, h3⟩
        have HOCX := hide hocx; clear hocx
        go_upto_block 2 with fail
        go_cut [] (fun wz => Bl wx wz ∧ Ow kU wz gr 22 (.slice (some ⟨gr, 0, none⟩) T1 T1) (igRow p T other (T + 1)))
        case first => as_aux_lemma =>
          go_wp2_with fail
          go_loopw [16] (fun ix wz => ∃ i : Nat, i ≤ T1 ∧ ix = .int .i64 i ∧ Bl wx wz ∧ Ow kU wz gr 22 (.slice (some ⟨gr, 0, none⟩) T1 T1) (igRow p T other i)) (fun ix _ => T1 + 1 - (intOf ix).toNat)
          case atStart => exact ⟨0, by omega, rfl, HB7.out, HO7.out⟩
          case round =>
            obtain ⟨i, hi, rfl, hBz, hOz⟩ := hrel
            have hBrz := Bl.then HBX2.out HBX2.out.size hBz
            have z0 := cell_bl hBrz g0
            by_cases hiT : i < T1
            · have hiTi : (i : Int) < (T1 : Int) := by omega
              by_cases hiO : i < DO
              · as_aux_lemma =>
                have hiOi : (i : Int) < (DO : Int) := by omega
                have hi0 : (0 : Int) ≤ (i : Int) := by omega
                obtain ⟨ado, rfl, hco, hx64⟩ := HOCX.out i hiO
                obtain ⟨x, hx⟩ : ∃ x, x = other.getD i 0 := ⟨_, rfl⟩
                rw [← hx] at hco hx64
                obtain ⟨y, hy⟩ : ∃ y, y = x % p := ⟨_, rfl⟩
                have hyp : y < p := by rw [hy]; exact Nat.mod_lt _ (by omega)
                have hym : (x : Int).tmod (p : Int) = (y : Int) := by rw [hy]; rfl
                have hyw : IntKind.u64.wrap (y : Int) = (y : Int) := by rw [IntWalk.u64_in _ (by omega)]
                have hpz : ¬ (p : Int) = 0 := by omega
                have hpn : ¬ p = 0 := by omega
                have hsu := igRow_succ (p := p) (T := T) (other := other) (i := i) (by rw [← HT1.out]; exact hiT) (by rw [← HDO.out]; exact hiO)
                rw [← hx, ← hy] at hsu
                have z9 := cell_bl hBz hco
                have hat := hOz.atU i (by rw [igRow_len, ← HT1.out]; exact hiT)
                have cv7 := hat.1
                have cf7 := hat.2.1
                have HSU := hide hsu; have HBZ := hide hBz; have HOZ := hide hOz
                clear hat hsu hBz hOz hBrz hx hy hco
                go_wp2_with fail
                refine wp_region_last (n := 12) (fun w' => Bl wr w') (by kernel_rfl) (by kernel_rfl) (by kernel_rfl) rfl ((Dr.one (Dr.refl _)).below _) (fun hHeld => ?_)
                refine wpAnyH_take (i := 0) (oi := { dst := some 75, op := Go.Op.move (Go.Operand.tmp 15), type := 30, pos := _, after := _, guard := none }) (v := ?_) rfl (by kernel_rfl) (by kernel_rfl) (by kernel_rfl) (fun _ _ _ h => h) (Or.inl ⟨by rfl, ?_⟩) (by assumption) ?_
                rotate_left
                · (intro w hSw; have z0 := cell_bl hSw z0; have z1 := cell_bl hSw z9; go_simp; (try (with_reducible rfl)))
                try simp only [Act.put, List.setIfInBounds_toArray, List.set_cons_zero, List.set_cons_succ]
                refine wpAnyH_take (i := 1) (oi := { dst := some 76, op := Go.Op.move (Go.Operand.tmp 16), type := 3, pos := _, after := _, guard := none }) (v := ?_) rfl (by kernel_rfl) (by kernel_rfl) (by kernel_rfl) (fun _ _ _ h => h) (Or.inl ⟨by rfl, ?_⟩) (by assumption) ?_
                rotate_left
                · (intro w hSw; have z0 := cell_bl hSw z0; have z1 := cell_bl hSw z9; go_simp; (try (with_reducible rfl)))
                try simp only [Act.put, List.setIfInBounds_toArray, List.set_cons_zero, List.set_cons_succ]
                refine wpAnyH_take (i := 2) (oi := { dst := some 77, op := Go.Op.move (Go.Operand.tmp 1), type := 30, pos := _, after := _, guard := none }) (v := ?_) rfl (by kernel_rfl) (by kernel_rfl) (by kernel_rfl) (fun _ _ _ h => h) (Or.inl ⟨by rfl, ?_⟩) (by assumption) ?_
                rotate_left
                · (intro w hSw; have z0 := cell_bl hSw z0; have z1 := cell_bl hSw z9; go_simp; (try (with_reducible rfl)))
                try simp only [Act.put, List.setIfInBounds_toArray, List.set_cons_zero, List.set_cons_succ]
                refine wpAnyH_take (i := 3) (oi := { dst := some 78, op := Go.Op.move (Go.Operand.tmp 16), type := 3, pos := _, after := _, guard := none }) (v := ?_) rfl (by kernel_rfl) (by kernel_rfl) (by kernel_rfl) (fun _ _ _ h => h) (Or.inl ⟨by rfl, ?_⟩) (by assumption) ?_
                rotate_left
                · (intro w hSw; have z0 := cell_bl hSw z0; have z1 := cell_bl hSw z9; go_simp; (try (with_reducible rfl)))
                try simp only [Act.put, List.setIfInBounds_toArray, List.set_cons_zero, List.set_cons_succ]
                refine wpAnyH_take (i := 4) (oi := { dst := some 79, op := Go.Op.indexAddr 30 (Go.Operand.tmp 77) (Go.Operand.tmp 78), type := 0, pos := _, after := _, guard := none }) (v := ?_) rfl (by kernel_rfl) (by kernel_rfl) (by kernel_rfl) (fun _ _ _ h => h) (Or.inl ⟨by rfl, ?_⟩) (by assumption) ?_
                rotate_left
                · (intro w hSw; have z0 := cell_bl hSw z0; have z1 := cell_bl hSw z9; go_simp; (try (with_reducible rfl)))
                try simp only [Act.put, List.setIfInBounds_toArray, List.set_cons_zero, List.set_cons_succ]
                refine wpAnyH_take (i := 5) (oi := { dst := some 80, op := Go.Op.load 22 (Go.Operand.tmp 79), type := 22, pos := _, after := _, guard := none }) (v := ?_) rfl (by kernel_rfl) (by kernel_rfl) (by kernel_rfl) (fun _ _ _ h => h) (Or.inl ⟨by rfl, ?_⟩) (by assumption) ?_
                rotate_left
                · (intro w hSw; have z0 := cell_bl hSw z0; have z1 := cell_bl hSw z9; go_simp; (try (with_reducible rfl)))
                try simp only [Act.put, List.setIfInBounds_toArray, List.set_cons_zero, List.set_cons_succ]
                refine wpAnyH_take (i := 6) (oi := { dst := some 81, op := Go.Op.fieldAddr 32 (Go.Operand.tmp 2) 0, type := 0, pos := _, after := _, guard := none }) (v := ?_) rfl (by kernel_rfl) (by kernel_rfl) (by kernel_rfl) (fun _ _ _ h => h) (Or.inl ⟨by rfl, ?_⟩) (by assumption) ?_
                rotate_left
                · (intro w hSw; have z0 := cell_bl hSw z0; have z1 := cell_bl hSw z9; go_simp; (try (with_reducible rfl)))
                try simp only [Act.put, List.setIfInBounds_toArray, List.set_cons_zero, List.set_cons_succ]
                refine wpAnyH_take (i := 7) (oi := { dst := some 82, op := Go.Op.fieldAddr 29 (Go.Operand.tmp 81) 0, type := 0, pos := _, after := _, guard := none }) (v := ?_) rfl (by kernel_rfl) (by kernel_rfl) (by kernel_rfl) (fun _ _ _ h => h) (Or.inl ⟨by rfl, ?_⟩) (by assumption) ?_
                rotate_left
                · (intro w hSw; have z0 := cell_bl hSw z0; have z1 := cell_bl hSw z9; go_simp; (try (with_reducible rfl)))
                try simp only [Act.put, List.setIfInBounds_toArray, List.set_cons_zero, List.set_cons_succ]
                refine wpAnyH_take (i := 8) (oi := { dst := some 83, op := Go.Op.fieldAddr 24 (Go.Operand.tmp 82) 0, type := 0, pos := _, after := _, guard := none }) (v := ?_) rfl (by kernel_rfl) (by kernel_rfl) (by kernel_rfl) (fun _ _ _ h => h) (Or.inl ⟨by rfl, ?_⟩) (by assumption) ?_
                rotate_left
                · (intro w hSw; have z0 := cell_bl hSw z0; have z1 := cell_bl hSw z9; go_simp; (try (with_reducible rfl)))
                try simp only [Act.put, List.setIfInBounds_toArray, List.set_cons_zero, List.set_cons_succ]
                refine wpAnyH_take (i := 9) (oi := { dst := some 84, op := Go.Op.load 22 (Go.Operand.tmp 83), type := 22, pos := _, after := _, guard := none }) (v := ?_) rfl (by kernel_rfl) (by kernel_rfl) (by kernel_rfl) (fun _ _ _ h => h) (Or.inl ⟨by rfl, ?_⟩) (by assumption) ?_
                rotate_left
                · (intro w hSw; have z0 := cell_bl hSw z0; have z1 := cell_bl hSw z9; go_simp; (try (with_reducible rfl)))
                try simp only [Act.put, List.setIfInBounds_toArray, List.set_cons_zero, List.set_cons_succ]
                refine wpAnyH_take (i := 10) (oi := { dst := some 85, op := Go.Op.binOp Go.BinOp.rem 22 (Go.Operand.tmp 80) (Go.Operand.tmp 84) 22, type := 22, pos := _, after := _, guard := none }) (v := ?_) rfl (by kernel_rfl) (by kernel_rfl) (by kernel_rfl) (fun _ _ _ h => h) (Or.inl ⟨by rfl, ?_⟩) (by assumption) ?_
                rotate_left
                · (intro w hSw; have z0 := cell_bl hSw z0; have z1 := cell_bl hSw z9; go_simp; (try (with_reducible rfl)))
                try simp only [Act.put, List.setIfInBounds_toArray, List.set_cons_zero, List.set_cons_succ]
                refine wpAnyH_take (i := 11) (oi := { dst := some 86, op := Go.Op.indexAddr 30 (Go.Operand.tmp 75) (Go.Operand.tmp 76), type := 0, pos := _, after := _, guard := none }) (v := ?_) rfl (by kernel_rfl) (by kernel_rfl) (by kernel_rfl) (fun _ _ _ h => h) (Or.inl ⟨by rfl, ?_⟩) (by assumption) ?_
                rotate_left
                · (intro w hSw; have z0 := cell_bl hSw z0; have z1 := cell_bl hSw z9; go_simp; (try (with_reducible rfl)))
                try simp only [Act.put, List.setIfInBounds_toArray, List.set_cons_zero, List.set_cons_succ]
                refine wpAnyH_done (by kernel_rfl) ?_ _
                refine lastQ_normal ?_
                refine wpOp_step (i := 12) (o := { dst := none, op := Go.Op.store 22 (Go.Operand.tmp 86) (Go.Operand.tmp 85), type := 0, pos := _, after := _, guard := none }) rfl (fun K hK => ?_)
                go_simp
                refine hK _ _ ?_
                clear hK K
                go_wp2_with fail
                have hO2 := (HOZ.out.dr (Dr.one (Dr.refl _))).storedU i (by rw [igRow_len, ← HT1.out]; exact hiT) y (by omega)
                have hO3 := hO2.1
                rw [HSU.out] at hO3
                have hBn := (Bl.dr HBZ.out (Dr.one (Dr.refl _))).setCell (p := ⟨gr, i, none⟩) (by rw [HGR.out]; exact Nat.le_refl _) (.int .u64 (y : Int))
                have HO3 := hide hO3; have HBN := hide hBn
                clear hO2 hO3 hBn
                go_round
                case rel => exact ⟨i + 1, by omega, by go_num, HBN.out, HO3.out⟩
                case measure => simp [intOf]; omega
              · as_aux_lemma =>
                have hiOi : ¬ (i : Int) < (DO : Int) := by omega
                have hen := igRow_end (p := p) (T := T) (other := other) (i := i) (fun h => hiO (by rw [HDO.out]; exact h.2))
                have HEN := hide hen; have HBZ := hide hBz; have HOZ := hide hOz
                clear hen hBz hOz hBrz
                go_wp2_with fail
                go_meet
                exact ⟨HBZ.out, by rw [← HEN.out]; exact HOZ.out⟩
            · as_aux_lemma =>
              have hiTi : ¬ (i : Int) < (T1 : Int) := by omega
              have hen := igRow_end (p := p) (T := T) (other := other) (i := i) (fun h => hiT (by rw [HT1.out]; exact h.1))
              have HEN := hide hen; have HBZ := hide hBz; have HOZ := hide hOz
              clear hen hBz hOz hBrz
              go_wp2_with fail
              go_meet
              exact ⟨HBZ.out, by rw [← HEN.out]; exact HOZ.out⟩
        case rest => as_aux_lemma =>
          obtain ⟨hBz, hOz⟩ := hcut
          have hBrz := Bl.then HBX2.out HBX2.out.size hBz
          clear f1 f1b
          have z0 := cell_bl hBrz g0
          have z1 := cell_bl hBrz g1
          have z2 := cell_bl hBrz g2
          have z3 := cell_bl hBrz g3
          have z4 := cell_bl hBrz g4
          have z5 := cell_bl hBrz g5
          have z6 := cell_bl hBrz g6
          have z7 := cell_bl hBrz g7
          have z8 := cell_bl hBrz g8
          have hOxz := HOX.out.bl hBz
          have HBRZ := hide hBrz; have HOZ := hide hOz; have HOXZ := hide hOxz
          clear hBrz hOz hOxz hBz g0 g1 g2 g3 g4 g5 g6 g7 g8
          go_wp2_with fail
          refine (HWHO.out _).mono ?_
          rintro e w9 ⟨rfl, hB9⟩
          have hOx9 := HOXZ.out.bl hB9
          have hOz9 := HOZ.out.bl hB9
          obtain ⟨ux, cvx, cfx, _⟩ := hOx9.at_ rfl q1 _ (List.getElem?_eq_getElem (by rw [numSh_len]; exact hq1N))
          have hst := hOx9.stored rfl q1 (by rw [numSh_len]; exact hq1N) (.slice (some ⟨gr, 0, none⟩) T1 T1) (igRow p T other (T + 1)) (show (kS kU).R w9 (fun b => Ne (some gx) b ∧ (w4.heap.size ≤ b ∧ (b < w5.heap.size ∨ wr.heap.size ≤ b))) _ _ from hOz9.readsU _ fun b hb => by
            have hb : some gr = some b := hb
            injection hb with hb
            have hge : gr ≤ b := Nat.le_of_eq hb
            refine ⟨fun e => ?_, by omega, .inr (by omega)⟩
            injection e with e; omega)
          have hB9r := (Bl.then HBRZ.out HBRZ.out.size hB9).setCell (p := ⟨gx, q1, none⟩) hgx1 (.slice (some ⟨gr, 0, none⟩) T1 T1)
          have HB9R := hide hB9r; have HST := hide hst.1
          clear hOx9 hOz9 hst hB9r hB9
          go_upto_region 19 with fail
          obtain ⟨W9, hW9⟩ : ∃ W9, W9 = w9.setCell ⟨gx, q1, none⟩ (.slice (some ⟨gr, 0, none⟩) T1 T1) := ⟨_, rfl⟩
          rw [← hW9] at HB9R HST ⊢
          clear hW9 cvx cfx
          have hB59 := Bl.then HBK.out HBK.out.size HB9R.out
          have hX : (kT (kS (kS kU)) (fun b => w4.heap.size ≤ b)).R W9 (Ne (Value.slice A12 k c12).ownBlock) [.slice (some ⟨gx, 0, none⟩) N cx] (igSh p N T corrupt spoil L other q1 k) := by
            show (kS (kS kU)).R W9 (fun b => Ne (Value.slice A12 k c12).ownBlock b ∧ w4.heap.size ≤ b) _ _
            have hne : ∀ b, w4.heap.size ≤ b ∧ (b < w5.heap.size ∨ wr.heap.size ≤ b) → Ne (Value.slice A12 k c12).ownBlock b ∧ w4.heap.size ≤ b := fun b hb => ⟨fun e => by
              have h1 := HOK.out.base b e.symm
              rcases hb.2 with h | h <;> omega, hb.1⟩
            exact kS_unT (HST.out.readsIn _ (fun b hb => hne b ⟨by have := (HST.out.base b hb).1; omega, .inr (HST.out.base b hb).1⟩) fun u x _ hR => (kS kU).sub (S := fun b => Ne (Value.slice (some ⟨gx, 0, none⟩) N cx).ownBlock b ∧ (w4.heap.size ≤ b ∧ (b < w5.heap.size ∨ wr.heap.size ≤ b))) (S' := fun b => (Ne (Value.slice A12 k c12).ownBlock b ∧ w4.heap.size ≤ b) ∧ (w4.heap.size ≤ b ∧ (b < w5.heap.size ∨ wr.heap.size ≤ b))) hR fun b _ hb => ⟨hne b hb.2, hb.2⟩)
          have hl24 : (((List.range k).map (igSh p N T corrupt spoil L other q1)).length + 1) * 24 ≤ 140737488355328 := by rw [List.length_map, List.length_range]; omega
          have hOk9 := HOK.out.bl HB9R.out
          have HX := hide hX; have HB59 := hide hB59; have HL24 := hide hl24; have HOK9 := hide hOk9
          clear hX hB59 hl24 hOk9 z0 z1 z2 z3 z4 z5 z6 z7 z8
          go_wp2_with (at_builtin; refine Ow.append (kT (kS (kS kU)) (fun b => w4.heap.size ≤ b)) (w0 := w5) w5.heap.size rfl (.tmp 93) (.tmp 95) 40 44 (.slice none 0 0) 24 rfl Tryd.underlying40 shainfo rfl (.slice A12 k c12) ((List.range k).map (igSh p N T corrupt spoil L other q1)) [.slice (some ⟨gx, 0, none⟩) N cx] (igSh p N T corrupt spoil L other q1 k) rfl rfl HOK9.out HB59.out HB59.out.size HX.out HL24.out (by decide) ?_)
          intro v10 w10 hO10 hB10 _ _
          have hO11 : Ow (kT (kS (kS kU)) (fun b => w4.heap.size ≤ b)) w10 w5.heap.size 44 v10 ((List.range (k + 1)).map (igSh p N T corrupt spoil L other q1)) := by
            rw [List.range_succ, List.map_append]; exact hO10
          have HO11 := hide hO11; have HB10 := hide hB10
          clear hO10 hO11 hB10
          go_wp2_with fail
          go_round
          case rel => exact ⟨k + 1, by omega, by go_num, HB10.out, HO11.out⟩
          case measure => simp [intOf]; omega
      · as_aux_lemma =>
        obtain rfl : k = DL := by omega
        have h34 := HB4.out.size
        have h45 := HB5.out.size
        have h5r := hBk.size
        have h2w : w.heap.size ≤ w2.heap.size := HB2.out.size
        have hB4r := Bl.then HB5.out HB5.out.size hBk
        have hB3r := Bl.then HB4.out HB4.out.size hB4r
        have hB2r := Bl.then HB3.out HB3.out.size hB3r
        have h23 := HB3.out.size
        obtain ⟨A12, c12, hv12, _, _⟩ := hOk.slice
        rw [List.length_map, List.length_range] at hv12
        subst hv12
        have hrm : (kS (kS (kS kU))).R wr (fun b => w4.heap.size ≤ b) [.slice A12 k c12] (igL p N T corrupt spoil L other q1) := by
          unfold igL; rw [← HDL.out]
          exact kS_unT (hOk.readsIn _ (fun b hb => by have := (hOk.base b hb).1; omega) fun u x _ hR => (kS (kS kU)).sub (S := fun b => Ne (Value.slice A12 k c12).ownBlock b ∧ w4.heap.size ≤ b) (S' := fun b => w4.heap.size ≤ b ∧ w4.heap.size ≤ b) hR fun b _ hb => ⟨hb.2, hb.2⟩)
        have hrl : (kS (kS (kS kU))).R wr (fun b => w4.heap.size ≤ b) [.slice A5 k c5] (numL p N T corrupt spoil L) := (kS (kS (kS kU))).kp HR5.out (hBk.kp _)
        have hrows := ig_rows (p := p) (N := N) (T := T) (corrupt := corrupt) (spoil := spoil) (L := L) (other := other) hq1
        rw [← HDL.out, ← HQ1.out] at hrows
        obtain ⟨R, hR⟩ : ∃ R, R = recOut p q k (rw2 (numL p N T corrupt spoil L)) := ⟨_, rfl⟩
        rw [← hR] at hrows
        obtain ⟨V, hV⟩ : ∃ V : Nat → List Ev, V = (if k = 0 then fun _ => [] else sendV 0 N N (applyM p corrupt ((0 : Nat) : Int) devs R) (fun _ => [])) := ⟨_, rfl⟩
        have hVl : (V (q - 1)).length ≤ 1000000 := by
          rw [hV]; split
          · simp
          · have := sendV_len 0 N (applyM p corrupt ((0 : Nat) : Int) devs R) (fun _ => []) (q - 1) N
            have h2 : N * N ≤ 13 * 13 := Nat.mul_le_mul HFF.out.n13 HFF.out.n13
            simp only [List.length_nil, Nat.zero_add] at this; omega
        have higl := igL_len p N T corrupt spoil L other q1
        rw [← HDL.out] at higl
        have higok := igL_ok (p := p) (N := N) (T := T) (by omega) corrupt spoil L other q1
        have HRM := hide hrm; have HRL := hide hrl; have HROWS := hide hrows; have HR := hide hR; have HV := hide hV; have HVL := hide hVl; have HIG := hide higl; have HIGOK := hide higok
        have HB4R := hide hB4r; have HB3R := hide hB3r; have HB2R := hide hB2r
        clear hrm hrl hrows hR hV hVl higl higok hB4r hB3r hB2r hBk hOk e0 e1 e2 e3 e4 e5 e6 e7 e8
        go_wp2_with fail
        refine wp_region_held_drew (S := fun w' => Bl w2 w') (by kernel_rfl) (Bl.dr HB2R.out (Dr.one (Dr.refl _))) (fun hHeld => ?_)
        refine wpAnyH_take (i := 0) (oi := { dst := some 97, op := Go.Op.move (Go.Operand.tmp 5), type := 36, pos := _, after := _, guard := none }) (v := ?_) rfl (by kernel_rfl) (by kernel_rfl) (by kernel_rfl) (fun _ _ _ h => h) ?_ (by assumption) ?_
        rotate_left
        · first | (refine Or.inl ⟨by rfl, ?_⟩; intro w hSw; have z0 := cell_bl hSw b0; have z1 := cell_bl hSw b1; have z2 := cell_bl hSw b2; have z3 := cell_bl hSw b3; have z4 := cell_bl hSw b4; have z5 := cell_bl hSw b5; have z6 := cell_bl hSw b6; have z7 := cell_bl hSw b7; have z8 := cell_bl hSw b8; go_simp; (try (with_reducible rfl)); done) | (refine Or.inr ⟨by rfl, ?_⟩; with_reducible rfl)
        try simp only [Act.put, List.setIfInBounds_toArray, List.set_cons_zero, List.set_cons_succ]
        refine wpAnyH_take (i := 1) (oi := { dst := some 98, op := Go.Op.load 32 (Go.Operand.tmp 2), type := 32, pos := _, after := _, guard := none }) (v := ?_) rfl (by kernel_rfl) (by kernel_rfl) (by kernel_rfl) (fun _ _ _ h => h) ?_ (by assumption) ?_
        rotate_left
        · first | (refine Or.inl ⟨by rfl, ?_⟩; intro w hSw; have z0 := cell_bl hSw b0; have z1 := cell_bl hSw b1; have z2 := cell_bl hSw b2; have z3 := cell_bl hSw b3; have z4 := cell_bl hSw b4; have z5 := cell_bl hSw b5; have z6 := cell_bl hSw b6; have z7 := cell_bl hSw b7; have z8 := cell_bl hSw b8; go_simp; (try (with_reducible rfl)); done) | (refine Or.inr ⟨by rfl, ?_⟩; with_reducible rfl)
        try simp only [Act.put, List.setIfInBounds_toArray, List.set_cons_zero, List.set_cons_succ]
        refine wpAnyH_take (i := 3) (oi := { dst := some 100, op := Go.Op.move (Go.Operand.tmp 11), type := 40, pos := _, after := _, guard := none }) (v := ?_) rfl (by kernel_rfl) (by kernel_rfl) (by kernel_rfl) (fun _ _ _ h => h) ?_ (by assumption) ?_
        rotate_left
        · first | (refine Or.inl ⟨by rfl, ?_⟩; intro w hSw; have z0 := cell_bl hSw b0; have z1 := cell_bl hSw b1; have z2 := cell_bl hSw b2; have z3 := cell_bl hSw b3; have z4 := cell_bl hSw b4; have z5 := cell_bl hSw b5; have z6 := cell_bl hSw b6; have z7 := cell_bl hSw b7; have z8 := cell_bl hSw b8; go_simp; (try (with_reducible rfl)); done) | (refine Or.inr ⟨by rfl, ?_⟩; with_reducible rfl)
        try simp only [Act.put, List.setIfInBounds_toArray, List.set_cons_zero, List.set_cons_succ]
        refine wpAnyH_take (i := 5) (oi := { dst := some 102, op := Go.Op.move (Go.Operand.tmp 8), type := 36, pos := _, after := _, guard := none }) (v := ?_) rfl (by kernel_rfl) (by kernel_rfl) (by kernel_rfl) (fun _ _ _ h => h) ?_ (by assumption) ?_
        rotate_left
        · first | (refine Or.inl ⟨by rfl, ?_⟩; intro w hSw; have z0 := cell_bl hSw b0; have z1 := cell_bl hSw b1; have z2 := cell_bl hSw b2; have z3 := cell_bl hSw b3; have z4 := cell_bl hSw b4; have z5 := cell_bl hSw b5; have z6 := cell_bl hSw b6; have z7 := cell_bl hSw b7; have z8 := cell_bl hSw b8; go_simp; (try (with_reducible rfl)); done) | (refine Or.inr ⟨by rfl, ?_⟩; with_reducible rfl)
        try simp only [Act.put, List.setIfInBounds_toArray, List.set_cons_zero, List.set_cons_succ]
        refine wpAnyH_take (i := 6) (oi := { dst := some 103, op := Go.Op.load 32 (Go.Operand.tmp 2), type := 32, pos := _, after := _, guard := none }) (v := ?_) rfl (by kernel_rfl) (by kernel_rfl) (by kernel_rfl) (fun _ _ _ h => h) ?_ (by assumption) ?_
        rotate_left
        · first | (refine Or.inl ⟨by rfl, ?_⟩; intro w hSw; have z0 := cell_bl hSw b0; have z1 := cell_bl hSw b1; have z2 := cell_bl hSw b2; have z3 := cell_bl hSw b3; have z4 := cell_bl hSw b4; have z5 := cell_bl hSw b5; have z6 := cell_bl hSw b6; have z7 := cell_bl hSw b7; have z8 := cell_bl hSw b8; go_simp; (try (with_reducible rfl)); done) | (refine Or.inr ⟨by rfl, ?_⟩; with_reducible rfl)
        try simp only [Act.put, List.setIfInBounds_toArray, List.set_cons_zero, List.set_cons_succ]
        refine wpAnyH_take (i := 8) (oi := { dst := some 105, op := Go.Op.move (Go.Operand.tmp 12), type := 40, pos := _, after := _, guard := none }) (v := ?_) rfl (by kernel_rfl) (by kernel_rfl) (by kernel_rfl) (fun _ _ _ h => h) ?_ (by assumption) ?_
        rotate_left
        · first | (refine Or.inl ⟨by rfl, ?_⟩; intro w hSw; have z0 := cell_bl hSw b0; have z1 := cell_bl hSw b1; have z2 := cell_bl hSw b2; have z3 := cell_bl hSw b3; have z4 := cell_bl hSw b4; have z5 := cell_bl hSw b5; have z6 := cell_bl hSw b6; have z7 := cell_bl hSw b7; have z8 := cell_bl hSw b8; go_simp; (try (with_reducible rfl)); done) | (refine Or.inr ⟨by rfl, ?_⟩; with_reducible rfl)
        try simp only [Act.put, List.setIfInBounds_toArray, List.set_cons_zero, List.set_cons_succ]
        refine wpAnyH_ready (rs := [2]) (by kernel_rfl) (by simp) ?_
        refine AllReadyH.cons (o := { dst := some 99, op := Go.Op.call { callee := Go.Callee.value (Go.Operand.func 19), args := #[Go.Operand.tmp 98], argTypes := #[32] }, type := 3, pos := _, after := _, guard := none }) rfl (fun K hK => ?_) AllReadyH.nil
        go_simp
        refine (HWHO.out _).mono ?_
        rintro e w6 ⟨rfl, hB6⟩
        have hBr6 : Bl wr w6 := (Bl.dr (Below.refl _ _) (Dr.one (Dr.refl _))).trans hB6
        have hB26 := Bl.then HB2R.out HB2R.out.size hBr6
        have hB36 := Bl.then HB3R.out HB3R.out.size hBr6
        have hB46 := Bl.then HB4R.out HB4R.out.size hBr6
        have h46 := hB46.size
        have hrl6 := (kS (kS (kS kU))).kp HRL.out (hBr6.kp _)
        have hrm6 := (kS (kS (kS kU))).kp HRM.out (hBr6.kp _)
        have hrec := recover_any w6 w.heap.size (fun b => b = nb ∨ b = vb) nb ⟨p, N, T, corrupt, devs⟩ _ _ _ 0 q k (fun _ => []) _ _ (HNR.out.bl hB36) (by omega) (fun b hb => by
          rcases hb with rfl | rfl <;> omega) HFF.out.hp HFF.out.n4 HFF.out.n13 HFF.out.np HFF.out.t1 HFF.out.t3 HFF.out.dv hrl6 (fun b hb hF => by
          rcases hF with rfl | rfl <;> omega) HNL.out (by omega) HNOK.out hq1 hqN (by omega) (fun j => by simp)
        simp only []
        refine hK.out _ _ ?_ (fun hHeld => ?_)
        · exact hB26
        clear hK K
        try simp only [Act.put, List.setIfInBounds_toArray, List.set_cons_zero, List.set_cons_succ]
        refine wpAnyH_ready (rs := [4]) (by kernel_rfl) (by simp) ?_
        refine AllReadyH.cons (o := { dst := some 101, op := Go.Op.call { callee := Go.Callee.value (Go.Operand.func 18), args := #[Go.Operand.tmp 97, Go.Operand.tmp 99, Go.Operand.tmp 100], argTypes := #[36, 3, 40] }, type := 27, pos := _, after := _, guard := none }) rfl (fun K hK => ?_) AllReadyH.nil
        go_simp
        refine hrec.mono ?_
        rintro e w7 ⟨hF7, F1, v7, rfl, hF1, hN7, hr7⟩
        have h67 := hF7.size
        have hB27 : Bl w2 w7 := hB26.trans (hF7.below hB26.size fun b hb hF => by rcases hF with rfl | rfl <;> omega)
        have hrm7 := (kS (kS (kS kU))).kp hrm6 (fun b hb hs => hF7.block b hb fun hF => by
          rcases hF with rfl | rfl <;> omega)
        have hN27 := (HNR2.out.bl hB46).frame (w' := w7) fun b hb hs => hF7.block b hb fun hF => by
          rcases hF with rfl | rfl <;> rcases hs with (rfl | rfl) | hs <;> omega
        simp only []
        refine hK.out _ _ ?_ (fun hHeld => ?_)
        · exact hB27
        clear hK K
        try simp only [Act.put, List.setIfInBounds_toArray, List.set_cons_zero, List.set_cons_succ]
        refine wpAnyH_ready (rs := [7]) (by kernel_rfl) (by simp) ?_
        refine AllReadyH.cons (o := { dst := some 104, op := Go.Op.call { callee := Go.Callee.value (Go.Operand.func 19), args := #[Go.Operand.tmp 103], argTypes := #[32] }, type := 3, pos := _, after := _, guard := none }) rfl (fun K hK => ?_) AllReadyH.nil
        go_simp
        refine (HWHO.out _).mono ?_
        rintro e w8 ⟨rfl, hB8⟩
        have h78 := hB8.size
        have hB28 := Bl.then hB27 hB27.size hB8
        have hrm8 := (kS (kS (kS kU))).kp hrm7 (hB8.kp _)
        have hrec2 := recover_any w8 w.heap.size (fun b => b = nb2 ∨ b = vb2) nb2 ⟨p, N, T, corrupt, devs⟩ _ _ _ 0 q k (fun _ => []) _ _ (hN27.bl hB8) (by omega) (fun b hb => by
          rcases hb with rfl | rfl <;> omega) HFF.out.hp HFF.out.n4 HFF.out.n13 HFF.out.np HFF.out.t1 HFF.out.t3 HFF.out.dv hrm8 (fun b hb hF => by
          rcases hF with rfl | rfl <;> omega) HIG.out (by omega) HIGOK.out hq1 hqN (by omega) (fun j => by simp)
        simp only []
        refine hK.out _ _ ?_ (fun hHeld => ?_)
        · exact hB28
        clear hK K
        try simp only [Act.put, List.setIfInBounds_toArray, List.set_cons_zero, List.set_cons_succ]
        refine wpAnyH_ready (rs := [9]) (by kernel_rfl) (by simp) ?_
        refine AllReadyH.cons (o := { dst := some 106, op := Go.Op.call { callee := Go.Callee.value (Go.Operand.func 18), args := #[Go.Operand.tmp 102, Go.Operand.tmp 104, Go.Operand.tmp 105], argTypes := #[36, 3, 40] }, type := 27, pos := _, after := _, guard := none }) rfl (fun K hK => ?_) AllReadyH.nil
        go_simp
        refine hrec2.mono ?_
        rintro e w9 ⟨hF9, F2, v9, rfl, hF2, hN9, hr9⟩
        have h89 := hF9.size
        have hB29 : Bl w2 w9 := hB28.trans (hF9.below hB28.size fun b hb hF => by rcases hF with rfl | rfl <;> omega)
        simp only []
        refine hK.out _ _ ?_ (fun hHeld => ?_)
        · exact hB29
        clear hK K
        try simp only [Act.put, List.setIfInBounds_toArray, List.set_cons_zero, List.set_cons_succ]
        refine wpAnyH_take (i := 10) (oi := { dst := some 17, op := Go.Op.assign (Go.Operand.tmp 101), type := 27, pos := _, after := _, guard := none }) (v := ?_) rfl (by kernel_rfl) (by kernel_rfl) (by kernel_rfl) (fun _ _ _ h => h) ?_ (by assumption) ?_
        rotate_left
        · first | (refine Or.inl ⟨by rfl, ?_⟩; intro w hSw; have z0 := cell_bl hSw b0; have z1 := cell_bl hSw b1; have z2 := cell_bl hSw b2; have z3 := cell_bl hSw b3; have z4 := cell_bl hSw b4; have z5 := cell_bl hSw b5; have z6 := cell_bl hSw b6; have z7 := cell_bl hSw b7; have z8 := cell_bl hSw b8; go_simp; (try (with_reducible rfl)); done) | (refine Or.inr ⟨by rfl, ?_⟩; with_reducible rfl)
        try simp only [Act.put, List.setIfInBounds_toArray, List.set_cons_zero, List.set_cons_succ]
        refine wpAnyH_take (i := 11) (oi := { dst := some 18, op := Go.Op.assign (Go.Operand.tmp 106), type := 27, pos := _, after := _, guard := none }) (v := ?_) rfl (by kernel_rfl) (by kernel_rfl) (by kernel_rfl) (fun _ _ _ h => h) ?_ (by assumption) ?_
        rotate_left
        · first | (refine Or.inl ⟨by rfl, ?_⟩; intro w hSw; have z0 := cell_bl hSw b0; have z1 := cell_bl hSw b1; have z2 := cell_bl hSw b2; have z3 := cell_bl hSw b3; have z4 := cell_bl hSw b4; have z5 := cell_bl hSw b5; have z6 := cell_bl hSw b6; have z7 := cell_bl hSw b7; have z8 := cell_bl hSw b8; go_simp; (try (with_reducible rfl)); done) | (refine Or.inr ⟨by rfl, ?_⟩; with_reducible rfl)
        try simp only [Act.put, List.setIfInBounds_toArray, List.set_cons_zero, List.set_cons_succ]
        have hN79 := (hN7.bl hB8).frame (w' := w9) fun b hb hs => hF9.block b hb fun hF => by
          rcases hs with hs | hs
          · rcases (hF1 b hs).2 with (h | h) | h <;> rcases hF with rfl | rfl <;> omega
          · rcases hF with rfl | rfl <;> omega
        have hr79 := (kS (kS kU)).kp ((kS (kS kU)).kp ((kS (kS kU)).sub hr7 (S' := fun b => w6.heap.size ≤ b) fun b _ hb => hb.2) (hB8.kp _)) fun b hb hs => hF9.block b hb fun hF => by
          rcases hF with rfl | rfl <;> omega
        dsimp only at hN79 hr79 hN9 hr9
        rw [← HR.out] at hN79 hr79
        rw [HROWS.out] at hN9 hr9
        rw [← HV.out] at hN79 hN9
        obtain ⟨RES, hRES⟩ : ∃ RES, RES = (List.range k).map (recRow p N T q k (fun i => applyM p corrupt ((0 : Nat) : Int) devs R i (q - 1))) := ⟨_, rfl⟩
        rw [← hRES] at hr79 hr9
        have hli := fun W (h : Bl w9 W) => (show Calls Tryd.prog 25 #[v7, v9] W fun e w' => e = .returned (.bool true) ∧ Dr W w' by
          have h1 := lists_any _ _ _ _ _ _ W ((kS (kS kU)).kp hr79 (h.kp _)) ((kS (kS kU)).kp hr9 (h.kp _))
          rwa [decide_eq_true rfl] at h1)
        have hvw := fun W (h : Bl w9 W) => view_any W _ _ _ _ _ _ _ _ q (hN79.bl h) hq1 hqN HVL.out
        have hvw2 := fun W (h : Bl w9 W) => view_any W _ _ _ _ _ _ _ _ q (hN9.bl h) hq1 hqN HVL.out
        have HLI := hide hli; have HVW := hide hvw; have HVW2 := hide hvw2
        have HB29 := hide (Bl.then HB2.out HB2.out.size hB29)
        have z0 := cell_bl hB29 b0
        have z1 := cell_bl hB29 b1
        have z2 := cell_bl hB29 b2
        have z3 := cell_bl hB29 b3
        have z4 := cell_bl hB29 b4
        have z5 := cell_bl hB29 b5
        have z6 := cell_bl hB29 b6
        have z7 := cell_bl hB29 b7
        have z8 := cell_bl hB29 b8
        clear hRES hN79 hr79 hN9 hr9 hN7 hr7 hB28 hB27 hF7 hF9 hrm7 hrm8 hrec hrec2 hN27 hrl6 hrm6 hB26 hB36 hB46 hBr6 hB6 hB8 hB29 hli hvw hvw2 hF1 hF2
        clear b0 b1 b2 b3 b4 b5 b6 b7 b8
        refine wpAnyH_done (by kernel_rfl) ?_ _
        go_wp2_with fail
        refine wp_region_held_drew (S := fun w' => Bl w9 w') (by kernel_rfl) ((Dr.one (Dr.refl _)).below _) (fun hHeld => ?_)
        refine wpAnyH_ready (rs := [0]) (by kernel_rfl) (by simp) ?_
        refine AllReadyH.cons (o := { dst := some 107, op := Go.Op.call { callee := Go.Callee.value (Go.Operand.func 15), args := #[], argTypes := #[] }, type := 4, pos := _, after := _, guard := none }) rfl (fun K hK => ?_) AllReadyH.nil
        go_simp
        refine (HAW.out _ (Bl.dr HB29.out (Dr.one (Dr.refl _)))).mono ?_
        rintro e w10 ⟨rfl, hB10⟩
        have hB10 : Bl w9 w10 := (Bl.dr (Below.refl _ _) (Dr.one (Dr.refl _))).trans hB10
        simp only []
        refine hK.out _ _ ?_ (fun hHeld => ?_)
        · exact hB10
        clear hK K
        try simp only [Act.put, List.setIfInBounds_toArray, List.set_cons_zero, List.set_cons_succ]
        refine wpAnyH_take (i := 1) (oi := { dst := some 108, op := Go.Op.move (Go.Operand.tmp 107), type := 4, pos := _, after := _, guard := none }) (v := ?_) rfl (by kernel_rfl) (by kernel_rfl) (by kernel_rfl) (fun _ _ _ h => h) ?_ (by assumption) ?_
        rotate_left
        · first | (refine Or.inl ⟨by rfl, ?_⟩; intro w hSw; have z0 := cell_bl hSw z0; have z1 := cell_bl hSw z1; have z2 := cell_bl hSw z2; have z3 := cell_bl hSw z3; have z4 := cell_bl hSw z4; have z5 := cell_bl hSw z5; have z6 := cell_bl hSw z6; have z7 := cell_bl hSw z7; have z8 := cell_bl hSw z8; go_simp; (try (with_reducible rfl)); done) | (refine Or.inr ⟨by rfl, ?_⟩; with_reducible rfl)
        try simp only [Act.put, List.setIfInBounds_toArray, List.set_cons_zero, List.set_cons_succ]
        refine wpAnyH_take (i := 2) (oi := { dst := some 109, op := Go.Op.move (Go.Operand.tmp 17), type := 27, pos := _, after := _, guard := some (1, true) }) (v := ?_) rfl (by kernel_rfl) (by kernel_rfl) (by kernel_rfl) (fun _ _ _ h => h) ?_ (by assumption) ?_
        rotate_left
        · first | (refine Or.inl ⟨by rfl, ?_⟩; intro w hSw; have z0 := cell_bl hSw z0; have z1 := cell_bl hSw z1; have z2 := cell_bl hSw z2; have z3 := cell_bl hSw z3; have z4 := cell_bl hSw z4; have z5 := cell_bl hSw z5; have z6 := cell_bl hSw z6; have z7 := cell_bl hSw z7; have z8 := cell_bl hSw z8; go_simp; (try (with_reducible rfl)); done) | (refine Or.inr ⟨by rfl, ?_⟩; with_reducible rfl)
        try simp only [Act.put, List.setIfInBounds_toArray, List.set_cons_zero, List.set_cons_succ]
        refine wpAnyH_take (i := 3) (oi := { dst := some 110, op := Go.Op.move (Go.Operand.tmp 18), type := 27, pos := _, after := _, guard := some (1, true) }) (v := ?_) rfl (by kernel_rfl) (by kernel_rfl) (by kernel_rfl) (fun _ _ _ h => h) ?_ (by assumption) ?_
        rotate_left
        · first | (refine Or.inl ⟨by rfl, ?_⟩; intro w hSw; have z0 := cell_bl hSw z0; have z1 := cell_bl hSw z1; have z2 := cell_bl hSw z2; have z3 := cell_bl hSw z3; have z4 := cell_bl hSw z4; have z5 := cell_bl hSw z5; have z6 := cell_bl hSw z6; have z7 := cell_bl hSw z7; have z8 := cell_bl hSw z8; go_simp; (try (with_reducible rfl)); done) | (refine Or.inr ⟨by rfl, ?_⟩; with_reducible rfl)
        try simp only [Act.put, List.setIfInBounds_toArray, List.set_cons_zero, List.set_cons_succ]
        refine wpAnyH_ready (rs := [4]) (by kernel_rfl) (by simp) ?_
        refine AllReadyH.cons (o := { dst := some 111, op := Go.Op.call { callee := Go.Callee.value (Go.Operand.func 25), args := #[Go.Operand.tmp 109, Go.Operand.tmp 110], argTypes := #[27, 27] }, type := 4, pos := _, after := _, guard := some (1, true) }) rfl (fun K hK => ?_) AllReadyH.nil
        go_simp
        refine (HLI.out _ hB10).mono ?_
        rintro e w11 ⟨rfl, hD11⟩
        have hB11 := Bl.dr hB10 hD11
        simp only []
        refine hK.out _ _ ?_ (fun hHeld => ?_)
        · exact hB11
        clear hK K
        try simp only [Act.put, List.setIfInBounds_toArray, List.set_cons_zero, List.set_cons_succ]
        refine wpAnyH_take (i := 5) (oi := { dst := some 112, op := Go.Op.pick (Go.Operand.tmp 108) (Go.Operand.tmp 111) (Go.Operand.const (Go.Value.bool false)), type := 4, pos := _, after := _, guard := none }) (v := ?_) rfl (by kernel_rfl) (by kernel_rfl) (by kernel_rfl) (fun _ _ _ h => h) ?_ (by assumption) ?_
        rotate_left
        · first | (refine Or.inl ⟨by rfl, ?_⟩; intro w hSw; have z0 := cell_bl hSw z0; have z1 := cell_bl hSw z1; have z2 := cell_bl hSw z2; have z3 := cell_bl hSw z3; have z4 := cell_bl hSw z4; have z5 := cell_bl hSw z5; have z6 := cell_bl hSw z6; have z7 := cell_bl hSw z7; have z8 := cell_bl hSw z8; go_simp; (try (with_reducible rfl)); done) | (refine Or.inr ⟨by rfl, ?_⟩; with_reducible rfl)
        try simp only [Act.put, List.setIfInBounds_toArray, List.set_cons_zero, List.set_cons_succ]
        refine wpAnyH_take (i := 6) (oi := { dst := some 113, op := Go.Op.move (Go.Operand.tmp 112), type := 4, pos := _, after := _, guard := none }) (v := ?_) rfl (by kernel_rfl) (by kernel_rfl) (by kernel_rfl) (fun _ _ _ h => h) ?_ (by assumption) ?_
        rotate_left
        · first | (refine Or.inl ⟨by rfl, ?_⟩; intro w hSw; have z0 := cell_bl hSw z0; have z1 := cell_bl hSw z1; have z2 := cell_bl hSw z2; have z3 := cell_bl hSw z3; have z4 := cell_bl hSw z4; have z5 := cell_bl hSw z5; have z6 := cell_bl hSw z6; have z7 := cell_bl hSw z7; have z8 := cell_bl hSw z8; go_simp; (try (with_reducible rfl)); done) | (refine Or.inr ⟨by rfl, ?_⟩; with_reducible rfl)
        try simp only [Act.put, List.setIfInBounds_toArray, List.set_cons_zero, List.set_cons_succ]
        refine wpAnyH_take (i := 7) (oi := { dst := some 114, op := Go.Op.move (Go.Operand.tmp 5), type := 36, pos := _, after := _, guard := some (6, true) }) (v := ?_) rfl (by kernel_rfl) (by kernel_rfl) (by kernel_rfl) (fun _ _ _ h => h) ?_ (by assumption) ?_
        rotate_left
        · first | (refine Or.inl ⟨by rfl, ?_⟩; intro w hSw; have z0 := cell_bl hSw z0; have z1 := cell_bl hSw z1; have z2 := cell_bl hSw z2; have z3 := cell_bl hSw z3; have z4 := cell_bl hSw z4; have z5 := cell_bl hSw z5; have z6 := cell_bl hSw z6; have z7 := cell_bl hSw z7; have z8 := cell_bl hSw z8; go_simp; (try (with_reducible rfl)); done) | (refine Or.inr ⟨by rfl, ?_⟩; with_reducible rfl)
        try simp only [Act.put, List.setIfInBounds_toArray, List.set_cons_zero, List.set_cons_succ]
        refine wpAnyH_take (i := 8) (oi := { dst := some 115, op := Go.Op.load 32 (Go.Operand.tmp 2), type := 32, pos := _, after := _, guard := some (6, true) }) (v := ?_) rfl (by kernel_rfl) (by kernel_rfl) (by kernel_rfl) (fun _ _ _ h => h) ?_ (by assumption) ?_
        rotate_left
        · first | (refine Or.inl ⟨by rfl, ?_⟩; intro w hSw; have z0 := cell_bl hSw z0; have z1 := cell_bl hSw z1; have z2 := cell_bl hSw z2; have z3 := cell_bl hSw z3; have z4 := cell_bl hSw z4; have z5 := cell_bl hSw z5; have z6 := cell_bl hSw z6; have z7 := cell_bl hSw z7; have z8 := cell_bl hSw z8; go_simp; (try (with_reducible rfl)); done) | (refine Or.inr ⟨by rfl, ?_⟩; with_reducible rfl)
        try simp only [Act.put, List.setIfInBounds_toArray, List.set_cons_zero, List.set_cons_succ]
        refine wpAnyH_take (i := 11) (oi := { dst := some 118, op := Go.Op.move (Go.Operand.tmp 8), type := 36, pos := _, after := _, guard := some (6, true) }) (v := ?_) rfl (by kernel_rfl) (by kernel_rfl) (by kernel_rfl) (fun _ _ _ h => h) ?_ (by assumption) ?_
        rotate_left
        · first | (refine Or.inl ⟨by rfl, ?_⟩; intro w hSw; have z0 := cell_bl hSw z0; have z1 := cell_bl hSw z1; have z2 := cell_bl hSw z2; have z3 := cell_bl hSw z3; have z4 := cell_bl hSw z4; have z5 := cell_bl hSw z5; have z6 := cell_bl hSw z6; have z7 := cell_bl hSw z7; have z8 := cell_bl hSw z8; go_simp; (try (with_reducible rfl)); done) | (refine Or.inr ⟨by rfl, ?_⟩; with_reducible rfl)
        try simp only [Act.put, List.setIfInBounds_toArray, List.set_cons_zero, List.set_cons_succ]
        refine wpAnyH_take (i := 12) (oi := { dst := some 119, op := Go.Op.load 32 (Go.Operand.tmp 2), type := 32, pos := _, after := _, guard := some (6, true) }) (v := ?_) rfl (by kernel_rfl) (by kernel_rfl) (by kernel_rfl) (fun _ _ _ h => h) ?_ (by assumption) ?_
        rotate_left
        · first | (refine Or.inl ⟨by rfl, ?_⟩; intro w hSw; have z0 := cell_bl hSw z0; have z1 := cell_bl hSw z1; have z2 := cell_bl hSw z2; have z3 := cell_bl hSw z3; have z4 := cell_bl hSw z4; have z5 := cell_bl hSw z5; have z6 := cell_bl hSw z6; have z7 := cell_bl hSw z7; have z8 := cell_bl hSw z8; go_simp; (try (with_reducible rfl)); done) | (refine Or.inr ⟨by rfl, ?_⟩; with_reducible rfl)
        try simp only [Act.put, List.setIfInBounds_toArray, List.set_cons_zero, List.set_cons_succ]
        refine wpAnyH_ready (rs := [9]) (by kernel_rfl) (by simp) ?_
        refine AllReadyH.cons (o := { dst := some 116, op := Go.Op.call { callee := Go.Callee.value (Go.Operand.func 19), args := #[Go.Operand.tmp 115], argTypes := #[32] }, type := 3, pos := _, after := _, guard := some (6, true) }) rfl (fun K hK => ?_) AllReadyH.nil
        go_simp
        refine (HWHO.out _).mono ?_
        rintro e w12 ⟨rfl, hB12⟩
        have hB12 := Bl.then hB11 hB11.size hB12
        simp only []
        refine hK.out _ _ ?_ (fun hHeld => ?_)
        · exact hB12
        clear hK K
        try simp only [Act.put, List.setIfInBounds_toArray, List.set_cons_zero, List.set_cons_succ]
        refine wpAnyH_ready (rs := [10]) (by kernel_rfl) (by simp) ?_
        refine AllReadyH.cons (o := { dst := some 117, op := Go.Op.call { callee := Go.Callee.value (Go.Operand.func 21), args := #[Go.Operand.tmp 114, Go.Operand.tmp 116], argTypes := #[36, 3] }, type := 46, pos := _, after := _, guard := some (6, true) }) rfl (fun K hK => ?_) AllReadyH.nil
        go_simp
        refine (HVW.out _ hB12).mono ?_
        rintro e w13 ⟨hB13, v13, rfl, hO13⟩
        have hr13 := hO13.reads
        have hB13 := Bl.then hB12 hB12.size hB13
        simp only []
        refine hK.out _ _ ?_ (fun hHeld => ?_)
        · exact hB13
        clear hK K
        try simp only [Act.put, List.setIfInBounds_toArray, List.set_cons_zero, List.set_cons_succ]
        refine wpAnyH_ready (rs := [13]) (by kernel_rfl) (by simp) ?_
        refine AllReadyH.cons (o := { dst := some 120, op := Go.Op.call { callee := Go.Callee.value (Go.Operand.func 19), args := #[Go.Operand.tmp 119], argTypes := #[32] }, type := 3, pos := _, after := _, guard := some (6, true) }) rfl (fun K hK => ?_) AllReadyH.nil
        go_simp
        refine (HWHO.out _).mono ?_
        rintro e w14 ⟨rfl, hB14⟩
        have hr14 := (kS kEv).kp hr13 (hB14.kp _)
        have hB14 := Bl.then hB13 hB13.size hB14
        simp only []
        refine hK.out _ _ ?_ (fun hHeld => ?_)
        · exact hB14
        clear hK K
        try simp only [Act.put, List.setIfInBounds_toArray, List.set_cons_zero, List.set_cons_succ]
        refine wpAnyH_ready (rs := [14]) (by kernel_rfl) (by simp) ?_
        refine AllReadyH.cons (o := { dst := some 121, op := Go.Op.call { callee := Go.Callee.value (Go.Operand.func 21), args := #[Go.Operand.tmp 118, Go.Operand.tmp 120], argTypes := #[36, 3] }, type := 46, pos := _, after := _, guard := some (6, true) }) rfl (fun K hK => ?_) AllReadyH.nil
        go_simp
        refine (HVW2.out _ hB14).mono ?_
        rintro e w15 ⟨hB15, v15, rfl, hO15⟩
        have hr15 := (kS kEv).kp hr14 (hB15.kp _)
        have hr16 := hO15.reads
        have hB15 := Bl.then hB14 hB14.size hB15
        simp only []
        refine hK.out _ _ ?_ (fun hHeld => ?_)
        · exact hB15
        clear hK K
        try simp only [Act.put, List.setIfInBounds_toArray, List.set_cons_zero, List.set_cons_succ]
        refine wpAnyH_ready (rs := [15]) (by kernel_rfl) (by simp) ?_
        refine AllReadyH.cons (o := { dst := some 122, op := Go.Op.call { callee := Go.Callee.value (Go.Operand.func 26), args := #[Go.Operand.tmp 117, Go.Operand.tmp 121], argTypes := #[46, 46] }, type := 4, pos := _, after := _, guard := some (6, true) }) rfl (fun K hK => ?_) AllReadyH.nil
        go_simp
        refine (views_same _ _ _ _ _ _ hr15 hr16).mono ?_
        rintro e w16 ⟨rfl, hB16⟩
        have hB16 := Bl.then hB15 hB15.size hB16
        simp only []
        refine hK.out _ _ ?_ (fun hHeld => ?_)
        · exact hB16
        clear hK K
        try simp only [Act.put, List.setIfInBounds_toArray, List.set_cons_zero, List.set_cons_succ]
        refine wpAnyH_take (i := 16) (oi := { dst := some 123, op := Go.Op.pick (Go.Operand.tmp 113) (Go.Operand.tmp 122) (Go.Operand.const (Go.Value.bool false)), type := 4, pos := _, after := _, guard := none }) (v := ?_) rfl (by kernel_rfl) (by kernel_rfl) (by kernel_rfl) (fun _ _ _ h => h) ?_ (by assumption) ?_
        rotate_left
        · first | (refine Or.inl ⟨by rfl, ?_⟩; intro w hSw; have z0 := cell_bl hSw z0; have z1 := cell_bl hSw z1; have z2 := cell_bl hSw z2; have z3 := cell_bl hSw z3; have z4 := cell_bl hSw z4; have z5 := cell_bl hSw z5; have z6 := cell_bl hSw z6; have z7 := cell_bl hSw z7; have z8 := cell_bl hSw z8; go_simp; (try (with_reducible rfl)); done) | (refine Or.inr ⟨by rfl, ?_⟩; with_reducible rfl)
        try simp only [Act.put, List.setIfInBounds_toArray, List.set_cons_zero, List.set_cons_succ]
        refine wpAnyH_take (i := 17) (oi := { dst := some 4, op := Go.Op.assign (Go.Operand.tmp 123), type := 4, pos := _, after := _, guard := none }) (v := ?_) rfl (by kernel_rfl) (by kernel_rfl) (by kernel_rfl) (fun _ _ _ h => h) ?_ (by assumption) ?_
        rotate_left
        · first | (refine Or.inl ⟨by rfl, ?_⟩; intro w hSw; have z0 := cell_bl hSw z0; have z1 := cell_bl hSw z1; have z2 := cell_bl hSw z2; have z3 := cell_bl hSw z3; have z4 := cell_bl hSw z4; have z5 := cell_bl hSw z5; have z6 := cell_bl hSw z6; have z7 := cell_bl hSw z7; have z8 := cell_bl hSw z8; go_simp; (try (with_reducible rfl)); done) | (refine Or.inr ⟨by rfl, ?_⟩; with_reducible rfl)
        try simp only [Act.put, List.setIfInBounds_toArray, List.set_cons_zero, List.set_cons_succ]
        refine wpAnyH_done (by kernel_rfl) ?_ _
        go_wp2_with fail
        go_ret
        exact ⟨rfl, Bl.then HB29.out HB29.out.size hB16⟩
  · have hmc := hmc.mono (R' := fun e w' => e = .returned (.bool false) ∧ Bl W0 w') (fun e w' h => by
      obtain ⟨h1, b, rfl, hb⟩ := h
      cases b with
      | true => exact absurd (hb.1 rfl) hmay
      | false => exact ⟨rfl, h1⟩)
    have haw := fun W2 (h : Bl w W2) => awake_any W2 (hL.bl h)
    simp only [askVal] at hmc ⊢
    have HB0 := hide hB0; have HMC := hide hmc; have HAW := hide haw; have HW0 := hide hW0
    clear hB0 hbox hmc haw hL hW0 hclow hdlow htlow hllow hslow hc hd ht hl hs hmay
    go_enter Tryd.func6, Tryd.ntmps6
    go_wp2_with fail
    rw [← HW0.out]
    refine HMC.out.mono ?_
    rintro e w2 ⟨rfl, hB2⟩
    have HB2 := hide (Bl.then HB0.out HB0.out.size hB2)
    clear hB2
    go_wp2_with fail
    refine (HAW.out w2 HB2.out).mono ?_
    rintro e w3 ⟨rfl, hB3⟩
    have HB3 := hide (Bl.then HB2.out HB2.out.size hB3)
    clear hB3
    go_wp2_with fail
    go_ret
    exact ⟨rfl, HB3.out⟩
end Pv
