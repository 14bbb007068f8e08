import Derived.Test.YtjokahbkmceocaaDoorZs
import Derived.Test.YtjokahbkmceocaaDoorZa
set_option linter.unusedVariables false
set_option linter.unusedSimpArgs false
namespace Pv
open Go Go.RowKit Go.Proofs

theorem othN_succ (k who : Nat) (corrupt : List Int) : othN (k + 1) who corrupt = othN k who corrupt + (if k + 1 ≠ who ∧ ((k : Int) + 1) ∈ corrupt then 1 else 0) := by
  unfold othN
  rw [List.range_succ, List.filter_append, List.length_append]
  congr 1
  by_cases h : k + 1 ≠ who ∧ ((k : Int) + 1) ∈ corrupt
  · rw [if_pos h]; simp [h.1, h.2]
  · rw [if_neg h]
    simp only [List.filter_cons, List.filter_nil]
    split
    · rename_i h'
      simp only [Bool.and_eq_true, decide_eq_true_eq] at h'
      exact absurd h' h
    · rfl
theorem othN_le (k who : Nat) (corrupt : List Int) : othN k who corrupt ≤ k := by
  unfold othN; exact Nat.le_trans (List.length_filter_le _ _) (by simp)
def OthP (N q : Nat) (corrupt : List Int) (w : World) (e : Ending) (w' : World) : Prop := e = .returned (.int .i64 ((othN N q corrupt : Nat) : Int)) ∧ Bl w w'
set_option maxHeartbeats 4000000 in
set_option maxRecDepth 100000 in
theorem others_any (p N : Nat) (t : Int) (vc vd vt vl vs : Value) (wh : Nat) (corrupt : List Int) (devs : List Dev) (tapes L : List (List Nat)) (spoil : List Nat) (w : World) (hc : (kS kI).R w Any [vc] corrupt) (hd : (kS kDev).R w Any [vd] devs) (ht : (kS (kS kU)).R w Any [vt] tapes) (hl : (kS (kS kU)).R w Any [vl] L) (hs : (kS kU).R w Any [vs] spoil) (hn : 1 ≤ N) (hn2 : N ≤ 1000) (hwh : wh < 256) :
    Calls Tryd.prog 14 #[askVal p N t vc vd vt wh vl vs] w fun e w' => OthP N (whoN N wh) corrupt w e w' := by
  have hclow := (kS kI).low hc
  obtain ⟨Ac, cc, rfl, _, _⟩ := kS_len hc
  obtain ⟨Ad, cd, rfl, _, _⟩ := kS_len hd
  obtain ⟨At, ct, rfl, _, _⟩ := kS_len ht
  obtain ⟨Al, cl, rfl, _, _⟩ := kS_len hl
  obtain ⟨As, cs, rfl, _, _⟩ := kS_len hs
  obtain ⟨W0, hW0⟩ : ∃ W0, W0 = w.alloc (.cells #[.int .u64 p, .int .i64 N, .int .i64 t, .slice Ac corrupt.length cc, .slice Ad devs.length cd, .slice At tapes.length ct, .int .u8 wh, .slice Al L.length cl, .slice As spoil.length cs] 32) := ⟨_, rfl⟩
  have hB0 : Bl w W0 := by rw [hW0]; exact (Below.refl _ _).alloc (Nat.le_refl _) _
  have hbox : ∀ i u, (#[.int .u64 p, .int .i64 N, .int .i64 t, .slice Ac corrupt.length cc, .slice Ad devs.length cd, .slice At tapes.length ct, .int .u8 wh, .slice Al L.length cl, .slice As spoil.length cs] : Array Value)[i]? = some u → W0.cell? ⟨w.heap.size, i, none⟩ = some u := fun i u hu => by
    rw [hW0, World.cell?_alloc_at _ _ _ _ rfl]; exact hu
  have hwho := fun W2 => who_any p N t Ac Ad At Al As corrupt.length cc devs.length cd tapes.length ct L.length cl spoil.length cs wh W2 hn hn2 hwh
  have hhon := fun W2 (h : Bl w W2) (i : Nat) => honest_any p N t (.slice Ac corrupt.length cc) (.slice Ad devs.length cd) (.slice At tapes.length ct) corrupt ((i : Int) + 1) _ W2 ((kS kI).bl hclow h)
  obtain ⟨q, hq⟩ : ∃ q, q = whoN N wh := ⟨_, rfl⟩
  rw [← hq] at hwho ⊢
  simp only [scVal, askVal] at hwho hhon ⊢
  have HB0 := hide hB0; have HBX := hide hbox; have HWHO := hide hwho; have HHON := hide hhon; have HW0 := hide hW0; have HQ := hide hq
  clear hB0 hbox hwho hhon hW0 hq hclow hc hd ht hl hs
  go_enter Tryd.func14, Tryd.ntmps14
  go_wp2_with fail
  rw [← HW0.out]
  go_loopw [3, 4] (fun s3 ix wr => ∃ i : Nat, i ≤ N ∧ ix = .int .i64 ((i : Int) + 1) ∧ s3 = .int .i64 ((othN i q corrupt : Nat) : Int) ∧ Bl W0 wr) (fun _ ix _ => N + 1 - (intOf ix).toNat)
  case atStart => exact ⟨0, by omega, rfl, rfl, Below.refl _ _⟩
  case round =>
    obtain ⟨i, hi, rfl, rfl, hB⟩ := hrel
    have b0 := cell_bl hB (HBX.out 0 _ rfl)
    have b1 := cell_bl hB (HBX.out 1 _ rfl)
    have b2 := cell_bl hB (HBX.out 2 _ rfl)
    have b3 := cell_bl hB (HBX.out 3 _ rfl)
    have b4 := cell_bl hB (HBX.out 4 _ rfl)
    have b5 := cell_bl hB (HBX.out 5 _ rfl)
    have b6 := cell_bl hB (HBX.out 6 _ rfl)
    have b7 := cell_bl hB (HBX.out 7 _ rfl)
    have b8 := cell_bl hB (HBX.out 8 _ rfl)
    have hle := othN_le i q corrupt
    have hsu := othN_succ i q corrupt
    have HB := hide hB; have HSU := hide hsu; clear hB hsu
    by_cases hiN : i < N
    · have hii : (i : Int) + 1 ≤ (N : Int) := by omega
      by_cases hiq : i + 1 = q
      · as_aux_lemma =>
        have hb1 : ((i : Int) + 1 != (q : Int)) = false := by rw [bne_eq_false_iff_eq]; omega
        have hs := HSU.out
        rw [if_neg (fun h => h.1 hiq), Nat.add_zero] at hs
        have HS := hide hs; clear hs hiq
        go_wp2_with fail
        refine (HWHO.out _).mono ?_
        rintro e w7 ⟨rfl, hB7⟩
        have HB7 := hide (Bl.then HB.out HB.out.size hB7)
        clear hB7
        go_wp2_with fail
        go_round
        case rel => exact ⟨i + 1, by omega, by go_num, by rw [HS.out]; rfl, HB7.out⟩
        case measure => simp [intOf]; omega
      · have hb1 : ((i : Int) + 1 != (q : Int)) = true := by rw [bne_iff_ne]; omega
        by_cases hbad : ((i : Int) + 1) ∈ corrupt
        · as_aux_lemma =>
          have hs := HSU.out
          rw [if_pos ⟨hiq, hbad⟩] at hs
          have hh := fun W2 (h : Bl w W2) => (HHON.out W2 h i).mono (R' := fun e w' => e = .returned (.bool false) ∧ Bl W2 w') (fun e w' h => ⟨by rw [h.1, decide_eq_true hbad]; rfl, h.2⟩)
          have HS := hide hs; have HH := hide hh; clear hs hh hiq hbad
          go_wp2_with fail
          refine (HWHO.out _).mono ?_
          rintro e w7 ⟨rfl, hB7⟩
          have HB7 := hide (Bl.then HB.out HB.out.size hB7)
          have c0 := cell_bl hB7 b0
          have c1 := cell_bl hB7 b1
          have c2 := cell_bl hB7 b2
          have c3 := cell_bl hB7 b3
          have c4 := cell_bl hB7 b4
          have c5 := cell_bl hB7 b5
          clear hB7
          go_wp2_with fail
          refine (HH.out _ (Bl.then HB0.out HB0.out.size HB7.out)).mono ?_
          rintro e w8 ⟨rfl, hB8⟩
          have HB8 := hide (Bl.then HB7.out HB7.out.size hB8)
          clear hB8
          go_wp2_with fail
          go_round
          case rel => exact ⟨i + 1, by omega, by go_num, by rw [HS.out]; go_num, HB8.out⟩
          case measure => simp [intOf]; omega
        · as_aux_lemma =>
          have hs := HSU.out
          rw [if_neg (fun h => hbad h.2), Nat.add_zero] at hs
          have hh := fun W2 (h : Bl w W2) => (HHON.out W2 h i).mono (R' := fun e w' => e = .returned (.bool true) ∧ Bl W2 w') (fun e w' h => ⟨by rw [h.1, decide_eq_false hbad]; rfl, h.2⟩)
          have HS := hide hs; have HH := hide hh; clear hs hh hiq hbad
          go_wp2_with fail
          refine (HWHO.out _).mono ?_
          rintro e w7 ⟨rfl, hB7⟩
          have HB7 := hide (Bl.then HB.out HB.out.size hB7)
          have c0 := cell_bl hB7 b0
          have c1 := cell_bl hB7 b1
          have c2 := cell_bl hB7 b2
          have c3 := cell_bl hB7 b3
          have c4 := cell_bl hB7 b4
          have c5 := cell_bl hB7 b5
          clear hB7
          go_wp2_with fail
          refine (HH.out _ (Bl.then HB0.out HB0.out.size HB7.out)).mono ?_
          rintro e w8 ⟨rfl, hB8⟩
          have HB8 := hide (Bl.then HB7.out HB7.out.size hB8)
          clear hB8
          go_wp2_with fail
          go_round
          case rel => exact ⟨i + 1, by omega, by go_num, by rw [HS.out]; rfl, HB8.out⟩
          case measure => simp [intOf]; omega
    · as_aux_lemma =>
      obtain rfl : i = N := by omega
      have hni : ¬ (i : Int) + 1 ≤ (i : Int) := by omega
      go_wp2_with fail
      go_ret
      exact ⟨rfl, Bl.then HB0.out HB0.out.size HB.out⟩
end Pv
