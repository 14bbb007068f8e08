import Derived.Test.YtjokahbkmceocaaDoorZs
import Derived.Test.YtjokahbkmceocaaDoorYNew2
set_option linter.unusedVariables false
set_option linter.unusedSimpArgs false
namespace Pv
open Go Go.RowKit Go.Proofs

/-- both networks, the scenario read below B -/
def NetsQ (p n t : Nat) (corrupt : List Int) (devs : List Dev) (tapes : List (List Nat)) (vt : Value) (B : Nat) (w : World) (e : Ending) (w' : World) : Prop :=
  Bl w w' ∧ ((¬ ScOK p n t corrupt devs tapes ∧ e = .returned (.tuple #[.pointer none, .pointer none, .bool false])) ∨
    (ScOK p n t corrupt devs tapes ∧ ∃ nb vb vtp rb, e = .returned (.tuple #[.pointer (some ⟨nb, 0, none⟩), .pointer (some ⟨rb, 0, none⟩), .bool true]) ∧ NetR w' B (fun b => b = nb ∨ b = vb) nb ⟨p, n, t, corrupt, devs⟩ vt vtp 0 (fun _ => []) ∧
      nb < w'.heap.size ∧ vb < w'.heap.size ∧ w.heap.size ≤ nb ∧ w.heap.size ≤ vb))
set_option maxHeartbeats 4000000 in
set_option maxRecDepth 100000 in
theorem nets_anyB (p n t : Nat) (vc vd vt : Value) (corrupt : List Int) (devs : List Dev) (tapes : List (List Nat)) (w : World) (hL : Laid w) (B : Nat) (hBB : B ≤ w.heap.size) (hc : (kS kI).R w (fun b => b < B) [vc] corrupt) (hd : (kS kDev).R w (fun b => b < B) [vd] devs) (ht : (kS (kS kU)).R w Any [vt] tapes) (htl : ∀ l, l ∈ tapes → l.length ≤ 1000000) :
    Calls Tryd.prog 16 #[scVal p n t vc vd vt] w fun e w' => NetsQ p n t corrupt devs tapes vt B w e w' := by
  have hclow := hc
  have hdlow := hd
  have htlow := (kS (kS kU)).low ht
  obtain ⟨Ac, cc, rfl, _, _⟩ := kS_len hc
  obtain ⟨Ad, cd, rfl, _, _⟩ := kS_len hd
  obtain ⟨At, ct, rfl, _, _⟩ := kS_len ht
  obtain ⟨W, hW⟩ : ∃ W, W = w.alloc (.cells #[.int .u64 p, .int .i64 n, .int .i64 t, .slice Ac corrupt.length cc, .slice Ad devs.length cd, .slice At tapes.length ct] 29) := ⟨_, rfl⟩
  have hB0 : Bl w W := by rw [hW]; exact (Below.refl _ _).alloc (Nat.le_refl _) _
  have hbox : ∀ i u, (#[.int .u64 p, .int .i64 n, .int .i64 t, .slice Ac corrupt.length cc, .slice Ad devs.length cd, .slice At tapes.length ct] : Array Value)[i]? = some u → W.cell? ⟨w.heap.size, i, none⟩ = some u := fun i u hu => by
    rw [hW, World.cell?_alloc_at _ _ _ _ rfl]; exact hu
  have hnew := new_anyB p n t (.slice Ac corrupt.length cc) (.slice Ad devs.length cd) (.slice At tapes.length ct) corrupt devs tapes W (hL.bl hB0) B (Nat.le_trans hBB hB0.size) ((kS kI).bl hclow (hB0.mono hBB)) ((kS kDev).bl hdlow (hB0.mono hBB)) ((kS (kS kU)).any ((kS (kS kU)).bl htlow hB0))
  have hrnew := fun W2 (h : Bl w W2) => rnew_any p n t (.slice Ac corrupt.length cc) (.slice Ad devs.length cd) (.slice At tapes.length ct) corrupt devs tapes W2 ((kS kI).any ((kS kI).bl hclow (h.mono hBB))) ((kS kDev).any ((kS kDev).bl hdlow (h.mono hBB))) ((kS (kS kU)).any ((kS (kS kU)).bl htlow h)) htl
  simp only [scVal] at hnew hrnew ⊢
  have HW := hide hW; have HB0 := hide hB0; have HBX := hide hbox; have HNEW := hide hnew; have HRN := hide hrnew
  clear hW hB0 hbox hnew hrnew hclow hdlow htlow hc hd ht hL htl
  go_enter Tryd.func16, Tryd.ntmps16
  go_wp2_with fail
  rw [← HW.out]
  refine HNEW.out.mono ?_
  rintro e w2 ⟨hB2, hcase⟩
  have b0 := cell_bl hB2 (HBX.out 0 _ rfl)
  have b1 := cell_bl hB2 (HBX.out 1 _ rfl)
  have b2 := cell_bl hB2 (HBX.out 2 _ rfl)
  have b3 := cell_bl hB2 (HBX.out 3 _ rfl)
  have b4 := cell_bl hB2 (HBX.out 4 _ rfl)
  have b5 := cell_bl hB2 (HBX.out 5 _ rfl)
  have HB2 := hide (Bl.then HB0.out HB0.out.size hB2)
  have HB12 := hide hB2
  clear hB2
  rcases hcase with ⟨hno, rfl⟩ | ⟨hok, nb, vb, vtp, rfl, hN, hT, hnbw, hvbw⟩
  · have HNO := hide hno; clear hno
    go_wp2_with fail
    refine (HRN.out _ HB2.out).mono ?_
    rintro e w3 ⟨hB3, hcase⟩
    rcases hcase with ⟨_, rfl⟩ | ⟨hok, _⟩
    · have HB3 := hide (Bl.then HB2.out HB2.out.size hB3); clear hB3
      go_wp2_with fail
      go_ret3
      exact ⟨HB3.out, .inl ⟨HNO.out, rfl⟩⟩
    · exact absurd hok HNO.out
  · have HOK := hide hok; have HN := hide hN; have HT := hide hT
    clear hok hN hT
    go_wp2_with fail
    refine (HRN.out _ HB2.out).mono ?_
    rintro e w3 ⟨hB3, hcase⟩
    rcases hcase with ⟨hno, _⟩ | ⟨_, rb, rfl⟩
    · exact absurd HOK.out hno
    · have HB3 := hide hB3; clear hB3
      go_wp2_with fail
      go_ret3
      have hvb : vb < w2.heap.size := by
        obtain ⟨_, _, vb', _, h1, _, _, h4, _⟩ := HN.out
        rcases h4.f0.1 with e | e
        · exact absurd e h4.f0.2
        · rw [← e]; exact h4.out.lt
      exact ⟨Bl.then HB2.out HB2.out.size HB3.out, .inr ⟨HOK.out, nb, vb, vtp, rb, rfl, HN.out.bl HB3.out, Nat.lt_of_lt_of_le HN.out.lt HB3.out.size, Nat.lt_of_lt_of_le hvb HB3.out.size, Nat.le_trans HB0.out.size hnbw, Nat.le_trans HB0.out.size hvbw⟩⟩
end Pv
