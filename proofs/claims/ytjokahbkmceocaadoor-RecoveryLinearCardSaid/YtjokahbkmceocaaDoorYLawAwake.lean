import Derived.Test.YtjokahbkmceocaaDoorZs
import Derived.Test.YtjokahbkmceocaaDoorZt
import Derived.Test.YtjokahbkmceocaaDoorZp
set_option linter.unusedVariables false
set_option linter.unusedSimpArgs false
namespace Pv
open Go Go.RowKit Go.Proofs

theorem sc_awake : ScOK 31 4 1 [] [] [[], [], [], []] := by
  refine ⟨by decide, by decide, fun i hi => by simp at hi, by decide, fun d hd => by simp at hd, fun l hl x hx => ?_⟩
  simp only [List.mem_cons, List.not_mem_nil, or_false, or_self] at hl
  subst hl; simp at hx
/-- what stands behind a recovery: the rows, the network -/
theorem isP_31 : IsP 31 := .inl rfl
def aw : List (List Nat) := (List.range 4).map fun i => rowB 31 2 (nsM 31 1 2 [3, 4]) (i + 1)
theorem aw_len : aw.length = 4 := rfl
theorem aw_row : recRow 31 4 1 3 1 (rcHeard 31 [] [] 3 1 (rw2 [aw])) 0 = [11, 15] := by
  rw [rec_right isP_31 (by decide) (by decide) (by decide) (by decide) (by decide) (by decide) (by decide) (fun _ => nsM 31 1 2 [3, 4]) (fun i j => nsM_comm _ _ _ _ _ _) [] [] _ (fun i hi hne _ => ?_) (by decide)]
  · decide
  · match i, hi with
    | 0, _ => rfl
    | 1, _ => rfl
    | 2, _ => rfl
    | 3, _ => rfl
theorem aw_v3 : (sendV 0 4 4 (applyM 31 [] 0 [] (recOut 31 3 1 (rw2 [aw]))) (fun _ => []) 2).length = 3 := by
  rw [sendV_at]; rfl
theorem aw_v1 : sendV 0 4 4 (applyM 31 [] 0 [] (recOut 31 3 1 (rw2 [aw]))) (fun _ => []) 0 = [] := by
  rw [sendV_at]; rfl
theorem nils_read {W : World} {S : Nat → Prop} {b n : Nat} {t : TypeId} (h : RowAt W b t n (fun _ => .slice none 0 0)) (hS : S b) (hn : n ≤ 1000) : (kS (kS kU)).R W S [.slice (some ⟨b, 0, none⟩) n n] (List.replicate n []) :=
  rd_mk (K := kS kU) rfl (List.length_replicate ..) ⟨Nat.le_refl _, by omega⟩ fun j x hx => by
    have hj : j < n := by have := (List.getElem?_eq_some_iff.1 hx).1; rwa [List.length_replicate] at this
    rw [List.getElem?_replicate, if_pos hj] at hx
    injection hx with hx
    subst hx
    have ha : (⟨b, 0, none⟩ : Addr).add j = ⟨b, j, none⟩ := by unfold Addr.add; split <;> simp_all
    exact ⟨⟨b, 0, none⟩, _, rfl, hS, kS_nil _ _ _, by rw [ha]; exact h.cell hj⟩
theorem NetR.base {w : World} {B0 : Nat} {F : Nat → Prop} {nb : Nat} {sc : Sc} {vt vtp : Value} {round : Nat} {views : Nat → List Ev} (h : NetR w B0 F nb sc vt vtp round views) : ∀ b, F b → B0 ≤ b := by
  obtain ⟨_, _, _, _, _, _, _, _, _, h6, _⟩ := h; exact h6
def AwP (w : World) (e : Ending) (w' : World) : Prop := e = .returned (.bool true) ∧ Bl w w'
set_option maxHeartbeats 4000000 in
set_option maxRecDepth 100000 in
theorem awake_any (w : World) (hL : Laid w) : Calls Tryd.prog 15 #[] w fun e w' => AwP w e w' := by
  have hmk := fun W : World => run_make_row' (P := Tryd.prog) 27 30 (.slice none 0 0) 24 Tryd.underlying27 crowinfo rfl .i64 .i64 4 (by omega) (by omega) W
  have hmk : ∀ W : World, (Instr.makeSlice 27 (.int .i64 4) (.int .i64 4)).run Tryd.prog W = .ok (.slice (some ⟨W.heap.size, 0, none⟩) 4 4) (W.alloc (.cells (madeCells #[.slice none 0 0] 4) 30)) := hmk
  obtain ⟨W1, hW1⟩ : ∃ W1, W1 = w.alloc (.cells #[.int .u64 31, .int .i64 4, .int .i64 1] 24) := ⟨_, rfl⟩
  have hB1 : Bl w W1 := by rw [hW1]; exact (Below.refl _ _).alloc (Nat.le_refl _) _
  have hbx : ∀ i u, (#[.int .u64 31, .int .i64 4, .int .i64 1] : Array Value)[i]? = some u → W1.cell? ⟨w.heap.size, i, none⟩ = some u := fun i u hu => by
    rw [hW1, World.cell?_alloc_at _ _ _ _ rfl]; exact hu
  have c0 := hbx 0 _ rfl
  have c1 := hbx 1 _ rfl
  have c2 := hbx 2 _ rfl
  have HB1 := hide hB1; have HW1 := hide hW1
  have hL1 := hL.bl hB1
  have hnets : ∀ Wm : World, Wm = W1.drew.alloc (.cells (madeCells #[.slice none 0 0] 4) 30) → Calls Tryd.prog 16 #[.agg #[.int .u64 31, .int .i64 4, .int .i64 1, .slice none 0 0, .slice none 0 0, .slice (some ⟨W1.drew.heap.size, 0, none⟩) 4 4]] Wm fun e w' => NetsP 31 4 1 [] [] [[], [], [], []] (.slice (some ⟨W1.drew.heap.size, 0, none⟩) 4 4) Wm e w' := fun Wm hm => by
    have hBm : Bl W1 Wm := by rw [hm]; exact ((Dr.one (Dr.refl W1)).below _).alloc (by show W1.heap.size ≤ W1.drew.heap.size; exact Nat.le_refl _) _
    have hr : (kS (kS kU)).R Wm Any [.slice (some ⟨W1.drew.heap.size, 0, none⟩) 4 4] [[], [], [], []] := by
      rw [hm]; exact nils_read (RowAt.made W1.drew (.slice none 0 0) 4 30) trivial (by omega)
    exact nets_any 31 4 1 (.slice none 0 0) (.slice none 0 0) (.slice (some ⟨W1.drew.heap.size, 0, none⟩) 4 4) [] [] [[], [], [], []] Wm (hL1.bl hBm) (kS_nil _ _ _) (kS_nil _ _ _) hr (fun l hl => by
      simp only [List.mem_cons, List.not_mem_nil, or_false, or_self] at hl
      subst hl; simp)
  have HNETS := hide hnets
  clear hnets hL hL1 hB1 hbx hW1
  go_enter Tryd.func15, Tryd.ntmps15
  go_wp2_with fail
  rw [← HW1.out]
  refine wp_region_held_drew (S := fun w' => Bl W1 w') (by kernel_rfl) ((Dr.one (Dr.refl W1)).below _) (fun hHeld => ?_)
  refine wpAnyH_take (i := 0) (oi := { dst := some 9, op := Go.Op.load 24 (Go.Operand.tmp 1), type := 24, pos := _, after := _, guard := none }) (v := ?_) rfl (by kernel_rfl) (by kernel_rfl) (by kernel_rfl) (fun _ _ _ h => h) ?_ (by assumption) ?_
  rotate_left
  · first | (refine Or.inl ⟨by rfl, ?_⟩; intro w hSw; have z0 := cell_bl hSw c0; have z1 := cell_bl hSw c1; have z2 := cell_bl hSw c2; go_simp; (try (with_reducible rfl)); done) | (refine Or.inr ⟨by rfl, ?_⟩; with_reducible rfl)
  try simp only [Act.put, List.setIfInBounds_toArray, List.set_cons_zero, List.set_cons_succ]
  refine wpAnyH_ready (rs := [1]) (by kernel_rfl) (by simp) ?_
  refine AllReadyH.cons (o := { dst := some 10, op := Go.Op.makeSlice 27 (Go.Operand.const (Go.Value.int Go.IntKind.i64 4)) (Go.Operand.const (Go.Value.int Go.IntKind.i64 4)), type := 27, pos := _, after := _, guard := none }) rfl (fun K hK => ?_) AllReadyH.nil
  go_simp
  refine hK.out _ _ ?_ (fun hHeld => ?_)
  · exact ((Dr.one (Dr.refl W1)).below _).alloc (Nat.le_refl _) _
  clear hK K
  try simp only [Act.put, List.setIfInBounds_toArray, List.set_cons_zero, List.set_cons_succ]
  refine wpAnyH_take (i := 2) (oi := { dst := some 11, op := Go.Op.build 29 #[(0, Go.Operand.tmp 9), (3, Go.Operand.tmp 10)], type := 29, pos := _, after := _, guard := none }) (v := ?_) rfl (by kernel_rfl) (by kernel_rfl) (by kernel_rfl) (fun _ _ _ h => h) ?_ (by assumption) ?_
  rotate_left
  · first | (refine Or.inl ⟨by rfl, ?_⟩; intro w hSw; have z0 := cell_bl hSw c0; have z1 := cell_bl hSw c1; have z2 := cell_bl hSw c2; go_simp; (try (with_reducible rfl)); done) | (refine Or.inr ⟨by rfl, ?_⟩; with_reducible rfl)
  try simp only [Act.put, List.setIfInBounds_toArray, List.set_cons_zero, List.set_cons_succ]
  refine wpAnyH_ready (rs := [3]) (by kernel_rfl) (by simp) ?_
  refine AllReadyH.cons (o := { dst := some 12, op := Go.Op.call { callee := Go.Callee.value (Go.Operand.func 16), args := #[Go.Operand.tmp 11], argTypes := #[29] }, type := 38, pos := _, after := _, guard := none }) rfl (fun K hK => ?_) AllReadyH.nil
  go_simp
  refine (HNETS.out _ rfl).mono ?_
  rintro e w2 ⟨hB2, hcase⟩
  rcases hcase with ⟨hno, _⟩ | ⟨_, nb, vb, vtp, rb, B0, rfl, hN, _, hnb, hvb, hB0, hB0'⟩
  · exact absurd sc_awake hno
  simp only []
  refine hK.out _ _ ?_ (fun hHeld => ?_)
  · exact (((Dr.one (Dr.refl W1)).below _).alloc (Nat.le_refl _) _).trans (hB2.mono (by rw [Dr.alloc_heap, Array.size_push]; exact Nat.le_succ _))
  clear hK K
  try simp only [Act.put, List.setIfInBounds_toArray, List.set_cons_zero, List.set_cons_succ]
  refine wpAnyH_take (i := 4) (oi := { dst := some 8, op := Go.Op.move (Go.Operand.tmp 12), type := 38, pos := _, after := _, guard := none }) (v := ?_) rfl (by kernel_rfl) (by kernel_rfl) (by kernel_rfl) (fun _ _ _ h => h) ?_ (by assumption) ?_
  rotate_left
  · first | (refine Or.inl ⟨by rfl, ?_⟩; intro w hSw; have z0 := cell_bl hSw c0; have z1 := cell_bl hSw c1; have z2 := cell_bl hSw c2; go_simp; (try (with_reducible rfl)); done) | (refine Or.inr ⟨by rfl, ?_⟩; with_reducible rfl)
  try simp only [Act.put, List.setIfInBounds_toArray, List.set_cons_zero, List.set_cons_succ]
  refine wpAnyH_take (i := 5) (oi := { dst := some 13, op := Go.Op.extract (Go.Operand.tmp 8) 0, type := 36, pos := _, after := _, guard := none }) (v := ?_) rfl (by kernel_rfl) (by kernel_rfl) (by kernel_rfl) (fun _ _ _ h => h) ?_ (by assumption) ?_
  rotate_left
  · first | (refine Or.inl ⟨by rfl, ?_⟩; intro w hSw; have z0 := cell_bl hSw c0; have z1 := cell_bl hSw c1; have z2 := cell_bl hSw c2; go_simp; (try (with_reducible rfl)); done) | (refine Or.inr ⟨by rfl, ?_⟩; with_reducible rfl)
  try simp only [Act.put, List.setIfInBounds_toArray, List.set_cons_zero, List.set_cons_succ]
  refine wpAnyH_take (i := 6) (oi := { dst := some 14, op := Go.Op.extract (Go.Operand.tmp 8) 1, type := 37, pos := _, after := _, guard := none }) (v := ?_) rfl (by kernel_rfl) (by kernel_rfl) (by kernel_rfl) (fun _ _ _ h => h) ?_ (by assumption) ?_
  rotate_left
  · first | (refine Or.inl ⟨by rfl, ?_⟩; intro w hSw; have z0 := cell_bl hSw c0; have z1 := cell_bl hSw c1; have z2 := cell_bl hSw c2; go_simp; (try (with_reducible rfl)); done) | (refine Or.inr ⟨by rfl, ?_⟩; with_reducible rfl)
  try simp only [Act.put, List.setIfInBounds_toArray, List.set_cons_zero, List.set_cons_succ]
  refine wpAnyH_take (i := 7) (oi := { dst := some 15, op := Go.Op.extract (Go.Operand.tmp 8) 2, type := 4, pos := _, after := _, guard := none }) (v := ?_) rfl (by kernel_rfl) (by kernel_rfl) (by kernel_rfl) (fun _ _ _ h => h) ?_ (by assumption) ?_
  rotate_left
  · first | (refine Or.inl ⟨by rfl, ?_⟩; intro w hSw; have z0 := cell_bl hSw c0; have z1 := cell_bl hSw c1; have z2 := cell_bl hSw c2; go_simp; (try (with_reducible rfl)); done) | (refine Or.inr ⟨by rfl, ?_⟩; with_reducible rfl)
  try simp only [Act.put, List.setIfInBounds_toArray, List.set_cons_zero, List.set_cons_succ]
  refine wpAnyH_take (i := 8) (oi := { dst := some 2, op := Go.Op.assign (Go.Operand.tmp 13), type := 36, pos := _, after := _, guard := none }) (v := ?_) rfl (by kernel_rfl) (by kernel_rfl) (by kernel_rfl) (fun _ _ _ h => h) ?_ (by assumption) ?_
  rotate_left
  · first | (refine Or.inl ⟨by rfl, ?_⟩; intro w hSw; have z0 := cell_bl hSw c0; have z1 := cell_bl hSw c1; have z2 := cell_bl hSw c2; go_simp; (try (with_reducible rfl)); done) | (refine Or.inr ⟨by rfl, ?_⟩; with_reducible rfl)
  try simp only [Act.put, List.setIfInBounds_toArray, List.set_cons_zero, List.set_cons_succ]
  refine wpAnyH_take (i := 9) (oi := { dst := some 3, op := Go.Op.assign (Go.Operand.tmp 14), type := 37, pos := _, after := _, guard := none }) (v := ?_) rfl (by kernel_rfl) (by kernel_rfl) (by kernel_rfl) (fun _ _ _ h => h) ?_ (by assumption) ?_
  rotate_left
  · first | (refine Or.inl ⟨by rfl, ?_⟩; intro w hSw; have z0 := cell_bl hSw c0; have z1 := cell_bl hSw c1; have z2 := cell_bl hSw c2; go_simp; (try (with_reducible rfl)); done) | (refine Or.inr ⟨by rfl, ?_⟩; with_reducible rfl)
  try simp only [Act.put, List.setIfInBounds_toArray, List.set_cons_zero, List.set_cons_succ]
  refine wpAnyH_take (i := 10) (oi := { dst := some 4, op := Go.Op.assign (Go.Operand.tmp 15), type := 4, pos := _, after := _, guard := none }) (v := ?_) rfl (by kernel_rfl) (by kernel_rfl) (by kernel_rfl) (fun _ _ _ h => h) ?_ (by assumption) ?_
  rotate_left
  · first | (refine Or.inl ⟨by rfl, ?_⟩; intro w hSw; have z0 := cell_bl hSw c0; have z1 := cell_bl hSw c1; have z2 := cell_bl hSw c2; go_simp; (try (with_reducible rfl)); done) | (refine Or.inr ⟨by rfl, ?_⟩; with_reducible rfl)
  try simp only [Act.put, List.setIfInBounds_toArray, List.set_cons_zero, List.set_cons_succ]
  refine wpAnyH_done (by kernel_rfl) ?_ _
  have hBm2 := (((Dr.one (Dr.refl W1)).below _).alloc (Nat.le_refl _) (.cells (madeCells #[.slice none 0 0] 4) 30)).trans (hB2.mono (by rw [Dr.alloc_heap, Array.size_push]; exact Nat.le_succ _))
  have hBw2 : Bl w w2 := Bl.then HB1.out HB1.out.size hBm2
  have p0 := cell_bl hBm2 c0
  have p1 := cell_bl hBm2 c1
  have p2 := cell_bl hBm2 c2
  have hns : Calls Tryd.prog 23 #[.agg #[.int .u64 31, .int .i64 4, .int .i64 1], .int .u64 2, .slice (some ⟨w2.heap.size, 0, none⟩) 2 2] (w2.alloc (.cells #[.int .u64 3, .int .u64 4] 22)) fun e w' => NsP 31 4 1 2 [3, 4] (w2.alloc (.cells #[.int .u64 3, .int .u64 4] 22)) e w' :=
    nshare_any 31 4 1 2 (.slice (some ⟨w2.heap.size, 0, none⟩) 2 2) [3, 4] Any (w2.alloc (.cells #[.int .u64 3, .int .u64 4] 22)) isP_31 (by decide) (by decide) (by decide) (by decide) (Ow.reads (base := 0) (e := 22) (row_mk rfl (fun x hx => by
      simp only [List.mem_cons, List.not_mem_nil, or_false] at hx
      rcases hx with rfl | rfl <;> decide) (heap_alloc_new w2 _) (by decide) (Nat.zero_le _)))
  have hNsz : ∀ b, (b = nb ∨ b = vb) → b < w2.heap.size := fun b hb => by rcases hb with rfl | rfl <;> assumption
  have HN2 := hide hN; have HNS := hide hns; have HNSZ := hide hNsz; have HB02 := hide hB0'; have HBW2 := hide hBw2
  have hB0w : w.heap.size ≤ B0 := Nat.le_trans HB1.out.size (Nat.le_trans (((Dr.one (Dr.refl W1)).below _).alloc (Nat.le_refl _) (.cells (madeCells #[.slice none 0 0] 4) 30)).size hB0)
  have HB0W := hide hB0w
  clear hN hns hNsz hB0' hB0 hBw2 hBm2 hB2 hB0w c0 c1 c2 hmk HNETS
  go_wp2_with fail
  refine HNS.out.mono ?_
  rintro e w4 ⟨hB4, v8, rfl, hO8⟩
  have hO8 : Ow (kT (kS kU) (fun b => (w2.alloc (.cells #[.int .u64 3, .int .u64 4] 22)).heap.size ≤ b)) w4 (w2.alloc (.cells #[.int .u64 3, .int .u64 4] 22)).heap.size 30 v8 aw := hO8
  have hsz2 : (w2.alloc (.cells #[.int .u64 3, .int .u64 4] 22)).heap.size = w2.heap.size + 1 := by rw [Dr.alloc_heap, Array.size_push]
  rw [hsz2] at hO8
  obtain ⟨A8, c8, hv8, _, _⟩ := hO8.slice
  rw [aw_len] at hv8
  subst hv8
  have hB24 : Bl w2 w4 := ((Below.refl _ _).alloc (Nat.le_refl _) _).trans (hB4.mono (by rw [hsz2]; omega))
  have h24 : w2.heap.size + 1 ≤ w4.heap.size := by have := hB4.size; rwa [hsz2] at this
  have hr8 : (kS (kS kU)).R w4 (fun b => w2.heap.size + 1 ≤ b) [.slice A8 4 c8] aw :=
    kS_unT (hO8.readsIn _ (fun b hb => (hO8.base b hb).1) fun u x _ hR => (kS kU).sub (S := fun b => Ne (Value.slice A8 4 c8).ownBlock b ∧ w2.heap.size + 1 ≤ b) (S' := fun b => w2.heap.size + 1 ≤ b ∧ w2.heap.size + 1 ≤ b) hR fun b _ hb => ⟨hb.2, hb.2⟩)
  have hrl := litK (K := kS (kS kU)) hr8 44
  have hBr : Bl w2 (w4.alloc (.cells #[.slice A8 4 c8] 44)) := hB24.alloc hB24.size _
  have hrec : Calls Tryd.prog 18 #[.pointer (some ⟨nb, 0, none⟩), .int .i64 3, .slice (some ⟨w4.heap.size, 0, none⟩) 1 1] (w4.alloc (.cells #[.slice A8 4 c8] 44)) fun e w' => RcvP (w4.alloc (.cells #[.slice A8 4 c8] 44)) B0 (fun b => b = nb ∨ b = vb) nb ⟨31, 4, 1, [], []⟩ (.slice (some ⟨W1.drew.heap.size, 0, none⟩) 4 4) vtp 0 3 1 [aw] (fun _ => []) e w' :=
    recover_any (w4.alloc (.cells #[.slice A8 4 c8] 44)) B0 (fun b => b = nb ∨ b = vb) nb ⟨31, 4, 1, [], []⟩ _ vtp _ 0 3 1 (fun _ => []) [aw] _ (HN2.out.bl hBr) (Nat.le_trans HB02.out hBr.size) (fun b hb => Nat.lt_of_lt_of_le (HNSZ.out b hb) hBr.size) isP_31 (by decide) (by decide) (by decide) (by decide) (by decide) (fun d hd => by simp at hd) hrl (fun b hb hF => by
      have := HNSZ.out b hF
      rcases hb with hb | hb
      · have := hb.1; omega
      · omega) rfl (by decide) (fun l hl => by
      simp only [List.mem_cons, List.not_mem_nil, or_false] at hl
      subst hl
      refine ⟨rfl, fun r hr => ?_⟩
      obtain ⟨i, _, rfl⟩ := List.mem_map.1 hr
      exact rowB_lt (by decide) _ _ _) (by decide) (by decide) (by decide) (fun j => by simp)
  have HREC := hide hrec; have HB24 := hide hB24; have HBR := hide hBr
  clear hrec hrl hr8 hO8 hB4 hB24 hBr hsz2 p0 p1 p2
  go_wp2_with fail
  refine HREC.out.mono ?_
  rintro e w6 ⟨hF6, F', v6, rfl, hF', hN6, hr6⟩
  have hr6 : (kS (kS kU)).R w6 (fun b => ¬ F' b ∧ (w4.alloc (.cells #[.slice A8 4 c8] 44)).heap.size ≤ b) [v6] [[11, 15]] := by
    have h : (kS (kS kU)).R w6 (fun b => ¬ F' b ∧ (w4.alloc (.cells #[.slice A8 4 c8] 44)).heap.size ≤ b) [v6] ((List.range 1).map (recRow 31 4 1 3 1 (rcHeard 31 [] [] 3 1 (rw2 [aw])))) := hr6
    rw [show (List.range 1).map (recRow 31 4 1 3 1 (rcHeard 31 [] [] 3 1 (rw2 [aw]))) = [[11, 15]] from congrArg (fun x => [x]) aw_row] at h
    exact h
  have hN6 : NetR w6 B0 F' nb ⟨31, 4, 1, [], []⟩ (.slice (some ⟨W1.drew.heap.size, 0, none⟩) 4 4) vtp 1 (sendV 0 4 4 (applyM 31 [] 0 [] (recOut 31 3 1 (rw2 [aw]))) (fun _ => [])) := hN6
  have hB26 : Below w.heap.size w w6 := Below.trans (HBW2.out.trans (HBR.out.mono HBW2.out.size)) (hF6.below (Nat.le_trans HBW2.out.size HBR.out.size) fun b hb hF => by
    have := HN2.out.base b hF
    have := HB0W.out
    omega)
  obtain ⟨A6, c6, rfl, _, hel⟩ := rd_open rfl hr6
  obtain ⟨ad, u, rfl, _, hu, hcu⟩ := hel 0 [11, 15] rfl
  obtain ⟨Au, cu, rfl, _, _⟩ := kS_len hu
  have hcu0 := hcu
  rw [add_zero'] at hcu0
  have hwd : Calls Tryd.prog 20 #[.slice Au 2 cu, .slice (some ⟨w6.heap.size, 0, none⟩) 2 2] (w6.alloc (.cells #[.int .u64 11, .int .u64 15] 22)) fun e w' => e = .returned (.bool true) ∧ Dr (w6.alloc (.cells #[.int .u64 11, .int .u64 15] 22)) w' :=
    (words_any (.slice Au 2 cu) (.slice (some ⟨w6.heap.size, 0, none⟩) 2 2) [11, 15] [11, 15] _ Any (w6.alloc (.cells #[.int .u64 11, .int .u64 15] 22)) ((kS kU).bl ((kS kU).low hu) ((Below.refl _ _).alloc (Nat.le_refl _) _)) (Ow.reads (base := 0) (e := 22) (row_mk rfl (fun x hx => by
      simp only [List.mem_cons, List.not_mem_nil, or_false] at hx
      rcases hx with rfl | rfl <;> decide) (heap_alloc_new w6 _) (by decide) (Nat.zero_le _)))).mono fun e w' h => ⟨by rw [h.1]; rfl, h.2⟩
  have HWD := hide hwd; have HN6 := hide hN6; have HB26 := hide hB26
  clear hwd hN6 hB26 hr6 hel hu hF6 hF'
  go_wp2_with fail
  refine HWD.out.mono ?_
  rintro e w7 ⟨rfl, hD7⟩
  have hB67 : Bl w6 w7 := Bl.dr ((Below.refl _ _).alloc (Nat.le_refl _) _) hD7
  have hrd : Calls Tryd.prog 22 #[.pointer (some ⟨nb, 0, none⟩)] w7 fun e w' => e = .returned (.int .i64 1) ∧ w' = w7 := rounds_any w7 B0 F' nb ⟨31, 4, 1, [], []⟩ _ vtp 1 _ (HN6.out.bl hB67)
  have HRD := hide hrd; have HB67 := hide hB67
  clear hrd hB67 hD7
  go_wp2_with fail
  refine HRD.out.mono ?_
  rintro e w8 ⟨rfl, hw8⟩
  subst hw8
  have hv3 : Calls Tryd.prog 21 #[.pointer (some ⟨nb, 0, none⟩), .int .i64 3] w8 fun e w' => ViewP w8 (sendV 0 4 4 (applyM 31 [] 0 [] (recOut 31 3 1 (rw2 [aw]))) (fun _ => []) 2) e w' := view_any w8 B0 F' nb ⟨31, 4, 1, [], []⟩ _ vtp 1 _ 3 (HN6.out.bl HB67.out) (by decide) (by decide) (by rw [aw_v3]; decide)
  have HV3 := hide hv3; clear hv3
  go_wp2_with fail
  refine HV3.out.mono ?_
  rintro e w9 ⟨hB9, v9, rfl, hO9⟩
  obtain ⟨A9, c9, hv9, _, _⟩ := hO9.slice
  rw [aw_v3] at hv9
  subst hv9
  have hB69 := HB67.out.trans (hB9.mono HB67.out.size)
  have hv1 : Calls Tryd.prog 21 #[.pointer (some ⟨nb, 0, none⟩), .int .i64 1] w9 fun e w' => ViewP w9 (sendV 0 4 4 (applyM 31 [] 0 [] (recOut 31 3 1 (rw2 [aw]))) (fun _ => []) 0) e w' := view_any w9 B0 F' nb ⟨31, 4, 1, [], []⟩ _ vtp 1 _ 1 (HN6.out.bl hB69) (by decide) (by decide) (by rw [aw_v1]; decide)
  have HV1 := hide hv1; have HB69 := hide hB69
  clear hv1 hO9 hB9 hB69
  go_wp2_with fail
  refine HV1.out.mono ?_
  rintro e w10 ⟨hB10, v10, rfl, hO10⟩
  obtain ⟨A10, c10, hv10, _, _⟩ := hO10.slice
  rw [aw_v1] at hv10
  subst hv10
  have hBf : Bl w w10 := HB26.out.trans ((HB69.out.trans (hB10.mono HB69.out.size)).mono HB26.out.size)
  have HBF := hide hBf
  clear hO10 hB10 hBf
  go_wp2_with fail
  go_ret
  exact ⟨rfl, HBF.out⟩
end Pv
