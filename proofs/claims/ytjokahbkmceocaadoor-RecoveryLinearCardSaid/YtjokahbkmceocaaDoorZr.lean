import Derived.Test.YtjokahbkmceocaaDoorZo
import Derived.Test.YtjokahbkmceocaaDoorZa
import Derived.Deep.RegionHeld
import Derived.Test.YtjokahbkmceocaaDoorZq
import Derived.Deep.RegionHeld3
import Derived.Test.YtjokahbkmceocaaDoorZn
set_option linter.unusedVariables false
set_option linter.unusedSimpArgs false
namespace Pv
open Go Go.RowKit Go.Proofs

set_option maxHeartbeats 4000000 in
theorem rcoal_any (p : Nat) (n t : Int) (v : Value) (l : List Int) (S : Nat → Prop) (w : World) (hr : (kS kI).R w S [v] l) :
    Calls Tryd.prog 72 #[.agg #[.int .u64 p, .int .i64 n, .int .i64 t], v] w fun e w' => CoalP p n t l w e w' := by
  have hB : Bl w (w.alloc (.cells #[.int .u64 p, .int .i64 n, .int .i64 t] 24)) := (Below.refl _ _).alloc (Nat.le_refl _) _
  have hvd := rvalid_any p n t (w.alloc (.cells #[.int .u64 p, .int .i64 n, .int .i64 t] 24))
  have hlow := (kS kI).low hr
  obtain ⟨A, c, rfl, ⟨hn2, hc2⟩, hc⟩ := rdI hlow
  have HC := hide hc; clear hc hr hlow
  have HB := hide hB; clear hB
  have HVD := hide hvd; clear hvd
  obtain ⟨N, hN⟩ : ∃ N, N = l.length := ⟨_, rfl⟩
  rw [← hN] at hn2 HC ⊢
  have HN := hide hN; clear hN
  cases hv : vP p n t with
  | false =>
    rw [hv] at HVD
    go_enter Tryd.func72, Tryd.ntmps72
    go_wp2_with fail
    refine HVD.out.mono ?_
    rintro e w2 ⟨rfl, hB2⟩
    go_wp2_with fail
    go_ret
    exact ⟨Bl.then HB.out HB.out.size hB2, false, rfl, iff_of_false (by simp) fun h => by rw [hv] at h; simp at h⟩
  | true =>
    rw [hv] at HVD
    by_cases hlt : (N : Int) ≤ t
    · go_enter Tryd.func72, Tryd.ntmps72
      go_wp2_with fail
      refine HVD.out.mono ?_
      rintro e w2 ⟨rfl, hB2⟩
      have c1 : w2.cell? ⟨w.heap.size, 1, none⟩ = some (.int .i64 n) := cell_bl hB2 (by rw [World.cell?_alloc_at _ _ _ _ rfl]; rfl)
      have c2 : w2.cell? ⟨w.heap.size, 2, none⟩ = some (.int .i64 t) := cell_bl hB2 (by rw [World.cell?_alloc_at _ _ _ _ rfl]; rfl)
      have HB2 := hide (Bl.then HB.out HB.out.size hB2); clear hB2
      go_wp2_with fail
      go_loopw [5] (fun i wr => Dr w2 wr ∧ ∃ k : Nat, k ≤ N ∧ i = .int .i64 k ∧ ∀ i, i < k → 1 ≤ l.getD i 0 ∧ l.getD i 0 ≤ n ∧ (0 < i → l.getD (i - 1) 0 < l.getD i 0)) (fun i _ => N - (intOf i).toNat)
      case atStart => exact ⟨Dr.refl _, 0, by omega, rfl, fun i h => by omega⟩
      case round =>
        obtain ⟨hD, k, hk, rfl, hz⟩ := hrel
        have HZ := hide hz; clear hz
        rw [← hD.cell] at c1 c2
        have HD := hide hD; clear hD
        by_cases hkN : k < N
        · obtain ⟨ad, rfl, hlo, hcell⟩ := HC.out k hkN
          have hcell := (HD.out.cell _).trans (cell_bl HB2.out hcell)
          have hki : (k : Int) < (N : Int) := by omega
          have hk0 : (0 : Int) ≤ (k : Int) := by omega
          obtain ⟨x, hx⟩ : ∃ x, x = l.getD k 0 := ⟨_, rfl⟩
          rw [← hx] at hcell
          have HX := hide hx; clear hx
          by_cases h1 : x < 1
          · have hno : ¬ CoalOK n l := fun h => by have := (h k (by rw [← HN.out]; exact hkN)).1; rw [← HX.out] at this; omega
            have HNO := hide hno; clear hno
            go_wp2_with fail
            refine wp_region_held_drew (S := fun w' => w'.cell? (ad.add k) = some (.int .i64 x) ∧ w'.cell? ⟨w.heap.size, 1, none⟩ = some (.int .i64 n) ∧ w'.cell? ⟨w.heap.size, 2, none⟩ = some (.int .i64 t)) (by kernel_rfl) ⟨hcell, c1, c2⟩ (fun hHeld => ?_)
            refine wpAnyH_take (i := 0) (oi := { dst := some 22, op := Go.Op.move (Go.Operand.tmp 1), type := 25, pos := _, after := _, guard := none }) (v := ?_) rfl (by kernel_rfl) (by kernel_rfl) (by kernel_rfl) (fun _ _ _ h => h) ?_ (by assumption) ?_
            rotate_left
            · first | (refine Or.inl ⟨by rfl, ?_⟩; intro w hSw; (try dsimp only at hSw); go_simp; (try (with_reducible rfl)); done) | (refine Or.inr ⟨by rfl, ?_⟩; with_reducible rfl)
            try simp only [Act.put, List.setIfInBounds_toArray, List.set_cons_zero, List.set_cons_succ]
            refine wpAnyH_take (i := 1) (oi := { dst := some 23, op := Go.Op.move (Go.Operand.tmp 5), type := 3, pos := _, after := _, guard := none }) (v := ?_) rfl (by kernel_rfl) (by kernel_rfl) (by kernel_rfl) (fun _ _ _ h => h) ?_ (by assumption) ?_
            rotate_left
            · first | (refine Or.inl ⟨by rfl, ?_⟩; intro w hSw; (try dsimp only at hSw); go_simp; (try (with_reducible rfl)); done) | (refine Or.inr ⟨by rfl, ?_⟩; with_reducible rfl)
            try simp only [Act.put, List.setIfInBounds_toArray, List.set_cons_zero, List.set_cons_succ]
            refine wpAnyH_take (i := 2) (oi := { dst := some 24, op := Go.Op.indexAddr 25 (Go.Operand.tmp 22) (Go.Operand.tmp 23), type := 0, pos := _, after := _, guard := none }) (v := ?_) rfl (by kernel_rfl) (by kernel_rfl) (by kernel_rfl) (fun _ _ _ h => h) ?_ (by assumption) ?_
            rotate_left
            · first | (refine Or.inl ⟨by rfl, ?_⟩; intro w hSw; (try dsimp only at hSw); go_simp; (try (with_reducible rfl)); done) | (refine Or.inr ⟨by rfl, ?_⟩; with_reducible rfl)
            try simp only [Act.put, List.setIfInBounds_toArray, List.set_cons_zero, List.set_cons_succ]
            refine wpAnyH_take (i := 3) (oi := { dst := some 25, op := Go.Op.load 3 (Go.Operand.tmp 24), type := 3, pos := _, after := _, guard := none }) (v := ?_) rfl (by kernel_rfl) (by kernel_rfl) (by kernel_rfl) (fun _ _ _ h => h) ?_ (by assumption) ?_
            rotate_left
            · first | (refine Or.inl ⟨by rfl, ?_⟩; intro w hSw; (try dsimp only at hSw); go_simp; (try (with_reducible rfl)); done) | (refine Or.inr ⟨by rfl, ?_⟩; with_reducible rfl)
            try simp only [Act.put, List.setIfInBounds_toArray, List.set_cons_zero, List.set_cons_succ]
            refine wpAnyH_take (i := 4) (oi := { dst := some 26, op := Go.Op.binOp Go.BinOp.lss 3 (Go.Operand.tmp 25) (Go.Operand.const (Go.Value.int Go.IntKind.i64 1)) 3, type := 4, pos := _, after := _, guard := none }) (v := ?_) rfl (by kernel_rfl) (by kernel_rfl) (by kernel_rfl) (fun _ _ _ h => h) ?_ (by assumption) ?_
            rotate_left
            · first | (refine Or.inl ⟨by rfl, ?_⟩; intro w hSw; (try dsimp only at hSw); go_simp; (try (with_reducible rfl)); done) | (refine Or.inr ⟨by rfl, ?_⟩; with_reducible rfl)
            try simp only [Act.put, List.setIfInBounds_toArray, List.set_cons_zero, List.set_cons_succ]
            refine wpAnyH_take (i := 5) (oi := { dst := some 27, op := Go.Op.move (Go.Operand.tmp 26), type := 4, pos := _, after := _, guard := none }) (v := ?_) rfl (by kernel_rfl) (by kernel_rfl) (by kernel_rfl) (fun _ _ _ h => h) ?_ (by assumption) ?_
            rotate_left
            · first | (refine Or.inl ⟨by rfl, ?_⟩; intro w hSw; (try dsimp only at hSw); go_simp; (try (with_reducible rfl)); done) | (refine Or.inr ⟨by rfl, ?_⟩; with_reducible rfl)
            try simp only [Act.put, List.setIfInBounds_toArray, List.set_cons_zero, List.set_cons_succ]
            refine wpAnyH_take (i := 6) (oi := { dst := some 28, op := Go.Op.move (Go.Operand.tmp 1), type := 25, pos := _, after := _, guard := some (5, false) }) (v := ?_) rfl (by kernel_rfl) (by kernel_rfl) (by kernel_rfl) (fun _ _ _ h => h) ?_ (by assumption) ?_
            rotate_left
            · first | (refine Or.inl ⟨by rfl, ?_⟩; intro w hSw; (try dsimp only at hSw); go_simp; (try (with_reducible rfl)); done) | (refine Or.inr ⟨by rfl, ?_⟩; with_reducible rfl)
            try simp only [Act.put, List.setIfInBounds_toArray, List.set_cons_zero, List.set_cons_succ]
            refine wpAnyH_take (i := 7) (oi := { dst := some 29, op := Go.Op.move (Go.Operand.tmp 5), type := 3, pos := _, after := _, guard := some (5, false) }) (v := ?_) rfl (by kernel_rfl) (by kernel_rfl) (by kernel_rfl) (fun _ _ _ h => h) ?_ (by assumption) ?_
            rotate_left
            · first | (refine Or.inl ⟨by rfl, ?_⟩; intro w hSw; (try dsimp only at hSw); go_simp; (try (with_reducible rfl)); done) | (refine Or.inr ⟨by rfl, ?_⟩; with_reducible rfl)
            try simp only [Act.put, List.setIfInBounds_toArray, List.set_cons_zero, List.set_cons_succ]
            refine wpAnyH_take (i := 8) (oi := { dst := some 30, op := Go.Op.indexAddr 25 (Go.Operand.tmp 28) (Go.Operand.tmp 29), type := 0, pos := _, after := _, guard := some (5, false) }) (v := ?_) rfl (by kernel_rfl) (by kernel_rfl) (by kernel_rfl) (fun _ _ _ h => h) ?_ (by assumption) ?_
            rotate_left
            · first | (refine Or.inl ⟨by rfl, ?_⟩; intro w hSw; (try dsimp only at hSw); go_simp; (try (with_reducible rfl)); done) | (refine Or.inr ⟨by rfl, ?_⟩; with_reducible rfl)
            try simp only [Act.put, List.setIfInBounds_toArray, List.set_cons_zero, List.set_cons_succ]
            refine wpAnyH_take (i := 9) (oi := { dst := some 31, op := Go.Op.load 3 (Go.Operand.tmp 30), type := 3, pos := _, after := _, guard := some (5, false) }) (v := ?_) rfl (by kernel_rfl) (by kernel_rfl) (by kernel_rfl) (fun _ _ _ h => h) ?_ (by assumption) ?_
            rotate_left
            · first | (refine Or.inl ⟨by rfl, ?_⟩; intro w hSw; (try dsimp only at hSw); go_simp; (try (with_reducible rfl)); done) | (refine Or.inr ⟨by rfl, ?_⟩; with_reducible rfl)
            try simp only [Act.put, List.setIfInBounds_toArray, List.set_cons_zero, List.set_cons_succ]
            refine wpAnyH_take (i := 10) (oi := { dst := some 32, op := Go.Op.fieldAddr 24 (Go.Operand.tmp 2) 1, type := 0, pos := _, after := _, guard := some (5, false) }) (v := ?_) rfl (by kernel_rfl) (by kernel_rfl) (by kernel_rfl) (fun _ _ _ h => h) ?_ (by assumption) ?_
            rotate_left
            · first | (refine Or.inl ⟨by rfl, ?_⟩; intro w hSw; (try dsimp only at hSw); go_simp; (try (with_reducible rfl)); done) | (refine Or.inr ⟨by rfl, ?_⟩; with_reducible rfl)
            try simp only [Act.put, List.setIfInBounds_toArray, List.set_cons_zero, List.set_cons_succ]
            refine wpAnyH_take (i := 11) (oi := { dst := some 33, op := Go.Op.load 3 (Go.Operand.tmp 32), type := 3, pos := _, after := _, guard := some (5, false) }) (v := ?_) rfl (by kernel_rfl) (by kernel_rfl) (by kernel_rfl) (fun _ _ _ h => h) ?_ (by assumption) ?_
            rotate_left
            · first | (refine Or.inl ⟨by rfl, ?_⟩; intro w hSw; (try dsimp only at hSw); go_simp; (try (with_reducible rfl)); done) | (refine Or.inr ⟨by rfl, ?_⟩; with_reducible rfl)
            try simp only [Act.put, List.setIfInBounds_toArray, List.set_cons_zero, List.set_cons_succ]
            refine wpAnyH_take (i := 12) (oi := { dst := some 34, op := Go.Op.binOp Go.BinOp.gtr 3 (Go.Operand.tmp 31) (Go.Operand.tmp 33) 3, type := 4, pos := _, after := _, guard := some (5, false) }) (v := ?_) rfl (by kernel_rfl) (by kernel_rfl) (by kernel_rfl) (fun _ _ _ h => h) ?_ (by assumption) ?_
            rotate_left
            · first | (refine Or.inl ⟨by rfl, ?_⟩; intro w hSw; (try dsimp only at hSw); go_simp; (try (with_reducible rfl)); done) | (refine Or.inr ⟨by rfl, ?_⟩; with_reducible rfl)
            try simp only [Act.put, List.setIfInBounds_toArray, List.set_cons_zero, List.set_cons_succ]
            refine wpAnyH_take (i := 13) (oi := { dst := some 35, op := Go.Op.pick (Go.Operand.tmp 27) (Go.Operand.const (Go.Value.bool true)) (Go.Operand.tmp 34), type := 4, pos := _, after := _, guard := none }) (v := ?_) rfl (by kernel_rfl) (by kernel_rfl) (by kernel_rfl) (fun _ _ _ h => h) ?_ (by assumption) ?_
            rotate_left
            · first | (refine Or.inl ⟨by rfl, ?_⟩; intro w hSw; (try dsimp only at hSw); go_simp; (try (with_reducible rfl)); done) | (refine Or.inr ⟨by rfl, ?_⟩; with_reducible rfl)
            try simp only [Act.put, List.setIfInBounds_toArray, List.set_cons_zero, List.set_cons_succ]
            refine wpAnyH_take (i := 14) (oi := { dst := some 36, op := Go.Op.move (Go.Operand.tmp 35), type := 4, pos := _, after := _, guard := none }) (v := ?_) rfl (by kernel_rfl) (by kernel_rfl) (by kernel_rfl) (fun _ _ _ h => h) ?_ (by assumption) ?_
            rotate_left
            · first | (refine Or.inl ⟨by rfl, ?_⟩; intro w hSw; (try dsimp only at hSw); go_simp; (try (with_reducible rfl)); done) | (refine Or.inr ⟨by rfl, ?_⟩; with_reducible rfl)
            try simp only [Act.put, List.setIfInBounds_toArray, List.set_cons_zero, List.set_cons_succ]
            refine wpAnyH_take (i := 15) (oi := { dst := some 37, op := Go.Op.move (Go.Operand.tmp 5), type := 3, pos := _, after := _, guard := some (14, false) }) (v := ?_) rfl (by kernel_rfl) (by kernel_rfl) (by kernel_rfl) (fun _ _ _ h => h) ?_ (by assumption) ?_
            rotate_left
            · first | (refine Or.inl ⟨by rfl, ?_⟩; intro w hSw; (try dsimp only at hSw); go_simp; (try (with_reducible rfl)); done) | (refine Or.inr ⟨by rfl, ?_⟩; with_reducible rfl)
            try simp only [Act.put, List.setIfInBounds_toArray, List.set_cons_zero, List.set_cons_succ]
            refine wpAnyH_take (i := 16) (oi := { dst := some 38, op := Go.Op.binOp Go.BinOp.gtr 3 (Go.Operand.tmp 37) (Go.Operand.const (Go.Value.int Go.IntKind.i64 0)) 3, type := 4, pos := _, after := _, guard := some (14, false) }) (v := ?_) rfl (by kernel_rfl) (by kernel_rfl) (by kernel_rfl) (fun _ _ _ h => h) ?_ (by assumption) ?_
            rotate_left
            · first | (refine Or.inl ⟨by rfl, ?_⟩; intro w hSw; (try dsimp only at hSw); go_simp; (try (with_reducible rfl)); done) | (refine Or.inr ⟨by rfl, ?_⟩; with_reducible rfl)
            try simp only [Act.put, List.setIfInBounds_toArray, List.set_cons_zero, List.set_cons_succ]
            refine wpAnyH_take (i := 17) (oi := { dst := some 39, op := Go.Op.move (Go.Operand.tmp 38), type := 4, pos := _, after := _, guard := some (14, false) }) (v := ?_) rfl (by kernel_rfl) (by kernel_rfl) (by kernel_rfl) (fun _ _ _ h => h) ?_ (by assumption) ?_
            rotate_left
            · first | (refine Or.inl ⟨by rfl, ?_⟩; intro w hSw; (try dsimp only at hSw); go_simp; (try (with_reducible rfl)); done) | (refine Or.inr ⟨by rfl, ?_⟩; with_reducible rfl)
            try simp only [Act.put, List.setIfInBounds_toArray, List.set_cons_zero, List.set_cons_succ]
            refine wpAnyH_take (i := 18) (oi := { dst := some 40, op := Go.Op.move (Go.Operand.tmp 1), type := 25, pos := _, after := _, guard := some (17, true) }) (v := ?_) rfl (by kernel_rfl) (by kernel_rfl) (by kernel_rfl) (fun _ _ _ h => h) ?_ (by assumption) ?_
            rotate_left
            · first | (refine Or.inl ⟨by rfl, ?_⟩; intro w hSw; (try dsimp only at hSw); go_simp; (try (with_reducible rfl)); done) | (refine Or.inr ⟨by rfl, ?_⟩; with_reducible rfl)
            try simp only [Act.put, List.setIfInBounds_toArray, List.set_cons_zero, List.set_cons_succ]
            refine wpAnyH_take (i := 19) (oi := { dst := some 41, op := Go.Op.move (Go.Operand.tmp 5), type := 3, pos := _, after := _, guard := some (17, true) }) (v := ?_) rfl (by kernel_rfl) (by kernel_rfl) (by kernel_rfl) (fun _ _ _ h => h) ?_ (by assumption) ?_
            rotate_left
            · first | (refine Or.inl ⟨by rfl, ?_⟩; intro w hSw; (try dsimp only at hSw); go_simp; (try (with_reducible rfl)); done) | (refine Or.inr ⟨by rfl, ?_⟩; with_reducible rfl)
            try simp only [Act.put, List.setIfInBounds_toArray, List.set_cons_zero, List.set_cons_succ]
            refine wpAnyH_take (i := 20) (oi := { dst := some 42, op := Go.Op.indexAddr 25 (Go.Operand.tmp 40) (Go.Operand.tmp 41), type := 0, pos := _, after := _, guard := some (17, true) }) (v := ?_) rfl (by kernel_rfl) (by kernel_rfl) (by kernel_rfl) (fun _ _ _ h => h) ?_ (by assumption) ?_
            rotate_left
            · first | (refine Or.inl ⟨by rfl, ?_⟩; intro w hSw; (try dsimp only at hSw); go_simp; (try (with_reducible rfl)); done) | (refine Or.inr ⟨by rfl, ?_⟩; with_reducible rfl)
            try simp only [Act.put, List.setIfInBounds_toArray, List.set_cons_zero, List.set_cons_succ]
            refine wpAnyH_take (i := 21) (oi := { dst := some 43, op := Go.Op.load 3 (Go.Operand.tmp 42), type := 3, pos := _, after := _, guard := some (17, true) }) (v := ?_) rfl (by kernel_rfl) (by kernel_rfl) (by kernel_rfl) (fun _ _ _ h => h) ?_ (by assumption) ?_
            rotate_left
            · first | (refine Or.inl ⟨by rfl, ?_⟩; intro w hSw; (try dsimp only at hSw); go_simp; (try (with_reducible rfl)); done) | (refine Or.inr ⟨by rfl, ?_⟩; with_reducible rfl)
            try simp only [Act.put, List.setIfInBounds_toArray, List.set_cons_zero, List.set_cons_succ]
            refine wpAnyH_take (i := 22) (oi := { dst := some 44, op := Go.Op.move (Go.Operand.tmp 1), type := 25, pos := _, after := _, guard := some (17, true) }) (v := ?_) rfl (by kernel_rfl) (by kernel_rfl) (by kernel_rfl) (fun _ _ _ h => h) ?_ (by assumption) ?_
            rotate_left
            · first | (refine Or.inl ⟨by rfl, ?_⟩; intro w hSw; (try dsimp only at hSw); go_simp; (try (with_reducible rfl)); done) | (refine Or.inr ⟨by rfl, ?_⟩; with_reducible rfl)
            try simp only [Act.put, List.setIfInBounds_toArray, List.set_cons_zero, List.set_cons_succ]
            refine wpAnyH_take (i := 23) (oi := { dst := some 45, op := Go.Op.move (Go.Operand.tmp 5), type := 3, pos := _, after := _, guard := some (17, true) }) (v := ?_) rfl (by kernel_rfl) (by kernel_rfl) (by kernel_rfl) (fun _ _ _ h => h) ?_ (by assumption) ?_
            rotate_left
            · first | (refine Or.inl ⟨by rfl, ?_⟩; intro w hSw; (try dsimp only at hSw); go_simp; (try (with_reducible rfl)); done) | (refine Or.inr ⟨by rfl, ?_⟩; with_reducible rfl)
            try simp only [Act.put, List.setIfInBounds_toArray, List.set_cons_zero, List.set_cons_succ]
            refine wpAnyH_take (i := 24) (oi := { dst := some 46, op := Go.Op.binOp Go.BinOp.sub 3 (Go.Operand.tmp 45) (Go.Operand.const (Go.Value.int Go.IntKind.i64 1)) 3, type := 3, pos := _, after := _, guard := some (17, true) }) (v := ?_) rfl (by kernel_rfl) (by kernel_rfl) (by kernel_rfl) (fun _ _ _ h => h) ?_ (by assumption) ?_
            rotate_left
            · first | (refine Or.inl ⟨by rfl, ?_⟩; intro w hSw; (try dsimp only at hSw); go_simp; (try (with_reducible rfl)); done) | (refine Or.inr ⟨by rfl, ?_⟩; with_reducible rfl)
            try simp only [Act.put, List.setIfInBounds_toArray, List.set_cons_zero, List.set_cons_succ]
            refine wpAnyH_take (i := 25) (oi := { dst := some 47, op := Go.Op.indexAddr 25 (Go.Operand.tmp 44) (Go.Operand.tmp 46), type := 0, pos := _, after := _, guard := some (17, true) }) (v := ?_) rfl (by kernel_rfl) (by kernel_rfl) (by kernel_rfl) (fun _ _ _ h => h) ?_ (by assumption) ?_
            rotate_left
            · first | (refine Or.inl ⟨by rfl, ?_⟩; intro w hSw; (try dsimp only at hSw); go_simp; (try (with_reducible rfl)); done) | (refine Or.inr ⟨by rfl, ?_⟩; with_reducible rfl)
            try simp only [Act.put, List.setIfInBounds_toArray, List.set_cons_zero, List.set_cons_succ]
            refine wpAnyH_take (i := 26) (oi := { dst := some 48, op := Go.Op.load 3 (Go.Operand.tmp 47), type := 3, pos := _, after := _, guard := some (17, true) }) (v := ?_) rfl (by kernel_rfl) (by kernel_rfl) (by kernel_rfl) (fun _ _ _ h => h) ?_ (by assumption) ?_
            rotate_left
            · first | (refine Or.inl ⟨by rfl, ?_⟩; intro w hSw; (try dsimp only at hSw); go_simp; (try (with_reducible rfl)); done) | (refine Or.inr ⟨by rfl, ?_⟩; with_reducible rfl)
            try simp only [Act.put, List.setIfInBounds_toArray, List.set_cons_zero, List.set_cons_succ]
            refine wpAnyH_take (i := 27) (oi := { dst := some 49, op := Go.Op.binOp Go.BinOp.leq 3 (Go.Operand.tmp 43) (Go.Operand.tmp 48) 3, type := 4, pos := _, after := _, guard := some (17, true) }) (v := ?_) rfl (by kernel_rfl) (by kernel_rfl) (by kernel_rfl) (fun _ _ _ h => h) ?_ (by assumption) ?_
            rotate_left
            · first | (refine Or.inl ⟨by rfl, ?_⟩; intro w hSw; (try dsimp only at hSw); go_simp; (try (with_reducible rfl)); done) | (refine Or.inr ⟨by rfl, ?_⟩; with_reducible rfl)
            try simp only [Act.put, List.setIfInBounds_toArray, List.set_cons_zero, List.set_cons_succ]
            refine wpAnyH_take (i := 28) (oi := { dst := some 50, op := Go.Op.pick (Go.Operand.tmp 39) (Go.Operand.tmp 49) (Go.Operand.const (Go.Value.bool false)), type := 4, pos := _, after := _, guard := some (14, false) }) (v := ?_) rfl (by kernel_rfl) (by kernel_rfl) (by kernel_rfl) (fun _ _ _ h => h) ?_ (by assumption) ?_
            rotate_left
            · first | (refine Or.inl ⟨by rfl, ?_⟩; intro w hSw; (try dsimp only at hSw); go_simp; (try (with_reducible rfl)); done) | (refine Or.inr ⟨by rfl, ?_⟩; with_reducible rfl)
            try simp only [Act.put, List.setIfInBounds_toArray, List.set_cons_zero, List.set_cons_succ]
            refine wpAnyH_take (i := 29) (oi := { dst := some 51, op := Go.Op.pick (Go.Operand.tmp 36) (Go.Operand.const (Go.Value.bool true)) (Go.Operand.tmp 50), type := 4, pos := _, after := _, guard := none }) (v := ?_) rfl (by kernel_rfl) (by kernel_rfl) (by kernel_rfl) (fun _ _ _ h => h) ?_ (by assumption) ?_
            rotate_left
            · first | (refine Or.inl ⟨by rfl, ?_⟩; intro w hSw; (try dsimp only at hSw); go_simp; (try (with_reducible rfl)); done) | (refine Or.inr ⟨by rfl, ?_⟩; with_reducible rfl)
            try simp only [Act.put, List.setIfInBounds_toArray, List.set_cons_zero, List.set_cons_succ]
            refine wpAnyH_done (by kernel_rfl) ?_ _
            go_wp2_with fail
            go_ret
            exact ⟨Bl.dr HB2.out (by first | exact HD.out.more _ | exact HD.out.one | exact HD.out), false, rfl, iff_of_false (by simp) fun h => HNO.out h.2.2⟩
          · have hb1 : decide (x < 1) = false := decide_eq_false h1
            by_cases h2 : n < x
            · have hno : ¬ CoalOK n l := fun h => by have := (h k (by rw [← HN.out]; exact hkN)).2.1; rw [← HX.out] at this; omega
              have HNO := hide hno; clear hno
              go_wp2_with fail
              refine wp_region_held_drew (S := fun w' => w'.cell? (ad.add k) = some (.int .i64 x) ∧ w'.cell? ⟨w.heap.size, 1, none⟩ = some (.int .i64 n) ∧ w'.cell? ⟨w.heap.size, 2, none⟩ = some (.int .i64 t)) (by kernel_rfl) ⟨hcell, c1, c2⟩ (fun hHeld => ?_)
              refine wpAnyH_take (i := 0) (oi := { dst := some 22, op := Go.Op.move (Go.Operand.tmp 1), type := 25, pos := _, after := _, guard := none }) (v := ?_) rfl (by kernel_rfl) (by kernel_rfl) (by kernel_rfl) (fun _ _ _ h => h) ?_ (by assumption) ?_
              rotate_left
              · first | (refine Or.inl ⟨by rfl, ?_⟩; intro w hSw; (try dsimp only at hSw); go_simp; (try (with_reducible rfl)); done) | (refine Or.inr ⟨by rfl, ?_⟩; with_reducible rfl)
              try simp only [Act.put, List.setIfInBounds_toArray, List.set_cons_zero, List.set_cons_succ]
              refine wpAnyH_take (i := 1) (oi := { dst := some 23, op := Go.Op.move (Go.Operand.tmp 5), type := 3, pos := _, after := _, guard := none }) (v := ?_) rfl (by kernel_rfl) (by kernel_rfl) (by kernel_rfl) (fun _ _ _ h => h) ?_ (by assumption) ?_
              rotate_left
              · first | (refine Or.inl ⟨by rfl, ?_⟩; intro w hSw; (try dsimp only at hSw); go_simp; (try (with_reducible rfl)); done) | (refine Or.inr ⟨by rfl, ?_⟩; with_reducible rfl)
              try simp only [Act.put, List.setIfInBounds_toArray, List.set_cons_zero, List.set_cons_succ]
              refine wpAnyH_take (i := 2) (oi := { dst := some 24, op := Go.Op.indexAddr 25 (Go.Operand.tmp 22) (Go.Operand.tmp 23), type := 0, pos := _, after := _, guard := none }) (v := ?_) rfl (by kernel_rfl) (by kernel_rfl) (by kernel_rfl) (fun _ _ _ h => h) ?_ (by assumption) ?_
              rotate_left
              · first | (refine Or.inl ⟨by rfl, ?_⟩; intro w hSw; (try dsimp only at hSw); go_simp; (try (with_reducible rfl)); done) | (refine Or.inr ⟨by rfl, ?_⟩; with_reducible rfl)
              try simp only [Act.put, List.setIfInBounds_toArray, List.set_cons_zero, List.set_cons_succ]
              refine wpAnyH_take (i := 3) (oi := { dst := some 25, op := Go.Op.load 3 (Go.Operand.tmp 24), type := 3, pos := _, after := _, guard := none }) (v := ?_) rfl (by kernel_rfl) (by kernel_rfl) (by kernel_rfl) (fun _ _ _ h => h) ?_ (by assumption) ?_
              rotate_left
              · first | (refine Or.inl ⟨by rfl, ?_⟩; intro w hSw; (try dsimp only at hSw); go_simp; (try (with_reducible rfl)); done) | (refine Or.inr ⟨by rfl, ?_⟩; with_reducible rfl)
              try simp only [Act.put, List.setIfInBounds_toArray, List.set_cons_zero, List.set_cons_succ]
              refine wpAnyH_take (i := 4) (oi := { dst := some 26, op := Go.Op.binOp Go.BinOp.lss 3 (Go.Operand.tmp 25) (Go.Operand.const (Go.Value.int Go.IntKind.i64 1)) 3, type := 4, pos := _, after := _, guard := none }) (v := ?_) rfl (by kernel_rfl) (by kernel_rfl) (by kernel_rfl) (fun _ _ _ h => h) ?_ (by assumption) ?_
              rotate_left
              · first | (refine Or.inl ⟨by rfl, ?_⟩; intro w hSw; (try dsimp only at hSw); go_simp; (try (with_reducible rfl)); done) | (refine Or.inr ⟨by rfl, ?_⟩; with_reducible rfl)
              try simp only [Act.put, List.setIfInBounds_toArray, List.set_cons_zero, List.set_cons_succ]
              refine wpAnyH_take (i := 5) (oi := { dst := some 27, op := Go.Op.move (Go.Operand.tmp 26), type := 4, pos := _, after := _, guard := none }) (v := ?_) rfl (by kernel_rfl) (by kernel_rfl) (by kernel_rfl) (fun _ _ _ h => h) ?_ (by assumption) ?_
              rotate_left
              · first | (refine Or.inl ⟨by rfl, ?_⟩; intro w hSw; (try dsimp only at hSw); go_simp; (try (with_reducible rfl)); done) | (refine Or.inr ⟨by rfl, ?_⟩; with_reducible rfl)
              try simp only [Act.put, List.setIfInBounds_toArray, List.set_cons_zero, List.set_cons_succ]
              refine wpAnyH_take (i := 6) (oi := { dst := some 28, op := Go.Op.move (Go.Operand.tmp 1), type := 25, pos := _, after := _, guard := some (5, false) }) (v := ?_) rfl (by kernel_rfl) (by kernel_rfl) (by kernel_rfl) (fun _ _ _ h => h) ?_ (by assumption) ?_
              rotate_left
              · first | (refine Or.inl ⟨by rfl, ?_⟩; intro w hSw; (try dsimp only at hSw); go_simp; (try (with_reducible rfl)); done) | (refine Or.inr ⟨by rfl, ?_⟩; with_reducible rfl)
              try simp only [Act.put, List.setIfInBounds_toArray, List.set_cons_zero, List.set_cons_succ]
              refine wpAnyH_take (i := 7) (oi := { dst := some 29, op := Go.Op.move (Go.Operand.tmp 5), type := 3, pos := _, after := _, guard := some (5, false) }) (v := ?_) rfl (by kernel_rfl) (by kernel_rfl) (by kernel_rfl) (fun _ _ _ h => h) ?_ (by assumption) ?_
              rotate_left
              · first | (refine Or.inl ⟨by rfl, ?_⟩; intro w hSw; (try dsimp only at hSw); go_simp; (try (with_reducible rfl)); done) | (refine Or.inr ⟨by rfl, ?_⟩; with_reducible rfl)
              try simp only [Act.put, List.setIfInBounds_toArray, List.set_cons_zero, List.set_cons_succ]
              refine wpAnyH_take (i := 8) (oi := { dst := some 30, op := Go.Op.indexAddr 25 (Go.Operand.tmp 28) (Go.Operand.tmp 29), type := 0, pos := _, after := _, guard := some (5, false) }) (v := ?_) rfl (by kernel_rfl) (by kernel_rfl) (by kernel_rfl) (fun _ _ _ h => h) ?_ (by assumption) ?_
              rotate_left
              · first | (refine Or.inl ⟨by rfl, ?_⟩; intro w hSw; (try dsimp only at hSw); go_simp; (try (with_reducible rfl)); done) | (refine Or.inr ⟨by rfl, ?_⟩; with_reducible rfl)
              try simp only [Act.put, List.setIfInBounds_toArray, List.set_cons_zero, List.set_cons_succ]
              refine wpAnyH_take (i := 9) (oi := { dst := some 31, op := Go.Op.load 3 (Go.Operand.tmp 30), type := 3, pos := _, after := _, guard := some (5, false) }) (v := ?_) rfl (by kernel_rfl) (by kernel_rfl) (by kernel_rfl) (fun _ _ _ h => h) ?_ (by assumption) ?_
              rotate_left
              · first | (refine Or.inl ⟨by rfl, ?_⟩; intro w hSw; (try dsimp only at hSw); go_simp; (try (with_reducible rfl)); done) | (refine Or.inr ⟨by rfl, ?_⟩; with_reducible rfl)
              try simp only [Act.put, List.setIfInBounds_toArray, List.set_cons_zero, List.set_cons_succ]
              refine wpAnyH_take (i := 10) (oi := { dst := some 32, op := Go.Op.fieldAddr 24 (Go.Operand.tmp 2) 1, type := 0, pos := _, after := _, guard := some (5, false) }) (v := ?_) rfl (by kernel_rfl) (by kernel_rfl) (by kernel_rfl) (fun _ _ _ h => h) ?_ (by assumption) ?_
              rotate_left
              · first | (refine Or.inl ⟨by rfl, ?_⟩; intro w hSw; (try dsimp only at hSw); go_simp; (try (with_reducible rfl)); done) | (refine Or.inr ⟨by rfl, ?_⟩; with_reducible rfl)
              try simp only [Act.put, List.setIfInBounds_toArray, List.set_cons_zero, List.set_cons_succ]
              refine wpAnyH_take (i := 11) (oi := { dst := some 33, op := Go.Op.load 3 (Go.Operand.tmp 32), type := 3, pos := _, after := _, guard := some (5, false) }) (v := ?_) rfl (by kernel_rfl) (by kernel_rfl) (by kernel_rfl) (fun _ _ _ h => h) ?_ (by assumption) ?_
              rotate_left
              · first | (refine Or.inl ⟨by rfl, ?_⟩; intro w hSw; (try dsimp only at hSw); go_simp; (try (with_reducible rfl)); done) | (refine Or.inr ⟨by rfl, ?_⟩; with_reducible rfl)
              try simp only [Act.put, List.setIfInBounds_toArray, List.set_cons_zero, List.set_cons_succ]
              refine wpAnyH_take (i := 12) (oi := { dst := some 34, op := Go.Op.binOp Go.BinOp.gtr 3 (Go.Operand.tmp 31) (Go.Operand.tmp 33) 3, type := 4, pos := _, after := _, guard := some (5, false) }) (v := ?_) rfl (by kernel_rfl) (by kernel_rfl) (by kernel_rfl) (fun _ _ _ h => h) ?_ (by assumption) ?_
              rotate_left
              · first | (refine Or.inl ⟨by rfl, ?_⟩; intro w hSw; (try dsimp only at hSw); go_simp; (try (with_reducible rfl)); done) | (refine Or.inr ⟨by rfl, ?_⟩; with_reducible rfl)
              try simp only [Act.put, List.setIfInBounds_toArray, List.set_cons_zero, List.set_cons_succ]
              refine wpAnyH_take (i := 13) (oi := { dst := some 35, op := Go.Op.pick (Go.Operand.tmp 27) (Go.Operand.const (Go.Value.bool true)) (Go.Operand.tmp 34), type := 4, pos := _, after := _, guard := none }) (v := ?_) rfl (by kernel_rfl) (by kernel_rfl) (by kernel_rfl) (fun _ _ _ h => h) ?_ (by assumption) ?_
              rotate_left
              · first | (refine Or.inl ⟨by rfl, ?_⟩; intro w hSw; (try dsimp only at hSw); go_simp; (try (with_reducible rfl)); done) | (refine Or.inr ⟨by rfl, ?_⟩; with_reducible rfl)
              try simp only [Act.put, List.setIfInBounds_toArray, List.set_cons_zero, List.set_cons_succ]
              refine wpAnyH_take (i := 14) (oi := { dst := some 36, op := Go.Op.move (Go.Operand.tmp 35), type := 4, pos := _, after := _, guard := none }) (v := ?_) rfl (by kernel_rfl) (by kernel_rfl) (by kernel_rfl) (fun _ _ _ h => h) ?_ (by assumption) ?_
              rotate_left
              · first | (refine Or.inl ⟨by rfl, ?_⟩; intro w hSw; (try dsimp only at hSw); go_simp; (try (with_reducible rfl)); done) | (refine Or.inr ⟨by rfl, ?_⟩; with_reducible rfl)
              try simp only [Act.put, List.setIfInBounds_toArray, List.set_cons_zero, List.set_cons_succ]
              refine wpAnyH_take (i := 15) (oi := { dst := some 37, op := Go.Op.move (Go.Operand.tmp 5), type := 3, pos := _, after := _, guard := some (14, false) }) (v := ?_) rfl (by kernel_rfl) (by kernel_rfl) (by kernel_rfl) (fun _ _ _ h => h) ?_ (by assumption) ?_
              rotate_left
              · first | (refine Or.inl ⟨by rfl, ?_⟩; intro w hSw; (try dsimp only at hSw); go_simp; (try (with_reducible rfl)); done) | (refine Or.inr ⟨by rfl, ?_⟩; with_reducible rfl)
              try simp only [Act.put, List.setIfInBounds_toArray, List.set_cons_zero, List.set_cons_succ]
              refine wpAnyH_take (i := 16) (oi := { dst := some 38, op := Go.Op.binOp Go.BinOp.gtr 3 (Go.Operand.tmp 37) (Go.Operand.const (Go.Value.int Go.IntKind.i64 0)) 3, type := 4, pos := _, after := _, guard := some (14, false) }) (v := ?_) rfl (by kernel_rfl) (by kernel_rfl) (by kernel_rfl) (fun _ _ _ h => h) ?_ (by assumption) ?_
              rotate_left
              · first | (refine Or.inl ⟨by rfl, ?_⟩; intro w hSw; (try dsimp only at hSw); go_simp; (try (with_reducible rfl)); done) | (refine Or.inr ⟨by rfl, ?_⟩; with_reducible rfl)
              try simp only [Act.put, List.setIfInBounds_toArray, List.set_cons_zero, List.set_cons_succ]
              refine wpAnyH_take (i := 17) (oi := { dst := some 39, op := Go.Op.move (Go.Operand.tmp 38), type := 4, pos := _, after := _, guard := some (14, false) }) (v := ?_) rfl (by kernel_rfl) (by kernel_rfl) (by kernel_rfl) (fun _ _ _ h => h) ?_ (by assumption) ?_
              rotate_left
              · first | (refine Or.inl ⟨by rfl, ?_⟩; intro w hSw; (try dsimp only at hSw); go_simp; (try (with_reducible rfl)); done) | (refine Or.inr ⟨by rfl, ?_⟩; with_reducible rfl)
              try simp only [Act.put, List.setIfInBounds_toArray, List.set_cons_zero, List.set_cons_succ]
              refine wpAnyH_take (i := 18) (oi := { dst := some 40, op := Go.Op.move (Go.Operand.tmp 1), type := 25, pos := _, after := _, guard := some (17, true) }) (v := ?_) rfl (by kernel_rfl) (by kernel_rfl) (by kernel_rfl) (fun _ _ _ h => h) ?_ (by assumption) ?_
              rotate_left
              · first | (refine Or.inl ⟨by rfl, ?_⟩; intro w hSw; (try dsimp only at hSw); go_simp; (try (with_reducible rfl)); done) | (refine Or.inr ⟨by rfl, ?_⟩; with_reducible rfl)
              try simp only [Act.put, List.setIfInBounds_toArray, List.set_cons_zero, List.set_cons_succ]
              refine wpAnyH_take (i := 19) (oi := { dst := some 41, op := Go.Op.move (Go.Operand.tmp 5), type := 3, pos := _, after := _, guard := some (17, true) }) (v := ?_) rfl (by kernel_rfl) (by kernel_rfl) (by kernel_rfl) (fun _ _ _ h => h) ?_ (by assumption) ?_
              rotate_left
              · first | (refine Or.inl ⟨by rfl, ?_⟩; intro w hSw; (try dsimp only at hSw); go_simp; (try (with_reducible rfl)); done) | (refine Or.inr ⟨by rfl, ?_⟩; with_reducible rfl)
              try simp only [Act.put, List.setIfInBounds_toArray, List.set_cons_zero, List.set_cons_succ]
              refine wpAnyH_take (i := 20) (oi := { dst := some 42, op := Go.Op.indexAddr 25 (Go.Operand.tmp 40) (Go.Operand.tmp 41), type := 0, pos := _, after := _, guard := some (17, true) }) (v := ?_) rfl (by kernel_rfl) (by kernel_rfl) (by kernel_rfl) (fun _ _ _ h => h) ?_ (by assumption) ?_
              rotate_left
              · first | (refine Or.inl ⟨by rfl, ?_⟩; intro w hSw; (try dsimp only at hSw); go_simp; (try (with_reducible rfl)); done) | (refine Or.inr ⟨by rfl, ?_⟩; with_reducible rfl)
              try simp only [Act.put, List.setIfInBounds_toArray, List.set_cons_zero, List.set_cons_succ]
              refine wpAnyH_take (i := 21) (oi := { dst := some 43, op := Go.Op.load 3 (Go.Operand.tmp 42), type := 3, pos := _, after := _, guard := some (17, true) }) (v := ?_) rfl (by kernel_rfl) (by kernel_rfl) (by kernel_rfl) (fun _ _ _ h => h) ?_ (by assumption) ?_
              rotate_left
              · first | (refine Or.inl ⟨by rfl, ?_⟩; intro w hSw; (try dsimp only at hSw); go_simp; (try (with_reducible rfl)); done) | (refine Or.inr ⟨by rfl, ?_⟩; with_reducible rfl)
              try simp only [Act.put, List.setIfInBounds_toArray, List.set_cons_zero, List.set_cons_succ]
              refine wpAnyH_take (i := 22) (oi := { dst := some 44, op := Go.Op.move (Go.Operand.tmp 1), type := 25, pos := _, after := _, guard := some (17, true) }) (v := ?_) rfl (by kernel_rfl) (by kernel_rfl) (by kernel_rfl) (fun _ _ _ h => h) ?_ (by assumption) ?_
              rotate_left
              · first | (refine Or.inl ⟨by rfl, ?_⟩; intro w hSw; (try dsimp only at hSw); go_simp; (try (with_reducible rfl)); done) | (refine Or.inr ⟨by rfl, ?_⟩; with_reducible rfl)
              try simp only [Act.put, List.setIfInBounds_toArray, List.set_cons_zero, List.set_cons_succ]
              refine wpAnyH_take (i := 23) (oi := { dst := some 45, op := Go.Op.move (Go.Operand.tmp 5), type := 3, pos := _, after := _, guard := some (17, true) }) (v := ?_) rfl (by kernel_rfl) (by kernel_rfl) (by kernel_rfl) (fun _ _ _ h => h) ?_ (by assumption) ?_
              rotate_left
              · first | (refine Or.inl ⟨by rfl, ?_⟩; intro w hSw; (try dsimp only at hSw); go_simp; (try (with_reducible rfl)); done) | (refine Or.inr ⟨by rfl, ?_⟩; with_reducible rfl)
              try simp only [Act.put, List.setIfInBounds_toArray, List.set_cons_zero, List.set_cons_succ]
              refine wpAnyH_take (i := 24) (oi := { dst := some 46, op := Go.Op.binOp Go.BinOp.sub 3 (Go.Operand.tmp 45) (Go.Operand.const (Go.Value.int Go.IntKind.i64 1)) 3, type := 3, pos := _, after := _, guard := some (17, true) }) (v := ?_) rfl (by kernel_rfl) (by kernel_rfl) (by kernel_rfl) (fun _ _ _ h => h) ?_ (by assumption) ?_
              rotate_left
              · first | (refine Or.inl ⟨by rfl, ?_⟩; intro w hSw; (try dsimp only at hSw); go_simp; (try (with_reducible rfl)); done) | (refine Or.inr ⟨by rfl, ?_⟩; with_reducible rfl)
              try simp only [Act.put, List.setIfInBounds_toArray, List.set_cons_zero, List.set_cons_succ]
              refine wpAnyH_take (i := 25) (oi := { dst := some 47, op := Go.Op.indexAddr 25 (Go.Operand.tmp 44) (Go.Operand.tmp 46), type := 0, pos := _, after := _, guard := some (17, true) }) (v := ?_) rfl (by kernel_rfl) (by kernel_rfl) (by kernel_rfl) (fun _ _ _ h => h) ?_ (by assumption) ?_
              rotate_left
              · first | (refine Or.inl ⟨by rfl, ?_⟩; intro w hSw; (try dsimp only at hSw); go_simp; (try (with_reducible rfl)); done) | (refine Or.inr ⟨by rfl, ?_⟩; with_reducible rfl)
              try simp only [Act.put, List.setIfInBounds_toArray, List.set_cons_zero, List.set_cons_succ]
              refine wpAnyH_take (i := 26) (oi := { dst := some 48, op := Go.Op.load 3 (Go.Operand.tmp 47), type := 3, pos := _, after := _, guard := some (17, true) }) (v := ?_) rfl (by kernel_rfl) (by kernel_rfl) (by kernel_rfl) (fun _ _ _ h => h) ?_ (by assumption) ?_
              rotate_left
              · first | (refine Or.inl ⟨by rfl, ?_⟩; intro w hSw; (try dsimp only at hSw); go_simp; (try (with_reducible rfl)); done) | (refine Or.inr ⟨by rfl, ?_⟩; with_reducible rfl)
              try simp only [Act.put, List.setIfInBounds_toArray, List.set_cons_zero, List.set_cons_succ]
              refine wpAnyH_take (i := 27) (oi := { dst := some 49, op := Go.Op.binOp Go.BinOp.leq 3 (Go.Operand.tmp 43) (Go.Operand.tmp 48) 3, type := 4, pos := _, after := _, guard := some (17, true) }) (v := ?_) rfl (by kernel_rfl) (by kernel_rfl) (by kernel_rfl) (fun _ _ _ h => h) ?_ (by assumption) ?_
              rotate_left
              · first | (refine Or.inl ⟨by rfl, ?_⟩; intro w hSw; (try dsimp only at hSw); go_simp; (try (with_reducible rfl)); done) | (refine Or.inr ⟨by rfl, ?_⟩; with_reducible rfl)
              try simp only [Act.put, List.setIfInBounds_toArray, List.set_cons_zero, List.set_cons_succ]
              refine wpAnyH_take (i := 28) (oi := { dst := some 50, op := Go.Op.pick (Go.Operand.tmp 39) (Go.Operand.tmp 49) (Go.Operand.const (Go.Value.bool false)), type := 4, pos := _, after := _, guard := some (14, false) }) (v := ?_) rfl (by kernel_rfl) (by kernel_rfl) (by kernel_rfl) (fun _ _ _ h => h) ?_ (by assumption) ?_
              rotate_left
              · first | (refine Or.inl ⟨by rfl, ?_⟩; intro w hSw; (try dsimp only at hSw); go_simp; (try (with_reducible rfl)); done) | (refine Or.inr ⟨by rfl, ?_⟩; with_reducible rfl)
              try simp only [Act.put, List.setIfInBounds_toArray, List.set_cons_zero, List.set_cons_succ]
              refine wpAnyH_take (i := 29) (oi := { dst := some 51, op := Go.Op.pick (Go.Operand.tmp 36) (Go.Operand.const (Go.Value.bool true)) (Go.Operand.tmp 50), type := 4, pos := _, after := _, guard := none }) (v := ?_) rfl (by kernel_rfl) (by kernel_rfl) (by kernel_rfl) (fun _ _ _ h => h) ?_ (by assumption) ?_
              rotate_left
              · first | (refine Or.inl ⟨by rfl, ?_⟩; intro w hSw; (try dsimp only at hSw); go_simp; (try (with_reducible rfl)); done) | (refine Or.inr ⟨by rfl, ?_⟩; with_reducible rfl)
              try simp only [Act.put, List.setIfInBounds_toArray, List.set_cons_zero, List.set_cons_succ]
              refine wpAnyH_done (by kernel_rfl) ?_ _
              go_wp2_with fail
              go_ret
              exact ⟨Bl.dr HB2.out (by first | exact HD.out.more _ | exact HD.out.one | exact HD.out), false, rfl, iff_of_false (by simp) fun h => HNO.out h.2.2⟩
            · have hb2 : decide (n < x) = false := decide_eq_false h2
              by_cases h3 : k = 0
              · have hk00 : ¬ ((0 : Int) < (k : Int)) := by omega
                have hb3 : decide (0 < k) = false := decide_eq_false (by omega)
                have H3 := hide h3; clear h3
                go_wp2_with fail
                refine wp_region_held_drew (S := fun w' => w'.cell? (ad.add k) = some (.int .i64 x) ∧ w'.cell? ⟨w.heap.size, 1, none⟩ = some (.int .i64 n) ∧ w'.cell? ⟨w.heap.size, 2, none⟩ = some (.int .i64 t)) (by kernel_rfl) ⟨hcell, c1, c2⟩ (fun hHeld => ?_)
                refine wpAnyH_take (i := 0) (oi := { dst := some 22, op := Go.Op.move (Go.Operand.tmp 1), type := 25, pos := _, after := _, guard := none }) (v := ?_) rfl (by kernel_rfl) (by kernel_rfl) (by kernel_rfl) (fun _ _ _ h => h) ?_ (by assumption) ?_
                rotate_left
                · first | (refine Or.inl ⟨by rfl, ?_⟩; intro w hSw; (try dsimp only at hSw); go_simp; (try (with_reducible rfl)); done) | (refine Or.inr ⟨by rfl, ?_⟩; with_reducible rfl)
                try simp only [Act.put, List.setIfInBounds_toArray, List.set_cons_zero, List.set_cons_succ]
                refine wpAnyH_take (i := 1) (oi := { dst := some 23, op := Go.Op.move (Go.Operand.tmp 5), type := 3, pos := _, after := _, guard := none }) (v := ?_) rfl (by kernel_rfl) (by kernel_rfl) (by kernel_rfl) (fun _ _ _ h => h) ?_ (by assumption) ?_
                rotate_left
                · first | (refine Or.inl ⟨by rfl, ?_⟩; intro w hSw; (try dsimp only at hSw); go_simp; (try (with_reducible rfl)); done) | (refine Or.inr ⟨by rfl, ?_⟩; with_reducible rfl)
                try simp only [Act.put, List.setIfInBounds_toArray, List.set_cons_zero, List.set_cons_succ]
                refine wpAnyH_take (i := 2) (oi := { dst := some 24, op := Go.Op.indexAddr 25 (Go.Operand.tmp 22) (Go.Operand.tmp 23), type := 0, pos := _, after := _, guard := none }) (v := ?_) rfl (by kernel_rfl) (by kernel_rfl) (by kernel_rfl) (fun _ _ _ h => h) ?_ (by assumption) ?_
                rotate_left
                · first | (refine Or.inl ⟨by rfl, ?_⟩; intro w hSw; (try dsimp only at hSw); go_simp; (try (with_reducible rfl)); done) | (refine Or.inr ⟨by rfl, ?_⟩; with_reducible rfl)
                try simp only [Act.put, List.setIfInBounds_toArray, List.set_cons_zero, List.set_cons_succ]
                refine wpAnyH_take (i := 3) (oi := { dst := some 25, op := Go.Op.load 3 (Go.Operand.tmp 24), type := 3, pos := _, after := _, guard := none }) (v := ?_) rfl (by kernel_rfl) (by kernel_rfl) (by kernel_rfl) (fun _ _ _ h => h) ?_ (by assumption) ?_
                rotate_left
                · first | (refine Or.inl ⟨by rfl, ?_⟩; intro w hSw; (try dsimp only at hSw); go_simp; (try (with_reducible rfl)); done) | (refine Or.inr ⟨by rfl, ?_⟩; with_reducible rfl)
                try simp only [Act.put, List.setIfInBounds_toArray, List.set_cons_zero, List.set_cons_succ]
                refine wpAnyH_take (i := 4) (oi := { dst := some 26, op := Go.Op.binOp Go.BinOp.lss 3 (Go.Operand.tmp 25) (Go.Operand.const (Go.Value.int Go.IntKind.i64 1)) 3, type := 4, pos := _, after := _, guard := none }) (v := ?_) rfl (by kernel_rfl) (by kernel_rfl) (by kernel_rfl) (fun _ _ _ h => h) ?_ (by assumption) ?_
                rotate_left
                · first | (refine Or.inl ⟨by rfl, ?_⟩; intro w hSw; (try dsimp only at hSw); go_simp; (try (with_reducible rfl)); done) | (refine Or.inr ⟨by rfl, ?_⟩; with_reducible rfl)
                try simp only [Act.put, List.setIfInBounds_toArray, List.set_cons_zero, List.set_cons_succ]
                refine wpAnyH_take (i := 5) (oi := { dst := some 27, op := Go.Op.move (Go.Operand.tmp 26), type := 4, pos := _, after := _, guard := none }) (v := ?_) rfl (by kernel_rfl) (by kernel_rfl) (by kernel_rfl) (fun _ _ _ h => h) ?_ (by assumption) ?_
                rotate_left
                · first | (refine Or.inl ⟨by rfl, ?_⟩; intro w hSw; (try dsimp only at hSw); go_simp; (try (with_reducible rfl)); done) | (refine Or.inr ⟨by rfl, ?_⟩; with_reducible rfl)
                try simp only [Act.put, List.setIfInBounds_toArray, List.set_cons_zero, List.set_cons_succ]
                refine wpAnyH_take (i := 6) (oi := { dst := some 28, op := Go.Op.move (Go.Operand.tmp 1), type := 25, pos := _, after := _, guard := some (5, false) }) (v := ?_) rfl (by kernel_rfl) (by kernel_rfl) (by kernel_rfl) (fun _ _ _ h => h) ?_ (by assumption) ?_
                rotate_left
                · first | (refine Or.inl ⟨by rfl, ?_⟩; intro w hSw; (try dsimp only at hSw); go_simp; (try (with_reducible rfl)); done) | (refine Or.inr ⟨by rfl, ?_⟩; with_reducible rfl)
                try simp only [Act.put, List.setIfInBounds_toArray, List.set_cons_zero, List.set_cons_succ]
                refine wpAnyH_take (i := 7) (oi := { dst := some 29, op := Go.Op.move (Go.Operand.tmp 5), type := 3, pos := _, after := _, guard := some (5, false) }) (v := ?_) rfl (by kernel_rfl) (by kernel_rfl) (by kernel_rfl) (fun _ _ _ h => h) ?_ (by assumption) ?_
                rotate_left
                · first | (refine Or.inl ⟨by rfl, ?_⟩; intro w hSw; (try dsimp only at hSw); go_simp; (try (with_reducible rfl)); done) | (refine Or.inr ⟨by rfl, ?_⟩; with_reducible rfl)
                try simp only [Act.put, List.setIfInBounds_toArray, List.set_cons_zero, List.set_cons_succ]
                refine wpAnyH_take (i := 8) (oi := { dst := some 30, op := Go.Op.indexAddr 25 (Go.Operand.tmp 28) (Go.Operand.tmp 29), type := 0, pos := _, after := _, guard := some (5, false) }) (v := ?_) rfl (by kernel_rfl) (by kernel_rfl) (by kernel_rfl) (fun _ _ _ h => h) ?_ (by assumption) ?_
                rotate_left
                · first | (refine Or.inl ⟨by rfl, ?_⟩; intro w hSw; (try dsimp only at hSw); go_simp; (try (with_reducible rfl)); done) | (refine Or.inr ⟨by rfl, ?_⟩; with_reducible rfl)
                try simp only [Act.put, List.setIfInBounds_toArray, List.set_cons_zero, List.set_cons_succ]
                refine wpAnyH_take (i := 9) (oi := { dst := some 31, op := Go.Op.load 3 (Go.Operand.tmp 30), type := 3, pos := _, after := _, guard := some (5, false) }) (v := ?_) rfl (by kernel_rfl) (by kernel_rfl) (by kernel_rfl) (fun _ _ _ h => h) ?_ (by assumption) ?_
                rotate_left
                · first | (refine Or.inl ⟨by rfl, ?_⟩; intro w hSw; (try dsimp only at hSw); go_simp; (try (with_reducible rfl)); done) | (refine Or.inr ⟨by rfl, ?_⟩; with_reducible rfl)
                try simp only [Act.put, List.setIfInBounds_toArray, List.set_cons_zero, List.set_cons_succ]
                refine wpAnyH_take (i := 10) (oi := { dst := some 32, op := Go.Op.fieldAddr 24 (Go.Operand.tmp 2) 1, type := 0, pos := _, after := _, guard := some (5, false) }) (v := ?_) rfl (by kernel_rfl) (by kernel_rfl) (by kernel_rfl) (fun _ _ _ h => h) ?_ (by assumption) ?_
                rotate_left
                · first | (refine Or.inl ⟨by rfl, ?_⟩; intro w hSw; (try dsimp only at hSw); go_simp; (try (with_reducible rfl)); done) | (refine Or.inr ⟨by rfl, ?_⟩; with_reducible rfl)
                try simp only [Act.put, List.setIfInBounds_toArray, List.set_cons_zero, List.set_cons_succ]
                refine wpAnyH_take (i := 11) (oi := { dst := some 33, op := Go.Op.load 3 (Go.Operand.tmp 32), type := 3, pos := _, after := _, guard := some (5, false) }) (v := ?_) rfl (by kernel_rfl) (by kernel_rfl) (by kernel_rfl) (fun _ _ _ h => h) ?_ (by assumption) ?_
                rotate_left
                · first | (refine Or.inl ⟨by rfl, ?_⟩; intro w hSw; (try dsimp only at hSw); go_simp; (try (with_reducible rfl)); done) | (refine Or.inr ⟨by rfl, ?_⟩; with_reducible rfl)
                try simp only [Act.put, List.setIfInBounds_toArray, List.set_cons_zero, List.set_cons_succ]
                refine wpAnyH_take (i := 12) (oi := { dst := some 34, op := Go.Op.binOp Go.BinOp.gtr 3 (Go.Operand.tmp 31) (Go.Operand.tmp 33) 3, type := 4, pos := _, after := _, guard := some (5, false) }) (v := ?_) rfl (by kernel_rfl) (by kernel_rfl) (by kernel_rfl) (fun _ _ _ h => h) ?_ (by assumption) ?_
                rotate_left
                · first | (refine Or.inl ⟨by rfl, ?_⟩; intro w hSw; (try dsimp only at hSw); go_simp; (try (with_reducible rfl)); done) | (refine Or.inr ⟨by rfl, ?_⟩; with_reducible rfl)
                try simp only [Act.put, List.setIfInBounds_toArray, List.set_cons_zero, List.set_cons_succ]
                refine wpAnyH_take (i := 13) (oi := { dst := some 35, op := Go.Op.pick (Go.Operand.tmp 27) (Go.Operand.const (Go.Value.bool true)) (Go.Operand.tmp 34), type := 4, pos := _, after := _, guard := none }) (v := ?_) rfl (by kernel_rfl) (by kernel_rfl) (by kernel_rfl) (fun _ _ _ h => h) ?_ (by assumption) ?_
                rotate_left
                · first | (refine Or.inl ⟨by rfl, ?_⟩; intro w hSw; (try dsimp only at hSw); go_simp; (try (with_reducible rfl)); done) | (refine Or.inr ⟨by rfl, ?_⟩; with_reducible rfl)
                try simp only [Act.put, List.setIfInBounds_toArray, List.set_cons_zero, List.set_cons_succ]
                refine wpAnyH_take (i := 14) (oi := { dst := some 36, op := Go.Op.move (Go.Operand.tmp 35), type := 4, pos := _, after := _, guard := none }) (v := ?_) rfl (by kernel_rfl) (by kernel_rfl) (by kernel_rfl) (fun _ _ _ h => h) ?_ (by assumption) ?_
                rotate_left
                · first | (refine Or.inl ⟨by rfl, ?_⟩; intro w hSw; (try dsimp only at hSw); go_simp; (try (with_reducible rfl)); done) | (refine Or.inr ⟨by rfl, ?_⟩; with_reducible rfl)
                try simp only [Act.put, List.setIfInBounds_toArray, List.set_cons_zero, List.set_cons_succ]
                refine wpAnyH_take (i := 15) (oi := { dst := some 37, op := Go.Op.move (Go.Operand.tmp 5), type := 3, pos := _, after := _, guard := some (14, false) }) (v := ?_) rfl (by kernel_rfl) (by kernel_rfl) (by kernel_rfl) (fun _ _ _ h => h) ?_ (by assumption) ?_
                rotate_left
                · first | (refine Or.inl ⟨by rfl, ?_⟩; intro w hSw; (try dsimp only at hSw); go_simp; (try (with_reducible rfl)); done) | (refine Or.inr ⟨by rfl, ?_⟩; with_reducible rfl)
                try simp only [Act.put, List.setIfInBounds_toArray, List.set_cons_zero, List.set_cons_succ]
                refine wpAnyH_take (i := 16) (oi := { dst := some 38, op := Go.Op.binOp Go.BinOp.gtr 3 (Go.Operand.tmp 37) (Go.Operand.const (Go.Value.int Go.IntKind.i64 0)) 3, type := 4, pos := _, after := _, guard := some (14, false) }) (v := ?_) rfl (by kernel_rfl) (by kernel_rfl) (by kernel_rfl) (fun _ _ _ h => h) ?_ (by assumption) ?_
                rotate_left
                · first | (refine Or.inl ⟨by rfl, ?_⟩; intro w hSw; (try dsimp only at hSw); go_simp; (try (with_reducible rfl)); done) | (refine Or.inr ⟨by rfl, ?_⟩; with_reducible rfl)
                try simp only [Act.put, List.setIfInBounds_toArray, List.set_cons_zero, List.set_cons_succ]
                refine wpAnyH_take (i := 17) (oi := { dst := some 39, op := Go.Op.move (Go.Operand.tmp 38), type := 4, pos := _, after := _, guard := some (14, false) }) (v := ?_) rfl (by kernel_rfl) (by kernel_rfl) (by kernel_rfl) (fun _ _ _ h => h) ?_ (by assumption) ?_
                rotate_left
                · first | (refine Or.inl ⟨by rfl, ?_⟩; intro w hSw; (try dsimp only at hSw); go_simp; (try (with_reducible rfl)); done) | (refine Or.inr ⟨by rfl, ?_⟩; with_reducible rfl)
                try simp only [Act.put, List.setIfInBounds_toArray, List.set_cons_zero, List.set_cons_succ]
                refine wpAnyH_take (i := 18) (oi := { dst := some 40, op := Go.Op.move (Go.Operand.tmp 1), type := 25, pos := _, after := _, guard := some (17, true) }) (v := ?_) rfl (by kernel_rfl) (by kernel_rfl) (by kernel_rfl) (fun _ _ _ h => h) ?_ (by assumption) ?_
                rotate_left
                · first | (refine Or.inl ⟨by rfl, ?_⟩; intro w hSw; (try dsimp only at hSw); go_simp; (try (with_reducible rfl)); done) | (refine Or.inr ⟨by rfl, ?_⟩; with_reducible rfl)
                try simp only [Act.put, List.setIfInBounds_toArray, List.set_cons_zero, List.set_cons_succ]
                refine wpAnyH_take (i := 19) (oi := { dst := some 41, op := Go.Op.move (Go.Operand.tmp 5), type := 3, pos := _, after := _, guard := some (17, true) }) (v := ?_) rfl (by kernel_rfl) (by kernel_rfl) (by kernel_rfl) (fun _ _ _ h => h) ?_ (by assumption) ?_
                rotate_left
                · first | (refine Or.inl ⟨by rfl, ?_⟩; intro w hSw; (try dsimp only at hSw); go_simp; (try (with_reducible rfl)); done) | (refine Or.inr ⟨by rfl, ?_⟩; with_reducible rfl)
                try simp only [Act.put, List.setIfInBounds_toArray, List.set_cons_zero, List.set_cons_succ]
                refine wpAnyH_take (i := 20) (oi := { dst := some 42, op := Go.Op.indexAddr 25 (Go.Operand.tmp 40) (Go.Operand.tmp 41), type := 0, pos := _, after := _, guard := some (17, true) }) (v := ?_) rfl (by kernel_rfl) (by kernel_rfl) (by kernel_rfl) (fun _ _ _ h => h) ?_ (by assumption) ?_
                rotate_left
                · first | (refine Or.inl ⟨by rfl, ?_⟩; intro w hSw; (try dsimp only at hSw); go_simp; (try (with_reducible rfl)); done) | (refine Or.inr ⟨by rfl, ?_⟩; with_reducible rfl)
                try simp only [Act.put, List.setIfInBounds_toArray, List.set_cons_zero, List.set_cons_succ]
                refine wpAnyH_take (i := 21) (oi := { dst := some 43, op := Go.Op.load 3 (Go.Operand.tmp 42), type := 3, pos := _, after := _, guard := some (17, true) }) (v := ?_) rfl (by kernel_rfl) (by kernel_rfl) (by kernel_rfl) (fun _ _ _ h => h) ?_ (by assumption) ?_
                rotate_left
                · first | (refine Or.inl ⟨by rfl, ?_⟩; intro w hSw; (try dsimp only at hSw); go_simp; (try (with_reducible rfl)); done) | (refine Or.inr ⟨by rfl, ?_⟩; with_reducible rfl)
                try simp only [Act.put, List.setIfInBounds_toArray, List.set_cons_zero, List.set_cons_succ]
                refine wpAnyH_take (i := 22) (oi := { dst := some 44, op := Go.Op.move (Go.Operand.tmp 1), type := 25, pos := _, after := _, guard := some (17, true) }) (v := ?_) rfl (by kernel_rfl) (by kernel_rfl) (by kernel_rfl) (fun _ _ _ h => h) ?_ (by assumption) ?_
                rotate_left
                · first | (refine Or.inl ⟨by rfl, ?_⟩; intro w hSw; (try dsimp only at hSw); go_simp; (try (with_reducible rfl)); done) | (refine Or.inr ⟨by rfl, ?_⟩; with_reducible rfl)
                try simp only [Act.put, List.setIfInBounds_toArray, List.set_cons_zero, List.set_cons_succ]
                refine wpAnyH_take (i := 23) (oi := { dst := some 45, op := Go.Op.move (Go.Operand.tmp 5), type := 3, pos := _, after := _, guard := some (17, true) }) (v := ?_) rfl (by kernel_rfl) (by kernel_rfl) (by kernel_rfl) (fun _ _ _ h => h) ?_ (by assumption) ?_
                rotate_left
                · first | (refine Or.inl ⟨by rfl, ?_⟩; intro w hSw; (try dsimp only at hSw); go_simp; (try (with_reducible rfl)); done) | (refine Or.inr ⟨by rfl, ?_⟩; with_reducible rfl)
                try simp only [Act.put, List.setIfInBounds_toArray, List.set_cons_zero, List.set_cons_succ]
                refine wpAnyH_take (i := 24) (oi := { dst := some 46, op := Go.Op.binOp Go.BinOp.sub 3 (Go.Operand.tmp 45) (Go.Operand.const (Go.Value.int Go.IntKind.i64 1)) 3, type := 3, pos := _, after := _, guard := some (17, true) }) (v := ?_) rfl (by kernel_rfl) (by kernel_rfl) (by kernel_rfl) (fun _ _ _ h => h) ?_ (by assumption) ?_
                rotate_left
                · first | (refine Or.inl ⟨by rfl, ?_⟩; intro w hSw; (try dsimp only at hSw); go_simp; (try (with_reducible rfl)); done) | (refine Or.inr ⟨by rfl, ?_⟩; with_reducible rfl)
                try simp only [Act.put, List.setIfInBounds_toArray, List.set_cons_zero, List.set_cons_succ]
                refine wpAnyH_take (i := 25) (oi := { dst := some 47, op := Go.Op.indexAddr 25 (Go.Operand.tmp 44) (Go.Operand.tmp 46), type := 0, pos := _, after := _, guard := some (17, true) }) (v := ?_) rfl (by kernel_rfl) (by kernel_rfl) (by kernel_rfl) (fun _ _ _ h => h) ?_ (by assumption) ?_
                rotate_left
                · first | (refine Or.inl ⟨by rfl, ?_⟩; intro w hSw; (try dsimp only at hSw); go_simp; (try (with_reducible rfl)); done) | (refine Or.inr ⟨by rfl, ?_⟩; with_reducible rfl)
                try simp only [Act.put, List.setIfInBounds_toArray, List.set_cons_zero, List.set_cons_succ]
                refine wpAnyH_take (i := 26) (oi := { dst := some 48, op := Go.Op.load 3 (Go.Operand.tmp 47), type := 3, pos := _, after := _, guard := some (17, true) }) (v := ?_) rfl (by kernel_rfl) (by kernel_rfl) (by kernel_rfl) (fun _ _ _ h => h) ?_ (by assumption) ?_
                rotate_left
                · first | (refine Or.inl ⟨by rfl, ?_⟩; intro w hSw; (try dsimp only at hSw); go_simp; (try (with_reducible rfl)); done) | (refine Or.inr ⟨by rfl, ?_⟩; with_reducible rfl)
                try simp only [Act.put, List.setIfInBounds_toArray, List.set_cons_zero, List.set_cons_succ]
                refine wpAnyH_take (i := 27) (oi := { dst := some 49, op := Go.Op.binOp Go.BinOp.leq 3 (Go.Operand.tmp 43) (Go.Operand.tmp 48) 3, type := 4, pos := _, after := _, guard := some (17, true) }) (v := ?_) rfl (by kernel_rfl) (by kernel_rfl) (by kernel_rfl) (fun _ _ _ h => h) ?_ (by assumption) ?_
                rotate_left
                · first | (refine Or.inl ⟨by rfl, ?_⟩; intro w hSw; (try dsimp only at hSw); go_simp; (try (with_reducible rfl)); done) | (refine Or.inr ⟨by rfl, ?_⟩; with_reducible rfl)
                try simp only [Act.put, List.setIfInBounds_toArray, List.set_cons_zero, List.set_cons_succ]
                refine wpAnyH_take (i := 28) (oi := { dst := some 50, op := Go.Op.pick (Go.Operand.tmp 39) (Go.Operand.tmp 49) (Go.Operand.const (Go.Value.bool false)), type := 4, pos := _, after := _, guard := some (14, false) }) (v := ?_) rfl (by kernel_rfl) (by kernel_rfl) (by kernel_rfl) (fun _ _ _ h => h) ?_ (by assumption) ?_
                rotate_left
                · first | (refine Or.inl ⟨by rfl, ?_⟩; intro w hSw; (try dsimp only at hSw); go_simp; (try (with_reducible rfl)); done) | (refine Or.inr ⟨by rfl, ?_⟩; with_reducible rfl)
                try simp only [Act.put, List.setIfInBounds_toArray, List.set_cons_zero, List.set_cons_succ]
                refine wpAnyH_take (i := 29) (oi := { dst := some 51, op := Go.Op.pick (Go.Operand.tmp 36) (Go.Operand.const (Go.Value.bool true)) (Go.Operand.tmp 50), type := 4, pos := _, after := _, guard := none }) (v := ?_) rfl (by kernel_rfl) (by kernel_rfl) (by kernel_rfl) (fun _ _ _ h => h) ?_ (by assumption) ?_
                rotate_left
                · first | (refine Or.inl ⟨by rfl, ?_⟩; intro w hSw; (try dsimp only at hSw); go_simp; (try (with_reducible rfl)); done) | (refine Or.inr ⟨by rfl, ?_⟩; with_reducible rfl)
                try simp only [Act.put, List.setIfInBounds_toArray, List.set_cons_zero, List.set_cons_succ]
                refine wpAnyH_done (by kernel_rfl) ?_ _
                go_wp2_with fail
                go_roundw
                case rel => exact ⟨(by first | exact HD.out.more _ | exact HD.out.one | exact HD.out), k + 1, by omega, by go_num, fun i hi => by
                  by_cases e : i = k
                  · subst e; rw [← HX.out]; exact ⟨by omega, by omega, fun h => by have := H3.out; omega⟩
                  · exact HZ.out i (by omega)⟩
                case measure => simp [intOf]; omega
              · obtain ⟨ad', hA, _, hcell'⟩ := HC.out (k - 1) (by omega)
                injection hA with hA; subst hA
                have hcell' := (HD.out.cell _).trans (cell_bl HB2.out hcell')
                have hk00 : ((0 : Int) < (k : Int)) := by omega
                have hkm : (k : Int) - 1 = ((k - 1 : Nat) : Int) := by omega
                have hkm2 : ((k - 1 : Nat) : Int) < (N : Int) := by omega
                have hkw : IntKind.i64.wrap ((k - 1 : Nat) : Int) = ((k - 1 : Nat) : Int) := by rw [IntWalk.i64_in _ (by omega)]
                have hkm3 : (0 : Int) ≤ ((k - 1 : Nat) : Int) := by omega
                obtain ⟨y, hy⟩ : ∃ y, y = l.getD (k - 1) 0 := ⟨_, rfl⟩
                rw [← hy] at hcell'
                have HY := hide hy; clear hy
                have hb3 : decide (0 < k) = true := decide_eq_true (by omega)
                have H3 := hide h3; clear h3
                by_cases h4 : y < x
                · have hb4 : decide (x ≤ y) = false := decide_eq_false (by omega)
                  go_wp2_with fail
                  refine wp_region_held_drew (S := fun w' => w'.cell? (ad.add k) = some (.int .i64 x) ∧ w'.cell? ⟨w.heap.size, 1, none⟩ = some (.int .i64 n) ∧ w'.cell? ⟨w.heap.size, 2, none⟩ = some (.int .i64 t) ∧ w'.cell? (ad.add (k - 1)) = some (.int .i64 y)) (by kernel_rfl) ⟨hcell, c1, c2, hcell'⟩ (fun hHeld => ?_)
                  refine wpAnyH_take (i := 0) (oi := { dst := some 22, op := Go.Op.move (Go.Operand.tmp 1), type := 25, pos := _, after := _, guard := none }) (v := ?_) rfl (by kernel_rfl) (by kernel_rfl) (by kernel_rfl) (fun _ _ _ h => h) ?_ (by assumption) ?_
                  rotate_left
                  · first | (refine Or.inl ⟨by rfl, ?_⟩; intro w hSw; (try dsimp only at hSw); go_simp; (try (with_reducible rfl)); done) | (refine Or.inr ⟨by rfl, ?_⟩; with_reducible rfl)
                  try simp only [Act.put, List.setIfInBounds_toArray, List.set_cons_zero, List.set_cons_succ]
                  refine wpAnyH_take (i := 1) (oi := { dst := some 23, op := Go.Op.move (Go.Operand.tmp 5), type := 3, pos := _, after := _, guard := none }) (v := ?_) rfl (by kernel_rfl) (by kernel_rfl) (by kernel_rfl) (fun _ _ _ h => h) ?_ (by assumption) ?_
                  rotate_left
                  · first | (refine Or.inl ⟨by rfl, ?_⟩; intro w hSw; (try dsimp only at hSw); go_simp; (try (with_reducible rfl)); done) | (refine Or.inr ⟨by rfl, ?_⟩; with_reducible rfl)
                  try simp only [Act.put, List.setIfInBounds_toArray, List.set_cons_zero, List.set_cons_succ]
                  refine wpAnyH_take (i := 2) (oi := { dst := some 24, op := Go.Op.indexAddr 25 (Go.Operand.tmp 22) (Go.Operand.tmp 23), type := 0, pos := _, after := _, guard := none }) (v := ?_) rfl (by kernel_rfl) (by kernel_rfl) (by kernel_rfl) (fun _ _ _ h => h) ?_ (by assumption) ?_
                  rotate_left
                  · first | (refine Or.inl ⟨by rfl, ?_⟩; intro w hSw; (try dsimp only at hSw); go_simp; (try (with_reducible rfl)); done) | (refine Or.inr ⟨by rfl, ?_⟩; with_reducible rfl)
                  try simp only [Act.put, List.setIfInBounds_toArray, List.set_cons_zero, List.set_cons_succ]
                  refine wpAnyH_take (i := 3) (oi := { dst := some 25, op := Go.Op.load 3 (Go.Operand.tmp 24), type := 3, pos := _, after := _, guard := none }) (v := ?_) rfl (by kernel_rfl) (by kernel_rfl) (by kernel_rfl) (fun _ _ _ h => h) ?_ (by assumption) ?_
                  rotate_left
                  · first | (refine Or.inl ⟨by rfl, ?_⟩; intro w hSw; (try dsimp only at hSw); go_simp; (try (with_reducible rfl)); done) | (refine Or.inr ⟨by rfl, ?_⟩; with_reducible rfl)
                  try simp only [Act.put, List.setIfInBounds_toArray, List.set_cons_zero, List.set_cons_succ]
                  refine wpAnyH_take (i := 4) (oi := { dst := some 26, op := Go.Op.binOp Go.BinOp.lss 3 (Go.Operand.tmp 25) (Go.Operand.const (Go.Value.int Go.IntKind.i64 1)) 3, type := 4, pos := _, after := _, guard := none }) (v := ?_) rfl (by kernel_rfl) (by kernel_rfl) (by kernel_rfl) (fun _ _ _ h => h) ?_ (by assumption) ?_
                  rotate_left
                  · first | (refine Or.inl ⟨by rfl, ?_⟩; intro w hSw; (try dsimp only at hSw); go_simp; (try (with_reducible rfl)); done) | (refine Or.inr ⟨by rfl, ?_⟩; with_reducible rfl)
                  try simp only [Act.put, List.setIfInBounds_toArray, List.set_cons_zero, List.set_cons_succ]
                  refine wpAnyH_take (i := 5) (oi := { dst := some 27, op := Go.Op.move (Go.Operand.tmp 26), type := 4, pos := _, after := _, guard := none }) (v := ?_) rfl (by kernel_rfl) (by kernel_rfl) (by kernel_rfl) (fun _ _ _ h => h) ?_ (by assumption) ?_
                  rotate_left
                  · first | (refine Or.inl ⟨by rfl, ?_⟩; intro w hSw; (try dsimp only at hSw); go_simp; (try (with_reducible rfl)); done) | (refine Or.inr ⟨by rfl, ?_⟩; with_reducible rfl)
                  try simp only [Act.put, List.setIfInBounds_toArray, List.set_cons_zero, List.set_cons_succ]
                  refine wpAnyH_take (i := 6) (oi := { dst := some 28, op := Go.Op.move (Go.Operand.tmp 1), type := 25, pos := _, after := _, guard := some (5, false) }) (v := ?_) rfl (by kernel_rfl) (by kernel_rfl) (by kernel_rfl) (fun _ _ _ h => h) ?_ (by assumption) ?_
                  rotate_left
                  · first | (refine Or.inl ⟨by rfl, ?_⟩; intro w hSw; (try dsimp only at hSw); go_simp; (try (with_reducible rfl)); done) | (refine Or.inr ⟨by rfl, ?_⟩; with_reducible rfl)
                  try simp only [Act.put, List.setIfInBounds_toArray, List.set_cons_zero, List.set_cons_succ]
                  refine wpAnyH_take (i := 7) (oi := { dst := some 29, op := Go.Op.move (Go.Operand.tmp 5), type := 3, pos := _, after := _, guard := some (5, false) }) (v := ?_) rfl (by kernel_rfl) (by kernel_rfl) (by kernel_rfl) (fun _ _ _ h => h) ?_ (by assumption) ?_
                  rotate_left
                  · first | (refine Or.inl ⟨by rfl, ?_⟩; intro w hSw; (try dsimp only at hSw); go_simp; (try (with_reducible rfl)); done) | (refine Or.inr ⟨by rfl, ?_⟩; with_reducible rfl)
                  try simp only [Act.put, List.setIfInBounds_toArray, List.set_cons_zero, List.set_cons_succ]
                  refine wpAnyH_take (i := 8) (oi := { dst := some 30, op := Go.Op.indexAddr 25 (Go.Operand.tmp 28) (Go.Operand.tmp 29), type := 0, pos := _, after := _, guard := some (5, false) }) (v := ?_) rfl (by kernel_rfl) (by kernel_rfl) (by kernel_rfl) (fun _ _ _ h => h) ?_ (by assumption) ?_
                  rotate_left
                  · first | (refine Or.inl ⟨by rfl, ?_⟩; intro w hSw; (try dsimp only at hSw); go_simp; (try (with_reducible rfl)); done) | (refine Or.inr ⟨by rfl, ?_⟩; with_reducible rfl)
                  try simp only [Act.put, List.setIfInBounds_toArray, List.set_cons_zero, List.set_cons_succ]
                  refine wpAnyH_take (i := 9) (oi := { dst := some 31, op := Go.Op.load 3 (Go.Operand.tmp 30), type := 3, pos := _, after := _, guard := some (5, false) }) (v := ?_) rfl (by kernel_rfl) (by kernel_rfl) (by kernel_rfl) (fun _ _ _ h => h) ?_ (by assumption) ?_
                  rotate_left
                  · first | (refine Or.inl ⟨by rfl, ?_⟩; intro w hSw; (try dsimp only at hSw); go_simp; (try (with_reducible rfl)); done) | (refine Or.inr ⟨by rfl, ?_⟩; with_reducible rfl)
                  try simp only [Act.put, List.setIfInBounds_toArray, List.set_cons_zero, List.set_cons_succ]
                  refine wpAnyH_take (i := 10) (oi := { dst := some 32, op := Go.Op.fieldAddr 24 (Go.Operand.tmp 2) 1, type := 0, pos := _, after := _, guard := some (5, false) }) (v := ?_) rfl (by kernel_rfl) (by kernel_rfl) (by kernel_rfl) (fun _ _ _ h => h) ?_ (by assumption) ?_
                  rotate_left
                  · first | (refine Or.inl ⟨by rfl, ?_⟩; intro w hSw; (try dsimp only at hSw); go_simp; (try (with_reducible rfl)); done) | (refine Or.inr ⟨by rfl, ?_⟩; with_reducible rfl)
                  try simp only [Act.put, List.setIfInBounds_toArray, List.set_cons_zero, List.set_cons_succ]
                  refine wpAnyH_take (i := 11) (oi := { dst := some 33, op := Go.Op.load 3 (Go.Operand.tmp 32), type := 3, pos := _, after := _, guard := some (5, false) }) (v := ?_) rfl (by kernel_rfl) (by kernel_rfl) (by kernel_rfl) (fun _ _ _ h => h) ?_ (by assumption) ?_
                  rotate_left
                  · first | (refine Or.inl ⟨by rfl, ?_⟩; intro w hSw; (try dsimp only at hSw); go_simp; (try (with_reducible rfl)); done) | (refine Or.inr ⟨by rfl, ?_⟩; with_reducible rfl)
                  try simp only [Act.put, List.setIfInBounds_toArray, List.set_cons_zero, List.set_cons_succ]
                  refine wpAnyH_take (i := 12) (oi := { dst := some 34, op := Go.Op.binOp Go.BinOp.gtr 3 (Go.Operand.tmp 31) (Go.Operand.tmp 33) 3, type := 4, pos := _, after := _, guard := some (5, false) }) (v := ?_) rfl (by kernel_rfl) (by kernel_rfl) (by kernel_rfl) (fun _ _ _ h => h) ?_ (by assumption) ?_
                  rotate_left
                  · first | (refine Or.inl ⟨by rfl, ?_⟩; intro w hSw; (try dsimp only at hSw); go_simp; (try (with_reducible rfl)); done) | (refine Or.inr ⟨by rfl, ?_⟩; with_reducible rfl)
                  try simp only [Act.put, List.setIfInBounds_toArray, List.set_cons_zero, List.set_cons_succ]
                  refine wpAnyH_take (i := 13) (oi := { dst := some 35, op := Go.Op.pick (Go.Operand.tmp 27) (Go.Operand.const (Go.Value.bool true)) (Go.Operand.tmp 34), type := 4, pos := _, after := _, guard := none }) (v := ?_) rfl (by kernel_rfl) (by kernel_rfl) (by kernel_rfl) (fun _ _ _ h => h) ?_ (by assumption) ?_
                  rotate_left
                  · first | (refine Or.inl ⟨by rfl, ?_⟩; intro w hSw; (try dsimp only at hSw); go_simp; (try (with_reducible rfl)); done) | (refine Or.inr ⟨by rfl, ?_⟩; with_reducible rfl)
                  try simp only [Act.put, List.setIfInBounds_toArray, List.set_cons_zero, List.set_cons_succ]
                  refine wpAnyH_take (i := 14) (oi := { dst := some 36, op := Go.Op.move (Go.Operand.tmp 35), type := 4, pos := _, after := _, guard := none }) (v := ?_) rfl (by kernel_rfl) (by kernel_rfl) (by kernel_rfl) (fun _ _ _ h => h) ?_ (by assumption) ?_
                  rotate_left
                  · first | (refine Or.inl ⟨by rfl, ?_⟩; intro w hSw; (try dsimp only at hSw); go_simp; (try (with_reducible rfl)); done) | (refine Or.inr ⟨by rfl, ?_⟩; with_reducible rfl)
                  try simp only [Act.put, List.setIfInBounds_toArray, List.set_cons_zero, List.set_cons_succ]
                  refine wpAnyH_take (i := 15) (oi := { dst := some 37, op := Go.Op.move (Go.Operand.tmp 5), type := 3, pos := _, after := _, guard := some (14, false) }) (v := ?_) rfl (by kernel_rfl) (by kernel_rfl) (by kernel_rfl) (fun _ _ _ h => h) ?_ (by assumption) ?_
                  rotate_left
                  · first | (refine Or.inl ⟨by rfl, ?_⟩; intro w hSw; (try dsimp only at hSw); go_simp; (try (with_reducible rfl)); done) | (refine Or.inr ⟨by rfl, ?_⟩; with_reducible rfl)
                  try simp only [Act.put, List.setIfInBounds_toArray, List.set_cons_zero, List.set_cons_succ]
                  refine wpAnyH_take (i := 16) (oi := { dst := some 38, op := Go.Op.binOp Go.BinOp.gtr 3 (Go.Operand.tmp 37) (Go.Operand.const (Go.Value.int Go.IntKind.i64 0)) 3, type := 4, pos := _, after := _, guard := some (14, false) }) (v := ?_) rfl (by kernel_rfl) (by kernel_rfl) (by kernel_rfl) (fun _ _ _ h => h) ?_ (by assumption) ?_
                  rotate_left
                  · first | (refine Or.inl ⟨by rfl, ?_⟩; intro w hSw; (try dsimp only at hSw); go_simp; (try (with_reducible rfl)); done) | (refine Or.inr ⟨by rfl, ?_⟩; with_reducible rfl)
                  try simp only [Act.put, List.setIfInBounds_toArray, List.set_cons_zero, List.set_cons_succ]
                  refine wpAnyH_take (i := 17) (oi := { dst := some 39, op := Go.Op.move (Go.Operand.tmp 38), type := 4, pos := _, after := _, guard := some (14, false) }) (v := ?_) rfl (by kernel_rfl) (by kernel_rfl) (by kernel_rfl) (fun _ _ _ h => h) ?_ (by assumption) ?_
                  rotate_left
                  · first | (refine Or.inl ⟨by rfl, ?_⟩; intro w hSw; (try dsimp only at hSw); go_simp; (try (with_reducible rfl)); done) | (refine Or.inr ⟨by rfl, ?_⟩; with_reducible rfl)
                  try simp only [Act.put, List.setIfInBounds_toArray, List.set_cons_zero, List.set_cons_succ]
                  refine wpAnyH_take (i := 18) (oi := { dst := some 40, op := Go.Op.move (Go.Operand.tmp 1), type := 25, pos := _, after := _, guard := some (17, true) }) (v := ?_) rfl (by kernel_rfl) (by kernel_rfl) (by kernel_rfl) (fun _ _ _ h => h) ?_ (by assumption) ?_
                  rotate_left
                  · first | (refine Or.inl ⟨by rfl, ?_⟩; intro w hSw; (try dsimp only at hSw); go_simp; (try (with_reducible rfl)); done) | (refine Or.inr ⟨by rfl, ?_⟩; with_reducible rfl)
                  try simp only [Act.put, List.setIfInBounds_toArray, List.set_cons_zero, List.set_cons_succ]
                  refine wpAnyH_take (i := 19) (oi := { dst := some 41, op := Go.Op.move (Go.Operand.tmp 5), type := 3, pos := _, after := _, guard := some (17, true) }) (v := ?_) rfl (by kernel_rfl) (by kernel_rfl) (by kernel_rfl) (fun _ _ _ h => h) ?_ (by assumption) ?_
                  rotate_left
                  · first | (refine Or.inl ⟨by rfl, ?_⟩; intro w hSw; (try dsimp only at hSw); go_simp; (try (with_reducible rfl)); done) | (refine Or.inr ⟨by rfl, ?_⟩; with_reducible rfl)
                  try simp only [Act.put, List.setIfInBounds_toArray, List.set_cons_zero, List.set_cons_succ]
                  refine wpAnyH_take (i := 20) (oi := { dst := some 42, op := Go.Op.indexAddr 25 (Go.Operand.tmp 40) (Go.Operand.tmp 41), type := 0, pos := _, after := _, guard := some (17, true) }) (v := ?_) rfl (by kernel_rfl) (by kernel_rfl) (by kernel_rfl) (fun _ _ _ h => h) ?_ (by assumption) ?_
                  rotate_left
                  · first | (refine Or.inl ⟨by rfl, ?_⟩; intro w hSw; (try dsimp only at hSw); go_simp; (try (with_reducible rfl)); done) | (refine Or.inr ⟨by rfl, ?_⟩; with_reducible rfl)
                  try simp only [Act.put, List.setIfInBounds_toArray, List.set_cons_zero, List.set_cons_succ]
                  refine wpAnyH_take (i := 21) (oi := { dst := some 43, op := Go.Op.load 3 (Go.Operand.tmp 42), type := 3, pos := _, after := _, guard := some (17, true) }) (v := ?_) rfl (by kernel_rfl) (by kernel_rfl) (by kernel_rfl) (fun _ _ _ h => h) ?_ (by assumption) ?_
                  rotate_left
                  · first | (refine Or.inl ⟨by rfl, ?_⟩; intro w hSw; (try dsimp only at hSw); go_simp; (try (with_reducible rfl)); done) | (refine Or.inr ⟨by rfl, ?_⟩; with_reducible rfl)
                  try simp only [Act.put, List.setIfInBounds_toArray, List.set_cons_zero, List.set_cons_succ]
                  refine wpAnyH_take (i := 22) (oi := { dst := some 44, op := Go.Op.move (Go.Operand.tmp 1), type := 25, pos := _, after := _, guard := some (17, true) }) (v := ?_) rfl (by kernel_rfl) (by kernel_rfl) (by kernel_rfl) (fun _ _ _ h => h) ?_ (by assumption) ?_
                  rotate_left
                  · first | (refine Or.inl ⟨by rfl, ?_⟩; intro w hSw; (try dsimp only at hSw); go_simp; (try (with_reducible rfl)); done) | (refine Or.inr ⟨by rfl, ?_⟩; with_reducible rfl)
                  try simp only [Act.put, List.setIfInBounds_toArray, List.set_cons_zero, List.set_cons_succ]
                  refine wpAnyH_take (i := 23) (oi := { dst := some 45, op := Go.Op.move (Go.Operand.tmp 5), type := 3, pos := _, after := _, guard := some (17, true) }) (v := ?_) rfl (by kernel_rfl) (by kernel_rfl) (by kernel_rfl) (fun _ _ _ h => h) ?_ (by assumption) ?_
                  rotate_left
                  · first | (refine Or.inl ⟨by rfl, ?_⟩; intro w hSw; (try dsimp only at hSw); go_simp; (try (with_reducible rfl)); done) | (refine Or.inr ⟨by rfl, ?_⟩; with_reducible rfl)
                  try simp only [Act.put, List.setIfInBounds_toArray, List.set_cons_zero, List.set_cons_succ]
                  refine wpAnyH_take (i := 24) (oi := { dst := some 46, op := Go.Op.binOp Go.BinOp.sub 3 (Go.Operand.tmp 45) (Go.Operand.const (Go.Value.int Go.IntKind.i64 1)) 3, type := 3, pos := _, after := _, guard := some (17, true) }) (v := ?_) rfl (by kernel_rfl) (by kernel_rfl) (by kernel_rfl) (fun _ _ _ h => h) ?_ (by assumption) ?_
                  rotate_left
                  · first | (refine Or.inl ⟨by rfl, ?_⟩; intro w hSw; (try dsimp only at hSw); go_simp; (try (with_reducible rfl)); done) | (refine Or.inr ⟨by rfl, ?_⟩; with_reducible rfl)
                  try simp only [Act.put, List.setIfInBounds_toArray, List.set_cons_zero, List.set_cons_succ]
                  refine wpAnyH_take (i := 25) (oi := { dst := some 47, op := Go.Op.indexAddr 25 (Go.Operand.tmp 44) (Go.Operand.tmp 46), type := 0, pos := _, after := _, guard := some (17, true) }) (v := ?_) rfl (by kernel_rfl) (by kernel_rfl) (by kernel_rfl) (fun _ _ _ h => h) ?_ (by assumption) ?_
                  rotate_left
                  · first | (refine Or.inl ⟨by rfl, ?_⟩; intro w hSw; (try dsimp only at hSw); go_simp; (try (with_reducible rfl)); done) | (refine Or.inr ⟨by rfl, ?_⟩; with_reducible rfl)
                  try simp only [Act.put, List.setIfInBounds_toArray, List.set_cons_zero, List.set_cons_succ]
                  refine wpAnyH_take (i := 26) (oi := { dst := some 48, op := Go.Op.load 3 (Go.Operand.tmp 47), type := 3, pos := _, after := _, guard := some (17, true) }) (v := ?_) rfl (by kernel_rfl) (by kernel_rfl) (by kernel_rfl) (fun _ _ _ h => h) ?_ (by assumption) ?_
                  rotate_left
                  · first | (refine Or.inl ⟨by rfl, ?_⟩; intro w hSw; (try dsimp only at hSw); go_simp; (try (with_reducible rfl)); done) | (refine Or.inr ⟨by rfl, ?_⟩; with_reducible rfl)
                  try simp only [Act.put, List.setIfInBounds_toArray, List.set_cons_zero, List.set_cons_succ]
                  refine wpAnyH_take (i := 27) (oi := { dst := some 49, op := Go.Op.binOp Go.BinOp.leq 3 (Go.Operand.tmp 43) (Go.Operand.tmp 48) 3, type := 4, pos := _, after := _, guard := some (17, true) }) (v := ?_) rfl (by kernel_rfl) (by kernel_rfl) (by kernel_rfl) (fun _ _ _ h => h) ?_ (by assumption) ?_
                  rotate_left
                  · first | (refine Or.inl ⟨by rfl, ?_⟩; intro w hSw; (try dsimp only at hSw); go_simp; (try (with_reducible rfl)); done) | (refine Or.inr ⟨by rfl, ?_⟩; with_reducible rfl)
                  try simp only [Act.put, List.setIfInBounds_toArray, List.set_cons_zero, List.set_cons_succ]
                  refine wpAnyH_take (i := 28) (oi := { dst := some 50, op := Go.Op.pick (Go.Operand.tmp 39) (Go.Operand.tmp 49) (Go.Operand.const (Go.Value.bool false)), type := 4, pos := _, after := _, guard := some (14, false) }) (v := ?_) rfl (by kernel_rfl) (by kernel_rfl) (by kernel_rfl) (fun _ _ _ h => h) ?_ (by assumption) ?_
                  rotate_left
                  · first | (refine Or.inl ⟨by rfl, ?_⟩; intro w hSw; (try dsimp only at hSw); go_simp; (try (with_reducible rfl)); done) | (refine Or.inr ⟨by rfl, ?_⟩; with_reducible rfl)
                  try simp only [Act.put, List.setIfInBounds_toArray, List.set_cons_zero, List.set_cons_succ]
                  refine wpAnyH_take (i := 29) (oi := { dst := some 51, op := Go.Op.pick (Go.Operand.tmp 36) (Go.Operand.const (Go.Value.bool true)) (Go.Operand.tmp 50), type := 4, pos := _, after := _, guard := none }) (v := ?_) rfl (by kernel_rfl) (by kernel_rfl) (by kernel_rfl) (fun _ _ _ h => h) ?_ (by assumption) ?_
                  rotate_left
                  · first | (refine Or.inl ⟨by rfl, ?_⟩; intro w hSw; (try dsimp only at hSw); go_simp; (try (with_reducible rfl)); done) | (refine Or.inr ⟨by rfl, ?_⟩; with_reducible rfl)
                  try simp only [Act.put, List.setIfInBounds_toArray, List.set_cons_zero, List.set_cons_succ]
                  refine wpAnyH_done (by kernel_rfl) ?_ _
                  go_wp2_with fail
                  go_roundw
                  case rel => exact ⟨(by first | exact HD.out.more _ | exact HD.out.one | exact HD.out), k + 1, by omega, by go_num, fun i hi => by
                    by_cases e : i = k
                    · subst e; rw [← HX.out, ← HY.out]; exact ⟨by omega, by omega, fun h => h4⟩
                    · exact HZ.out i (by omega)⟩
                  case measure => simp [intOf]; omega
                · have hno : ¬ CoalOK n l := fun h => by
                    have := (h k (by rw [← HN.out]; exact hkN)).2.2 (by omega); rw [← HX.out, ← HY.out] at this; omega
                  have HNO := hide hno; clear hno
                  have hb4 : decide (x ≤ y) = true := decide_eq_true (by omega)
                  go_wp2_with fail
                  refine wp_region_held_drew (S := fun w' => w'.cell? (ad.add k) = some (.int .i64 x) ∧ w'.cell? ⟨w.heap.size, 1, none⟩ = some (.int .i64 n) ∧ w'.cell? ⟨w.heap.size, 2, none⟩ = some (.int .i64 t) ∧ w'.cell? (ad.add (k - 1)) = some (.int .i64 y)) (by kernel_rfl) ⟨hcell, c1, c2, hcell'⟩ (fun hHeld => ?_)
                  refine wpAnyH_take (i := 0) (oi := { dst := some 22, op := Go.Op.move (Go.Operand.tmp 1), type := 25, pos := _, after := _, guard := none }) (v := ?_) rfl (by kernel_rfl) (by kernel_rfl) (by kernel_rfl) (fun _ _ _ h => h) ?_ (by assumption) ?_
                  rotate_left
                  · first | (refine Or.inl ⟨by rfl, ?_⟩; intro w hSw; (try dsimp only at hSw); go_simp; (try (with_reducible rfl)); done) | (refine Or.inr ⟨by rfl, ?_⟩; with_reducible rfl)
                  try simp only [Act.put, List.setIfInBounds_toArray, List.set_cons_zero, List.set_cons_succ]
                  refine wpAnyH_take (i := 1) (oi := { dst := some 23, op := Go.Op.move (Go.Operand.tmp 5), type := 3, pos := _, after := _, guard := none }) (v := ?_) rfl (by kernel_rfl) (by kernel_rfl) (by kernel_rfl) (fun _ _ _ h => h) ?_ (by assumption) ?_
                  rotate_left
                  · first | (refine Or.inl ⟨by rfl, ?_⟩; intro w hSw; (try dsimp only at hSw); go_simp; (try (with_reducible rfl)); done) | (refine Or.inr ⟨by rfl, ?_⟩; with_reducible rfl)
                  try simp only [Act.put, List.setIfInBounds_toArray, List.set_cons_zero, List.set_cons_succ]
                  refine wpAnyH_take (i := 2) (oi := { dst := some 24, op := Go.Op.indexAddr 25 (Go.Operand.tmp 22) (Go.Operand.tmp 23), type := 0, pos := _, after := _, guard := none }) (v := ?_) rfl (by kernel_rfl) (by kernel_rfl) (by kernel_rfl) (fun _ _ _ h => h) ?_ (by assumption) ?_
                  rotate_left
                  · first | (refine Or.inl ⟨by rfl, ?_⟩; intro w hSw; (try dsimp only at hSw); go_simp; (try (with_reducible rfl)); done) | (refine Or.inr ⟨by rfl, ?_⟩; with_reducible rfl)
                  try simp only [Act.put, List.setIfInBounds_toArray, List.set_cons_zero, List.set_cons_succ]
                  refine wpAnyH_take (i := 3) (oi := { dst := some 25, op := Go.Op.load 3 (Go.Operand.tmp 24), type := 3, pos := _, after := _, guard := none }) (v := ?_) rfl (by kernel_rfl) (by kernel_rfl) (by kernel_rfl) (fun _ _ _ h => h) ?_ (by assumption) ?_
                  rotate_left
                  · first | (refine Or.inl ⟨by rfl, ?_⟩; intro w hSw; (try dsimp only at hSw); go_simp; (try (with_reducible rfl)); done) | (refine Or.inr ⟨by rfl, ?_⟩; with_reducible rfl)
                  try simp only [Act.put, List.setIfInBounds_toArray, List.set_cons_zero, List.set_cons_succ]
                  refine wpAnyH_take (i := 4) (oi := { dst := some 26, op := Go.Op.binOp Go.BinOp.lss 3 (Go.Operand.tmp 25) (Go.Operand.const (Go.Value.int Go.IntKind.i64 1)) 3, type := 4, pos := _, after := _, guard := none }) (v := ?_) rfl (by kernel_rfl) (by kernel_rfl) (by kernel_rfl) (fun _ _ _ h => h) ?_ (by assumption) ?_
                  rotate_left
                  · first | (refine Or.inl ⟨by rfl, ?_⟩; intro w hSw; (try dsimp only at hSw); go_simp; (try (with_reducible rfl)); done) | (refine Or.inr ⟨by rfl, ?_⟩; with_reducible rfl)
                  try simp only [Act.put, List.setIfInBounds_toArray, List.set_cons_zero, List.set_cons_succ]
                  refine wpAnyH_take (i := 5) (oi := { dst := some 27, op := Go.Op.move (Go.Operand.tmp 26), type := 4, pos := _, after := _, guard := none }) (v := ?_) rfl (by kernel_rfl) (by kernel_rfl) (by kernel_rfl) (fun _ _ _ h => h) ?_ (by assumption) ?_
                  rotate_left
                  · first | (refine Or.inl ⟨by rfl, ?_⟩; intro w hSw; (try dsimp only at hSw); go_simp; (try (with_reducible rfl)); done) | (refine Or.inr ⟨by rfl, ?_⟩; with_reducible rfl)
                  try simp only [Act.put, List.setIfInBounds_toArray, List.set_cons_zero, List.set_cons_succ]
                  refine wpAnyH_take (i := 6) (oi := { dst := some 28, op := Go.Op.move (Go.Operand.tmp 1), type := 25, pos := _, after := _, guard := some (5, false) }) (v := ?_) rfl (by kernel_rfl) (by kernel_rfl) (by kernel_rfl) (fun _ _ _ h => h) ?_ (by assumption) ?_
                  rotate_left
                  · first | (refine Or.inl ⟨by rfl, ?_⟩; intro w hSw; (try dsimp only at hSw); go_simp; (try (with_reducible rfl)); done) | (refine Or.inr ⟨by rfl, ?_⟩; with_reducible rfl)
                  try simp only [Act.put, List.setIfInBounds_toArray, List.set_cons_zero, List.set_cons_succ]
                  refine wpAnyH_take (i := 7) (oi := { dst := some 29, op := Go.Op.move (Go.Operand.tmp 5), type := 3, pos := _, after := _, guard := some (5, false) }) (v := ?_) rfl (by kernel_rfl) (by kernel_rfl) (by kernel_rfl) (fun _ _ _ h => h) ?_ (by assumption) ?_
                  rotate_left
                  · first | (refine Or.inl ⟨by rfl, ?_⟩; intro w hSw; (try dsimp only at hSw); go_simp; (try (with_reducible rfl)); done) | (refine Or.inr ⟨by rfl, ?_⟩; with_reducible rfl)
                  try simp only [Act.put, List.setIfInBounds_toArray, List.set_cons_zero, List.set_cons_succ]
                  refine wpAnyH_take (i := 8) (oi := { dst := some 30, op := Go.Op.indexAddr 25 (Go.Operand.tmp 28) (Go.Operand.tmp 29), type := 0, pos := _, after := _, guard := some (5, false) }) (v := ?_) rfl (by kernel_rfl) (by kernel_rfl) (by kernel_rfl) (fun _ _ _ h => h) ?_ (by assumption) ?_
                  rotate_left
                  · first | (refine Or.inl ⟨by rfl, ?_⟩; intro w hSw; (try dsimp only at hSw); go_simp; (try (with_reducible rfl)); done) | (refine Or.inr ⟨by rfl, ?_⟩; with_reducible rfl)
                  try simp only [Act.put, List.setIfInBounds_toArray, List.set_cons_zero, List.set_cons_succ]
                  refine wpAnyH_take (i := 9) (oi := { dst := some 31, op := Go.Op.load 3 (Go.Operand.tmp 30), type := 3, pos := _, after := _, guard := some (5, false) }) (v := ?_) rfl (by kernel_rfl) (by kernel_rfl) (by kernel_rfl) (fun _ _ _ h => h) ?_ (by assumption) ?_
                  rotate_left
                  · first | (refine Or.inl ⟨by rfl, ?_⟩; intro w hSw; (try dsimp only at hSw); go_simp; (try (with_reducible rfl)); done) | (refine Or.inr ⟨by rfl, ?_⟩; with_reducible rfl)
                  try simp only [Act.put, List.setIfInBounds_toArray, List.set_cons_zero, List.set_cons_succ]
                  refine wpAnyH_take (i := 10) (oi := { dst := some 32, op := Go.Op.fieldAddr 24 (Go.Operand.tmp 2) 1, type := 0, pos := _, after := _, guard := some (5, false) }) (v := ?_) rfl (by kernel_rfl) (by kernel_rfl) (by kernel_rfl) (fun _ _ _ h => h) ?_ (by assumption) ?_
                  rotate_left
                  · first | (refine Or.inl ⟨by rfl, ?_⟩; intro w hSw; (try dsimp only at hSw); go_simp; (try (with_reducible rfl)); done) | (refine Or.inr ⟨by rfl, ?_⟩; with_reducible rfl)
                  try simp only [Act.put, List.setIfInBounds_toArray, List.set_cons_zero, List.set_cons_succ]
                  refine wpAnyH_take (i := 11) (oi := { dst := some 33, op := Go.Op.load 3 (Go.Operand.tmp 32), type := 3, pos := _, after := _, guard := some (5, false) }) (v := ?_) rfl (by kernel_rfl) (by kernel_rfl) (by kernel_rfl) (fun _ _ _ h => h) ?_ (by assumption) ?_
                  rotate_left
                  · first | (refine Or.inl ⟨by rfl, ?_⟩; intro w hSw; (try dsimp only at hSw); go_simp; (try (with_reducible rfl)); done) | (refine Or.inr ⟨by rfl, ?_⟩; with_reducible rfl)
                  try simp only [Act.put, List.setIfInBounds_toArray, List.set_cons_zero, List.set_cons_succ]
                  refine wpAnyH_take (i := 12) (oi := { dst := some 34, op := Go.Op.binOp Go.BinOp.gtr 3 (Go.Operand.tmp 31) (Go.Operand.tmp 33) 3, type := 4, pos := _, after := _, guard := some (5, false) }) (v := ?_) rfl (by kernel_rfl) (by kernel_rfl) (by kernel_rfl) (fun _ _ _ h => h) ?_ (by assumption) ?_
                  rotate_left
                  · first | (refine Or.inl ⟨by rfl, ?_⟩; intro w hSw; (try dsimp only at hSw); go_simp; (try (with_reducible rfl)); done) | (refine Or.inr ⟨by rfl, ?_⟩; with_reducible rfl)
                  try simp only [Act.put, List.setIfInBounds_toArray, List.set_cons_zero, List.set_cons_succ]
                  refine wpAnyH_take (i := 13) (oi := { dst := some 35, op := Go.Op.pick (Go.Operand.tmp 27) (Go.Operand.const (Go.Value.bool true)) (Go.Operand.tmp 34), type := 4, pos := _, after := _, guard := none }) (v := ?_) rfl (by kernel_rfl) (by kernel_rfl) (by kernel_rfl) (fun _ _ _ h => h) ?_ (by assumption) ?_
                  rotate_left
                  · first | (refine Or.inl ⟨by rfl, ?_⟩; intro w hSw; (try dsimp only at hSw); go_simp; (try (with_reducible rfl)); done) | (refine Or.inr ⟨by rfl, ?_⟩; with_reducible rfl)
                  try simp only [Act.put, List.setIfInBounds_toArray, List.set_cons_zero, List.set_cons_succ]
                  refine wpAnyH_take (i := 14) (oi := { dst := some 36, op := Go.Op.move (Go.Operand.tmp 35), type := 4, pos := _, after := _, guard := none }) (v := ?_) rfl (by kernel_rfl) (by kernel_rfl) (by kernel_rfl) (fun _ _ _ h => h) ?_ (by assumption) ?_
                  rotate_left
                  · first | (refine Or.inl ⟨by rfl, ?_⟩; intro w hSw; (try dsimp only at hSw); go_simp; (try (with_reducible rfl)); done) | (refine Or.inr ⟨by rfl, ?_⟩; with_reducible rfl)
                  try simp only [Act.put, List.setIfInBounds_toArray, List.set_cons_zero, List.set_cons_succ]
                  refine wpAnyH_take (i := 15) (oi := { dst := some 37, op := Go.Op.move (Go.Operand.tmp 5), type := 3, pos := _, after := _, guard := some (14, false) }) (v := ?_) rfl (by kernel_rfl) (by kernel_rfl) (by kernel_rfl) (fun _ _ _ h => h) ?_ (by assumption) ?_
                  rotate_left
                  · first | (refine Or.inl ⟨by rfl, ?_⟩; intro w hSw; (try dsimp only at hSw); go_simp; (try (with_reducible rfl)); done) | (refine Or.inr ⟨by rfl, ?_⟩; with_reducible rfl)
                  try simp only [Act.put, List.setIfInBounds_toArray, List.set_cons_zero, List.set_cons_succ]
                  refine wpAnyH_take (i := 16) (oi := { dst := some 38, op := Go.Op.binOp Go.BinOp.gtr 3 (Go.Operand.tmp 37) (Go.Operand.const (Go.Value.int Go.IntKind.i64 0)) 3, type := 4, pos := _, after := _, guard := some (14, false) }) (v := ?_) rfl (by kernel_rfl) (by kernel_rfl) (by kernel_rfl) (fun _ _ _ h => h) ?_ (by assumption) ?_
                  rotate_left
                  · first | (refine Or.inl ⟨by rfl, ?_⟩; intro w hSw; (try dsimp only at hSw); go_simp; (try (with_reducible rfl)); done) | (refine Or.inr ⟨by rfl, ?_⟩; with_reducible rfl)
                  try simp only [Act.put, List.setIfInBounds_toArray, List.set_cons_zero, List.set_cons_succ]
                  refine wpAnyH_take (i := 17) (oi := { dst := some 39, op := Go.Op.move (Go.Operand.tmp 38), type := 4, pos := _, after := _, guard := some (14, false) }) (v := ?_) rfl (by kernel_rfl) (by kernel_rfl) (by kernel_rfl) (fun _ _ _ h => h) ?_ (by assumption) ?_
                  rotate_left
                  · first | (refine Or.inl ⟨by rfl, ?_⟩; intro w hSw; (try dsimp only at hSw); go_simp; (try (with_reducible rfl)); done) | (refine Or.inr ⟨by rfl, ?_⟩; with_reducible rfl)
                  try simp only [Act.put, List.setIfInBounds_toArray, List.set_cons_zero, List.set_cons_succ]
                  refine wpAnyH_take (i := 18) (oi := { dst := some 40, op := Go.Op.move (Go.Operand.tmp 1), type := 25, pos := _, after := _, guard := some (17, true) }) (v := ?_) rfl (by kernel_rfl) (by kernel_rfl) (by kernel_rfl) (fun _ _ _ h => h) ?_ (by assumption) ?_
                  rotate_left
                  · first | (refine Or.inl ⟨by rfl, ?_⟩; intro w hSw; (try dsimp only at hSw); go_simp; (try (with_reducible rfl)); done) | (refine Or.inr ⟨by rfl, ?_⟩; with_reducible rfl)
                  try simp only [Act.put, List.setIfInBounds_toArray, List.set_cons_zero, List.set_cons_succ]
                  refine wpAnyH_take (i := 19) (oi := { dst := some 41, op := Go.Op.move (Go.Operand.tmp 5), type := 3, pos := _, after := _, guard := some (17, true) }) (v := ?_) rfl (by kernel_rfl) (by kernel_rfl) (by kernel_rfl) (fun _ _ _ h => h) ?_ (by assumption) ?_
                  rotate_left
                  · first | (refine Or.inl ⟨by rfl, ?_⟩; intro w hSw; (try dsimp only at hSw); go_simp; (try (with_reducible rfl)); done) | (refine Or.inr ⟨by rfl, ?_⟩; with_reducible rfl)
                  try simp only [Act.put, List.setIfInBounds_toArray, List.set_cons_zero, List.set_cons_succ]
                  refine wpAnyH_take (i := 20) (oi := { dst := some 42, op := Go.Op.indexAddr 25 (Go.Operand.tmp 40) (Go.Operand.tmp 41), type := 0, pos := _, after := _, guard := some (17, true) }) (v := ?_) rfl (by kernel_rfl) (by kernel_rfl) (by kernel_rfl) (fun _ _ _ h => h) ?_ (by assumption) ?_
                  rotate_left
                  · first | (refine Or.inl ⟨by rfl, ?_⟩; intro w hSw; (try dsimp only at hSw); go_simp; (try (with_reducible rfl)); done) | (refine Or.inr ⟨by rfl, ?_⟩; with_reducible rfl)
                  try simp only [Act.put, List.setIfInBounds_toArray, List.set_cons_zero, List.set_cons_succ]
                  refine wpAnyH_take (i := 21) (oi := { dst := some 43, op := Go.Op.load 3 (Go.Operand.tmp 42), type := 3, pos := _, after := _, guard := some (17, true) }) (v := ?_) rfl (by kernel_rfl) (by kernel_rfl) (by kernel_rfl) (fun _ _ _ h => h) ?_ (by assumption) ?_
                  rotate_left
                  · first | (refine Or.inl ⟨by rfl, ?_⟩; intro w hSw; (try dsimp only at hSw); go_simp; (try (with_reducible rfl)); done) | (refine Or.inr ⟨by rfl, ?_⟩; with_reducible rfl)
                  try simp only [Act.put, List.setIfInBounds_toArray, List.set_cons_zero, List.set_cons_succ]
                  refine wpAnyH_take (i := 22) (oi := { dst := some 44, op := Go.Op.move (Go.Operand.tmp 1), type := 25, pos := _, after := _, guard := some (17, true) }) (v := ?_) rfl (by kernel_rfl) (by kernel_rfl) (by kernel_rfl) (fun _ _ _ h => h) ?_ (by assumption) ?_
                  rotate_left
                  · first | (refine Or.inl ⟨by rfl, ?_⟩; intro w hSw; (try dsimp only at hSw); go_simp; (try (with_reducible rfl)); done) | (refine Or.inr ⟨by rfl, ?_⟩; with_reducible rfl)
                  try simp only [Act.put, List.setIfInBounds_toArray, List.set_cons_zero, List.set_cons_succ]
                  refine wpAnyH_take (i := 23) (oi := { dst := some 45, op := Go.Op.move (Go.Operand.tmp 5), type := 3, pos := _, after := _, guard := some (17, true) }) (v := ?_) rfl (by kernel_rfl) (by kernel_rfl) (by kernel_rfl) (fun _ _ _ h => h) ?_ (by assumption) ?_
                  rotate_left
                  · first | (refine Or.inl ⟨by rfl, ?_⟩; intro w hSw; (try dsimp only at hSw); go_simp; (try (with_reducible rfl)); done) | (refine Or.inr ⟨by rfl, ?_⟩; with_reducible rfl)
                  try simp only [Act.put, List.setIfInBounds_toArray, List.set_cons_zero, List.set_cons_succ]
                  refine wpAnyH_take (i := 24) (oi := { dst := some 46, op := Go.Op.binOp Go.BinOp.sub 3 (Go.Operand.tmp 45) (Go.Operand.const (Go.Value.int Go.IntKind.i64 1)) 3, type := 3, pos := _, after := _, guard := some (17, true) }) (v := ?_) rfl (by kernel_rfl) (by kernel_rfl) (by kernel_rfl) (fun _ _ _ h => h) ?_ (by assumption) ?_
                  rotate_left
                  · first | (refine Or.inl ⟨by rfl, ?_⟩; intro w hSw; (try dsimp only at hSw); go_simp; (try (with_reducible rfl)); done) | (refine Or.inr ⟨by rfl, ?_⟩; with_reducible rfl)
                  try simp only [Act.put, List.setIfInBounds_toArray, List.set_cons_zero, List.set_cons_succ]
                  refine wpAnyH_take (i := 25) (oi := { dst := some 47, op := Go.Op.indexAddr 25 (Go.Operand.tmp 44) (Go.Operand.tmp 46), type := 0, pos := _, after := _, guard := some (17, true) }) (v := ?_) rfl (by kernel_rfl) (by kernel_rfl) (by kernel_rfl) (fun _ _ _ h => h) ?_ (by assumption) ?_
                  rotate_left
                  · first | (refine Or.inl ⟨by rfl, ?_⟩; intro w hSw; (try dsimp only at hSw); go_simp; (try (with_reducible rfl)); done) | (refine Or.inr ⟨by rfl, ?_⟩; with_reducible rfl)
                  try simp only [Act.put, List.setIfInBounds_toArray, List.set_cons_zero, List.set_cons_succ]
                  refine wpAnyH_take (i := 26) (oi := { dst := some 48, op := Go.Op.load 3 (Go.Operand.tmp 47), type := 3, pos := _, after := _, guard := some (17, true) }) (v := ?_) rfl (by kernel_rfl) (by kernel_rfl) (by kernel_rfl) (fun _ _ _ h => h) ?_ (by assumption) ?_
                  rotate_left
                  · first | (refine Or.inl ⟨by rfl, ?_⟩; intro w hSw; (try dsimp only at hSw); go_simp; (try (with_reducible rfl)); done) | (refine Or.inr ⟨by rfl, ?_⟩; with_reducible rfl)
                  try simp only [Act.put, List.setIfInBounds_toArray, List.set_cons_zero, List.set_cons_succ]
                  refine wpAnyH_take (i := 27) (oi := { dst := some 49, op := Go.Op.binOp Go.BinOp.leq 3 (Go.Operand.tmp 43) (Go.Operand.tmp 48) 3, type := 4, pos := _, after := _, guard := some (17, true) }) (v := ?_) rfl (by kernel_rfl) (by kernel_rfl) (by kernel_rfl) (fun _ _ _ h => h) ?_ (by assumption) ?_
                  rotate_left
                  · first | (refine Or.inl ⟨by rfl, ?_⟩; intro w hSw; (try dsimp only at hSw); go_simp; (try (with_reducible rfl)); done) | (refine Or.inr ⟨by rfl, ?_⟩; with_reducible rfl)
                  try simp only [Act.put, List.setIfInBounds_toArray, List.set_cons_zero, List.set_cons_succ]
                  refine wpAnyH_take (i := 28) (oi := { dst := some 50, op := Go.Op.pick (Go.Operand.tmp 39) (Go.Operand.tmp 49) (Go.Operand.const (Go.Value.bool false)), type := 4, pos := _, after := _, guard := some (14, false) }) (v := ?_) rfl (by kernel_rfl) (by kernel_rfl) (by kernel_rfl) (fun _ _ _ h => h) ?_ (by assumption) ?_
                  rotate_left
                  · first | (refine Or.inl ⟨by rfl, ?_⟩; intro w hSw; (try dsimp only at hSw); go_simp; (try (with_reducible rfl)); done) | (refine Or.inr ⟨by rfl, ?_⟩; with_reducible rfl)
                  try simp only [Act.put, List.setIfInBounds_toArray, List.set_cons_zero, List.set_cons_succ]
                  refine wpAnyH_take (i := 29) (oi := { dst := some 51, op := Go.Op.pick (Go.Operand.tmp 36) (Go.Operand.const (Go.Value.bool true)) (Go.Operand.tmp 50), type := 4, pos := _, after := _, guard := none }) (v := ?_) rfl (by kernel_rfl) (by kernel_rfl) (by kernel_rfl) (fun _ _ _ h => h) ?_ (by assumption) ?_
                  rotate_left
                  · first | (refine Or.inl ⟨by rfl, ?_⟩; intro w hSw; (try dsimp only at hSw); go_simp; (try (with_reducible rfl)); done) | (refine Or.inr ⟨by rfl, ?_⟩; with_reducible rfl)
                  try simp only [Act.put, List.setIfInBounds_toArray, List.set_cons_zero, List.set_cons_succ]
                  refine wpAnyH_done (by kernel_rfl) ?_ _
                  go_wp2_with fail
                  go_ret
                  exact ⟨Bl.dr HB2.out (by first | exact HD.out.more _ | exact HD.out.one | exact HD.out), false, rfl, iff_of_false (by simp) fun h => HNO.out h.2.2⟩
        · obtain rfl : k = N := by omega
          go_wp2_with fail
          go_ret
          exact ⟨Bl.dr HB2.out HD.out, true, rfl, iff_of_true rfl ⟨hv, by rw [← HN.out]; exact hlt, fun i hi => HZ.out i (by rw [HN.out]; exact hi)⟩⟩
    · go_enter Tryd.func72, Tryd.ntmps72
      go_wp2_with fail
      refine HVD.out.mono ?_
      rintro e w2 ⟨rfl, hB2⟩
      have c2 : w2.cell? ⟨w.heap.size, 2, none⟩ = some (.int .i64 t) := cell_bl hB2 (by rw [World.cell?_alloc_at _ _ _ _ rfl]; rfl)
      go_wp2_with fail
      go_ret
      exact ⟨Bl.then HB.out HB.out.size hB2, false, rfl, iff_of_false (by simp) fun h => by have := h.2.1; rw [← HN.out] at this; omega⟩
end Pv

set_option linter.unusedVariables false
set_option linter.unusedSimpArgs false
namespace Pv
open Go Go.RowKit Go.Proofs

theorem tapes_any {p : Nat} {l : List Nat} : (!(l.any fun x => decide (p ≤ x))) = true ↔ ∀ x, x ∈ l → x < p := by
  constructor
  · intro h x hx
    rcases Nat.lt_or_ge x p with h' | h'
    · exact h'
    · rw [List.any_eq_true.2 ⟨x, hx, decide_eq_true h'⟩] at h; cases h
  · intro h
    cases e : l.any fun x => decide (p ≤ x) with
    | false => rfl
    | true =>
      exfalso
      obtain ⟨x, h1, h2⟩ := List.any_eq_true.1 e
      have := h x h1
      have := of_decide_eq_true h2
      omega
set_option maxHeartbeats 4000000 in
set_option maxRecDepth 100000 in
theorem rscen_any (p : Nat) (n t : Int) (vc vd vt : Value) (corrupt : List Int) (devs : List Dev) (tapes : List (List Nat)) (S S' S'' : Nat → Prop) (w : World) (hc : (kS kI).R w S [vc] corrupt) (hd : (kS kDev).R w S' [vd] devs) (ht : (kS (kS kU)).R w S'' [vt] tapes) :
    Calls Tryd.prog 55 #[scVal p n t vc vd vt] w fun e w' => ScP p n t corrupt devs tapes w e w' := by
  have hclow := (kS kI).low hc
  have hdlow := (kS kDev).low hd
  have htlow := (kS (kS kU)).low ht
  obtain ⟨Ac, cc, rfl, _, _⟩ := kS_len hc
  obtain ⟨Ad, cd, rfl, ⟨hd1, hd2⟩, hdc⟩ := rdDev hdlow
  obtain ⟨At, ct, rfl, ⟨ht1, ht2⟩, htc⟩ := rd_open rfl htlow
  simp only [scVal]
  obtain ⟨D0, hD0⟩ : ∃ D0, D0 = corrupt.length := ⟨_, rfl⟩
  obtain ⟨D1, hD1⟩ : ∃ D1, D1 = devs.length := ⟨_, rfl⟩
  obtain ⟨D2, hD2⟩ : ∃ D2, D2 = tapes.length := ⟨_, rfl⟩
  rw [← hD0] at hclow ⊢
  rw [← hD1] at hd1 ⊢
  rw [← hD2] at ht1 ⊢
  obtain ⟨W, hW⟩ : ∃ W, W = w.alloc (.cells #[.int .u64 p, .int .i64 n, .int .i64 t, .slice Ac D0 cc, .slice Ad D1 cd, .slice At D2 ct] 29) := ⟨_, rfl⟩
  have hB : Bl w W := by rw [hW]; exact (Below.refl _ _).alloc (Nat.le_refl _) _
  have hbox : ∀ i u, (#[.int .u64 p, .int .i64 n, .int .i64 t, .slice Ac D0 cc, .slice Ad D1 cd, .slice At D2 ct] : Array Value)[i]? = some u → W.cell? ⟨w.heap.size, i, none⟩ = some u := fun i u hu => by
    rw [hW, World.cell?_alloc_at _ _ _ _ rfl]; exact hu
  have hval := rvalid_any p n t W
  have hcoal := fun W' (h : Bl W W') => rcoal_any p n t (.slice Ac D0 cc) corrupt _ W' ((kS kI).bl hclow (Bl.then hB hB.size h))
  have HW := hide hW; have HB := hide hB; have HBX := hide hbox; have HVA := hide hval; have HCO := hide hcoal
  have HDC := hide hdc; have HTC := hide htc; have HD1 := hide hD1; have HD2 := hide hD2
  clear hW hB hbox hval hcoal hclow hdlow htlow hc hd ht hdc htc hD0 hD1 hD2
  have b0 := HBX.out 0 _ rfl
  have b1 := HBX.out 1 _ rfl
  have b2 := HBX.out 2 _ rfl
  have b3 := HBX.out 3 _ rfl
  rw [HW.out] at b0 b1 b2 b3
  go_enter Tryd.func55, Tryd.ntmps55
  go_wp2_with fail
  rw [← HW.out]
  clear b0 b1 b2 b3
  refine HVA.out.mono ?_
  rintro e W2 ⟨rfl, hB2⟩
  have c0 := cell_bl hB2 (HBX.out 0 _ rfl)
  have c1 := cell_bl hB2 (HBX.out 1 _ rfl)
  have c2 := cell_bl hB2 (HBX.out 2 _ rfl)
  have c3 := cell_bl hB2 (HBX.out 3 _ rfl)
  have HB2 := hide hB2; clear hB2
  have HBT := hide (Bl.then HB.out HB.out.size HB2.out)
  cases hv : vP p n t with
  | false =>
    have HNO := hide (show ¬ ScOK p n t corrupt devs tapes from fun h => by have := h.1; rw [hv] at this; cases this)
    clear hv
    go_wp2_with fail
    go_ret
    exact ⟨HBT.out, false, rfl, iff_of_false (by simp) HNO.out⟩
  | true =>
    have HV := hide hv; clear hv
    go_wp2_with fail
    refine (HCO.out _ HB2.out).mono ?_
    rintro e W3 ⟨hB3, b, rfl, hb⟩
    have hB13 := Bl.then HB2.out HB2.out.size hB3
    have d1 := cell_bl hB13 (HBX.out 1 _ rfl)
    have d5 := cell_bl hB13 (HBX.out 5 _ rfl)
    have d4 := cell_bl hB13 (HBX.out 4 _ rfl)
    have HB13 := hide hB13; have HBB := hide hb
    have HBW3 := hide (Bl.then HB.out HB.out.size hB13)
    clear hB13 hB3 hb c0 c1 c2 c3
    cases b with
    | false =>
      go_wp2_with fail
      go_ret
      exact ⟨HBW3.out, false, rfl, iff_of_false (by simp) fun h => by have := HBB.out.2 ⟨h.1, h.2.1, h.2.2.1⟩; simp at this⟩
    | true =>
      by_cases hlt : (D2 : Int) = n
      · have e1 : ((D2 : Int) != n) = false := by rw [bne_eq_false_iff_eq]; exact hlt
        have HLT := hide hlt; clear hlt
        go_wp2_with fail
        clear d1 d5 d4
        go_loopw [3] (fun ix wr => ∃ k : Nat, k ≤ D1 ∧ ix = .int .i64 k ∧ Bl W3 wr ∧ ∀ i, i < k → ∀ d, devs[i]? = some d → DevB n d = true) (fun ix _ => D1 - (intOf ix).toNat)
        case atStart => exact ⟨0, by omega, rfl, Below.refl _ _, fun i h => by omega⟩
        case round =>
          obtain ⟨k, hk, rfl, hBk, hz⟩ := hrel
          have HBK := hide hBk; have HZ := hide hz; clear hBk hz
          have hBW : Bl W wr := Bl.then HB13.out HB13.out.size HBK.out
          have f4 := cell_bl hBW (HBX.out 4 _ rfl)
          by_cases hkD : k < D1
          · as_aux_lemma =>
            have hkl : k < devs.length := by rw [← HD1.out]; exact hkD
            obtain ⟨ad, rfl, _, hok, hdd⟩ := HDC.out k devs[k] (List.getElem?_eq_getElem hkl)
            have hge : devs[k]? = some devs[k] := List.getElem?_eq_getElem hkl
            obtain ⟨d, hd⟩ : ∃ d, d = devs[k] := ⟨_, rfl⟩
            rw [← hd] at hdd hge
            have HGE := hide hge; clear hd hok hge
            have hki : (k : Int) < (D1 : Int) := by omega
            have hk0 : (0 : Int) ≤ (k : Int) := by omega
            have f0 := cell_bl hBW (HBX.out 0 _ rfl)
            have f1 := cell_bl hBW (HBX.out 1 _ rfl)
            have f2 := cell_bl hBW (HBX.out 2 _ rfl)
            have hBw : Bl w wr := Bl.then HB.out HB.out.size hBW
            have hdv := fun W => rdev_any p n t d W
            obtain ⟨r, s, dd, a, kd, kk, o, ii⟩ := d
            have q0 := cell_bl hBw (hdd 0 _ rfl)
            have q1 := cell_bl hBw (hdd 1 _ rfl)
            have q2 := cell_bl hBw (hdd 2 _ rfl)
            have q3 := cell_bl hBw (hdd 3 _ rfl)
            have q4 := cell_bl hBw (hdd 4 _ rfl)
            have q5 := cell_bl hBw (hdd 5 _ rfl)
            have q6 := cell_bl hBw (hdd 6 _ rfl)
            have q7 := cell_bl hBw (hdd 7 _ rfl)
            rw [add_at _ _ _ (by omega)] at q1 q2 q3 q4 q5 q6 q7
            rw [Nat.add_zero] at q0
            simp only [Dev.val] at hdv
            have HDV := hide hdv; have HBWR := hide hBW
            clear hdv hdd hBw hBW
            cases hb : DevB n ⟨r, s, dd, a, kd, kk, o, ii⟩ with
            | false =>
              rw [hb] at HDV
              have HNO := hide (show ¬ ScOK p n t corrupt devs tapes from fun h => by
                have := h.2.2.2.2.1 _ (List.mem_of_getElem? HGE.out); rw [hb] at this; cases this)
              clear hb
              go_wp2_with fail
              refine wp_region_held_drew (S := fun w' => Bl wr w') (by kernel_rfl) ((Dr.one (Dr.refl wr)).below _) (fun hHeld => ?_)
              refine wpAnyH_take (i := 0) (oi := { dst := some 33, op := Go.Op.fieldAddr 29 (Go.Operand.tmp 1) 0, type := 0, pos := _, after := _, guard := none }) (v := ?_) rfl (by kernel_rfl) (by kernel_rfl) (by kernel_rfl) (fun _ _ _ h => h) ?_ (by assumption) ?_
              rotate_left
              · first | (refine Or.inl ⟨by rfl, ?_⟩; intro w hSw; have z0 := cell_bl hSw f0; have z1 := cell_bl hSw f1; have z2 := cell_bl hSw f2; have z3 := cell_bl hSw f4; have z4 := cell_bl hSw q0; have z5 := cell_bl hSw q1; have z6 := cell_bl hSw q2; have z7 := cell_bl hSw q3; have z8 := cell_bl hSw q4; have z9 := cell_bl hSw q5; have z10 := cell_bl hSw q6; have z11 := cell_bl hSw q7; go_simp; (try (with_reducible rfl)); done) | (refine Or.inr ⟨by rfl, ?_⟩; with_reducible rfl)
              try simp only [Act.put, List.setIfInBounds_toArray, List.set_cons_zero, List.set_cons_succ]
              refine wpAnyH_take (i := 1) (oi := { dst := some 34, op := Go.Op.load 24 (Go.Operand.tmp 33), type := 24, pos := _, after := _, guard := none }) (v := ?_) rfl (by kernel_rfl) (by kernel_rfl) (by kernel_rfl) (fun _ _ _ h => h) ?_ (by assumption) ?_
              rotate_left
              · first | (refine Or.inl ⟨by rfl, ?_⟩; intro w hSw; have z0 := cell_bl hSw f0; have z1 := cell_bl hSw f1; have z2 := cell_bl hSw f2; have z3 := cell_bl hSw f4; have z4 := cell_bl hSw q0; have z5 := cell_bl hSw q1; have z6 := cell_bl hSw q2; have z7 := cell_bl hSw q3; have z8 := cell_bl hSw q4; have z9 := cell_bl hSw q5; have z10 := cell_bl hSw q6; have z11 := cell_bl hSw q7; go_simp; (try (with_reducible rfl)); done) | (refine Or.inr ⟨by rfl, ?_⟩; with_reducible rfl)
              try simp only [Act.put, List.setIfInBounds_toArray, List.set_cons_zero, List.set_cons_succ]
              refine wpAnyH_take (i := 2) (oi := { dst := some 35, op := Go.Op.fieldAddr 29 (Go.Operand.tmp 1) 2, type := 0, pos := _, after := _, guard := none }) (v := ?_) rfl (by kernel_rfl) (by kernel_rfl) (by kernel_rfl) (fun _ _ _ h => h) ?_ (by assumption) ?_
              rotate_left
              · first | (refine Or.inl ⟨by rfl, ?_⟩; intro w hSw; have z0 := cell_bl hSw f0; have z1 := cell_bl hSw f1; have z2 := cell_bl hSw f2; have z3 := cell_bl hSw f4; have z4 := cell_bl hSw q0; have z5 := cell_bl hSw q1; have z6 := cell_bl hSw q2; have z7 := cell_bl hSw q3; have z8 := cell_bl hSw q4; have z9 := cell_bl hSw q5; have z10 := cell_bl hSw q6; have z11 := cell_bl hSw q7; go_simp; (try (with_reducible rfl)); done) | (refine Or.inr ⟨by rfl, ?_⟩; with_reducible rfl)
              try simp only [Act.put, List.setIfInBounds_toArray, List.set_cons_zero, List.set_cons_succ]
              refine wpAnyH_take (i := 3) (oi := { dst := some 36, op := Go.Op.load 26 (Go.Operand.tmp 35), type := 26, pos := _, after := _, guard := none }) (v := ?_) rfl (by kernel_rfl) (by kernel_rfl) (by kernel_rfl) (fun _ _ _ h => h) ?_ (by assumption) ?_
              rotate_left
              · first | (refine Or.inl ⟨by rfl, ?_⟩; intro w hSw; have z0 := cell_bl hSw f0; have z1 := cell_bl hSw f1; have z2 := cell_bl hSw f2; have z3 := cell_bl hSw f4; have z4 := cell_bl hSw q0; have z5 := cell_bl hSw q1; have z6 := cell_bl hSw q2; have z7 := cell_bl hSw q3; have z8 := cell_bl hSw q4; have z9 := cell_bl hSw q5; have z10 := cell_bl hSw q6; have z11 := cell_bl hSw q7; go_simp; (try (with_reducible rfl)); done) | (refine Or.inr ⟨by rfl, ?_⟩; with_reducible rfl)
              try simp only [Act.put, List.setIfInBounds_toArray, List.set_cons_zero, List.set_cons_succ]
              refine wpAnyH_take (i := 4) (oi := { dst := some 37, op := Go.Op.move (Go.Operand.tmp 3), type := 3, pos := _, after := _, guard := none }) (v := ?_) rfl (by kernel_rfl) (by kernel_rfl) (by kernel_rfl) (fun _ _ _ h => h) ?_ (by assumption) ?_
              rotate_left
              · first | (refine Or.inl ⟨by rfl, ?_⟩; intro w hSw; have z0 := cell_bl hSw f0; have z1 := cell_bl hSw f1; have z2 := cell_bl hSw f2; have z3 := cell_bl hSw f4; have z4 := cell_bl hSw q0; have z5 := cell_bl hSw q1; have z6 := cell_bl hSw q2; have z7 := cell_bl hSw q3; have z8 := cell_bl hSw q4; have z9 := cell_bl hSw q5; have z10 := cell_bl hSw q6; have z11 := cell_bl hSw q7; go_simp; (try (with_reducible rfl)); done) | (refine Or.inr ⟨by rfl, ?_⟩; with_reducible rfl)
              try simp only [Act.put, List.setIfInBounds_toArray, List.set_cons_zero, List.set_cons_succ]
              refine wpAnyH_take (i := 5) (oi := { dst := some 38, op := Go.Op.indexAddr 26 (Go.Operand.tmp 36) (Go.Operand.tmp 37), type := 0, pos := _, after := _, guard := none }) (v := ?_) rfl (by kernel_rfl) (by kernel_rfl) (by kernel_rfl) (fun _ _ _ h => h) ?_ (by assumption) ?_
              rotate_left
              · first | (refine Or.inl ⟨by rfl, ?_⟩; intro w hSw; have z0 := cell_bl hSw f0; have z1 := cell_bl hSw f1; have z2 := cell_bl hSw f2; have z3 := cell_bl hSw f4; have z4 := cell_bl hSw q0; have z5 := cell_bl hSw q1; have z6 := cell_bl hSw q2; have z7 := cell_bl hSw q3; have z8 := cell_bl hSw q4; have z9 := cell_bl hSw q5; have z10 := cell_bl hSw q6; have z11 := cell_bl hSw q7; go_simp; (try (with_reducible rfl)); done) | (refine Or.inr ⟨by rfl, ?_⟩; with_reducible rfl)
              try simp only [Act.put, List.setIfInBounds_toArray, List.set_cons_zero, List.set_cons_succ]
              refine wpAnyH_take (i := 6) (oi := { dst := some 39, op := Go.Op.load 99 (Go.Operand.tmp 38), type := 99, pos := _, after := _, guard := none }) (v := ?_) rfl (by kernel_rfl) (by kernel_rfl) (by kernel_rfl) (fun _ _ _ h => h) ?_ (by assumption) ?_
              rotate_left
              · first | (refine Or.inl ⟨by rfl, ?_⟩; intro w hSw; have z0 := cell_bl hSw f0; have z1 := cell_bl hSw f1; have z2 := cell_bl hSw f2; have z3 := cell_bl hSw f4; have z4 := cell_bl hSw q0; have z5 := cell_bl hSw q1; have z6 := cell_bl hSw q2; have z7 := cell_bl hSw q3; have z8 := cell_bl hSw q4; have z9 := cell_bl hSw q5; have z10 := cell_bl hSw q6; have z11 := cell_bl hSw q7; go_simp; (try (with_reducible rfl)); done) | (refine Or.inr ⟨by rfl, ?_⟩; with_reducible rfl)
              try simp only [Act.put, List.setIfInBounds_toArray, List.set_cons_zero, List.set_cons_succ]
              refine wpAnyH_ready (rs := [7]) (by kernel_rfl) (by simp) ?_
              refine AllReadyH.cons (o := { dst := some 40, op := Go.Op.call { callee := Go.Callee.value (Go.Operand.func 73), args := #[Go.Operand.tmp 34, Go.Operand.tmp 39], argTypes := #[24, 99] }, type := 4, pos := _, after := _, guard := none }) rfl (fun K hK => ?_) AllReadyH.nil
              go_simp
              refine (HDV.out _).mono ?_
              rintro e w5 ⟨rfl, hB5⟩
              simp only []
              refine hK.out _ _ ?_ (fun hHeld => ?_)
              · exact (Bl.dr (Below.refl _ _) (Dr.one (Dr.refl _))).trans hB5
              clear hK K
              try simp only [Act.put, List.setIfInBounds_toArray, List.set_cons_zero, List.set_cons_succ]
              refine wpAnyH_take (i := 8) (oi := { dst := some 41, op := Go.Op.unOp Go.UnOp.not 4 (Go.Operand.tmp 40), type := 4, pos := _, after := _, guard := none }) (v := ?_) rfl (by kernel_rfl) (by kernel_rfl) (by kernel_rfl) (fun _ _ _ h => h) ?_ (by assumption) ?_
              rotate_left
              · first | (refine Or.inl ⟨by rfl, ?_⟩; intro w hSw; have z0 := cell_bl hSw f0; have z1 := cell_bl hSw f1; have z2 := cell_bl hSw f2; have z3 := cell_bl hSw f4; have z4 := cell_bl hSw q0; have z5 := cell_bl hSw q1; have z6 := cell_bl hSw q2; have z7 := cell_bl hSw q3; have z8 := cell_bl hSw q4; have z9 := cell_bl hSw q5; have z10 := cell_bl hSw q6; have z11 := cell_bl hSw q7; go_simp; (try (with_reducible rfl)); done) | (refine Or.inr ⟨by rfl, ?_⟩; with_reducible rfl)
              try simp only [Act.put, List.setIfInBounds_toArray, List.set_cons_zero, List.set_cons_succ]
              refine wpAnyH_done (by kernel_rfl) ?_ _
              all_goals (have HB5 := hide hB5; clear hB5)
              all_goals go_wp2_with fail
              all_goals go_ret
              all_goals exact ⟨Bl.then HB.out HB.out.size ((Bl.dr HBWR.out (Dr.one (Dr.refl _))).trans (HB5.out.mono HBWR.out.size)), false, rfl, iff_of_false (by simp) HNO.out⟩
            | true =>
              rw [hb] at HDV
              have HBT2 := hide hb; clear hb
              go_wp2_with fail
              refine wp_region_held_drew (S := fun w' => Bl wr w') (by kernel_rfl) ((Dr.one (Dr.refl wr)).below _) (fun hHeld => ?_)
              refine wpAnyH_take (i := 0) (oi := { dst := some 33, op := Go.Op.fieldAddr 29 (Go.Operand.tmp 1) 0, type := 0, pos := _, after := _, guard := none }) (v := ?_) rfl (by kernel_rfl) (by kernel_rfl) (by kernel_rfl) (fun _ _ _ h => h) ?_ (by assumption) ?_
              rotate_left
              · first | (refine Or.inl ⟨by rfl, ?_⟩; intro w hSw; have z0 := cell_bl hSw f0; have z1 := cell_bl hSw f1; have z2 := cell_bl hSw f2; have z3 := cell_bl hSw f4; have z4 := cell_bl hSw q0; have z5 := cell_bl hSw q1; have z6 := cell_bl hSw q2; have z7 := cell_bl hSw q3; have z8 := cell_bl hSw q4; have z9 := cell_bl hSw q5; have z10 := cell_bl hSw q6; have z11 := cell_bl hSw q7; go_simp; (try (with_reducible rfl)); done) | (refine Or.inr ⟨by rfl, ?_⟩; with_reducible rfl)
              try simp only [Act.put, List.setIfInBounds_toArray, List.set_cons_zero, List.set_cons_succ]
              refine wpAnyH_take (i := 1) (oi := { dst := some 34, op := Go.Op.load 24 (Go.Operand.tmp 33), type := 24, pos := _, after := _, guard := none }) (v := ?_) rfl (by kernel_rfl) (by kernel_rfl) (by kernel_rfl) (fun _ _ _ h => h) ?_ (by assumption) ?_
              rotate_left
              · first | (refine Or.inl ⟨by rfl, ?_⟩; intro w hSw; have z0 := cell_bl hSw f0; have z1 := cell_bl hSw f1; have z2 := cell_bl hSw f2; have z3 := cell_bl hSw f4; have z4 := cell_bl hSw q0; have z5 := cell_bl hSw q1; have z6 := cell_bl hSw q2; have z7 := cell_bl hSw q3; have z8 := cell_bl hSw q4; have z9 := cell_bl hSw q5; have z10 := cell_bl hSw q6; have z11 := cell_bl hSw q7; go_simp; (try (with_reducible rfl)); done) | (refine Or.inr ⟨by rfl, ?_⟩; with_reducible rfl)
              try simp only [Act.put, List.setIfInBounds_toArray, List.set_cons_zero, List.set_cons_succ]
              refine wpAnyH_take (i := 2) (oi := { dst := some 35, op := Go.Op.fieldAddr 29 (Go.Operand.tmp 1) 2, type := 0, pos := _, after := _, guard := none }) (v := ?_) rfl (by kernel_rfl) (by kernel_rfl) (by kernel_rfl) (fun _ _ _ h => h) ?_ (by assumption) ?_
              rotate_left
              · first | (refine Or.inl ⟨by rfl, ?_⟩; intro w hSw; have z0 := cell_bl hSw f0; have z1 := cell_bl hSw f1; have z2 := cell_bl hSw f2; have z3 := cell_bl hSw f4; have z4 := cell_bl hSw q0; have z5 := cell_bl hSw q1; have z6 := cell_bl hSw q2; have z7 := cell_bl hSw q3; have z8 := cell_bl hSw q4; have z9 := cell_bl hSw q5; have z10 := cell_bl hSw q6; have z11 := cell_bl hSw q7; go_simp; (try (with_reducible rfl)); done) | (refine Or.inr ⟨by rfl, ?_⟩; with_reducible rfl)
              try simp only [Act.put, List.setIfInBounds_toArray, List.set_cons_zero, List.set_cons_succ]
              refine wpAnyH_take (i := 3) (oi := { dst := some 36, op := Go.Op.load 26 (Go.Operand.tmp 35), type := 26, pos := _, after := _, guard := none }) (v := ?_) rfl (by kernel_rfl) (by kernel_rfl) (by kernel_rfl) (fun _ _ _ h => h) ?_ (by assumption) ?_
              rotate_left
              · first | (refine Or.inl ⟨by rfl, ?_⟩; intro w hSw; have z0 := cell_bl hSw f0; have z1 := cell_bl hSw f1; have z2 := cell_bl hSw f2; have z3 := cell_bl hSw f4; have z4 := cell_bl hSw q0; have z5 := cell_bl hSw q1; have z6 := cell_bl hSw q2; have z7 := cell_bl hSw q3; have z8 := cell_bl hSw q4; have z9 := cell_bl hSw q5; have z10 := cell_bl hSw q6; have z11 := cell_bl hSw q7; go_simp; (try (with_reducible rfl)); done) | (refine Or.inr ⟨by rfl, ?_⟩; with_reducible rfl)
              try simp only [Act.put, List.setIfInBounds_toArray, List.set_cons_zero, List.set_cons_succ]
              refine wpAnyH_take (i := 4) (oi := { dst := some 37, op := Go.Op.move (Go.Operand.tmp 3), type := 3, pos := _, after := _, guard := none }) (v := ?_) rfl (by kernel_rfl) (by kernel_rfl) (by kernel_rfl) (fun _ _ _ h => h) ?_ (by assumption) ?_
              rotate_left
              · first | (refine Or.inl ⟨by rfl, ?_⟩; intro w hSw; have z0 := cell_bl hSw f0; have z1 := cell_bl hSw f1; have z2 := cell_bl hSw f2; have z3 := cell_bl hSw f4; have z4 := cell_bl hSw q0; have z5 := cell_bl hSw q1; have z6 := cell_bl hSw q2; have z7 := cell_bl hSw q3; have z8 := cell_bl hSw q4; have z9 := cell_bl hSw q5; have z10 := cell_bl hSw q6; have z11 := cell_bl hSw q7; go_simp; (try (with_reducible rfl)); done) | (refine Or.inr ⟨by rfl, ?_⟩; with_reducible rfl)
              try simp only [Act.put, List.setIfInBounds_toArray, List.set_cons_zero, List.set_cons_succ]
              refine wpAnyH_take (i := 5) (oi := { dst := some 38, op := Go.Op.indexAddr 26 (Go.Operand.tmp 36) (Go.Operand.tmp 37), type := 0, pos := _, after := _, guard := none }) (v := ?_) rfl (by kernel_rfl) (by kernel_rfl) (by kernel_rfl) (fun _ _ _ h => h) ?_ (by assumption) ?_
              rotate_left
              · first | (refine Or.inl ⟨by rfl, ?_⟩; intro w hSw; have z0 := cell_bl hSw f0; have z1 := cell_bl hSw f1; have z2 := cell_bl hSw f2; have z3 := cell_bl hSw f4; have z4 := cell_bl hSw q0; have z5 := cell_bl hSw q1; have z6 := cell_bl hSw q2; have z7 := cell_bl hSw q3; have z8 := cell_bl hSw q4; have z9 := cell_bl hSw q5; have z10 := cell_bl hSw q6; have z11 := cell_bl hSw q7; go_simp; (try (with_reducible rfl)); done) | (refine Or.inr ⟨by rfl, ?_⟩; with_reducible rfl)
              try simp only [Act.put, List.setIfInBounds_toArray, List.set_cons_zero, List.set_cons_succ]
              refine wpAnyH_take (i := 6) (oi := { dst := some 39, op := Go.Op.load 99 (Go.Operand.tmp 38), type := 99, pos := _, after := _, guard := none }) (v := ?_) rfl (by kernel_rfl) (by kernel_rfl) (by kernel_rfl) (fun _ _ _ h => h) ?_ (by assumption) ?_
              rotate_left
              · first | (refine Or.inl ⟨by rfl, ?_⟩; intro w hSw; have z0 := cell_bl hSw f0; have z1 := cell_bl hSw f1; have z2 := cell_bl hSw f2; have z3 := cell_bl hSw f4; have z4 := cell_bl hSw q0; have z5 := cell_bl hSw q1; have z6 := cell_bl hSw q2; have z7 := cell_bl hSw q3; have z8 := cell_bl hSw q4; have z9 := cell_bl hSw q5; have z10 := cell_bl hSw q6; have z11 := cell_bl hSw q7; go_simp; (try (with_reducible rfl)); done) | (refine Or.inr ⟨by rfl, ?_⟩; with_reducible rfl)
              try simp only [Act.put, List.setIfInBounds_toArray, List.set_cons_zero, List.set_cons_succ]
              refine wpAnyH_ready (rs := [7]) (by kernel_rfl) (by simp) ?_
              refine AllReadyH.cons (o := { dst := some 40, op := Go.Op.call { callee := Go.Callee.value (Go.Operand.func 73), args := #[Go.Operand.tmp 34, Go.Operand.tmp 39], argTypes := #[24, 99] }, type := 4, pos := _, after := _, guard := none }) rfl (fun K hK => ?_) AllReadyH.nil
              go_simp
              refine (HDV.out _).mono ?_
              rintro e w5 ⟨rfl, hB5⟩
              simp only []
              refine hK.out _ _ ?_ (fun hHeld => ?_)
              · exact (Bl.dr (Below.refl _ _) (Dr.one (Dr.refl _))).trans hB5
              clear hK K
              try simp only [Act.put, List.setIfInBounds_toArray, List.set_cons_zero, List.set_cons_succ]
              refine wpAnyH_take (i := 8) (oi := { dst := some 41, op := Go.Op.unOp Go.UnOp.not 4 (Go.Operand.tmp 40), type := 4, pos := _, after := _, guard := none }) (v := ?_) rfl (by kernel_rfl) (by kernel_rfl) (by kernel_rfl) (fun _ _ _ h => h) ?_ (by assumption) ?_
              rotate_left
              · first | (refine Or.inl ⟨by rfl, ?_⟩; intro w hSw; have z0 := cell_bl hSw f0; have z1 := cell_bl hSw f1; have z2 := cell_bl hSw f2; have z3 := cell_bl hSw f4; have z4 := cell_bl hSw q0; have z5 := cell_bl hSw q1; have z6 := cell_bl hSw q2; have z7 := cell_bl hSw q3; have z8 := cell_bl hSw q4; have z9 := cell_bl hSw q5; have z10 := cell_bl hSw q6; have z11 := cell_bl hSw q7; go_simp; (try (with_reducible rfl)); done) | (refine Or.inr ⟨by rfl, ?_⟩; with_reducible rfl)
              try simp only [Act.put, List.setIfInBounds_toArray, List.set_cons_zero, List.set_cons_succ]
              refine wpAnyH_done (by kernel_rfl) ?_ _
              all_goals (have HB5 := hide hB5; clear hB5)
              all_goals go_wp2_with fail
              all_goals go_round
              all_goals (first
                | exact ⟨k + 1, by omega, by go_num, (Bl.dr HBK.out (Dr.one (Dr.refl _))).trans (HB5.out.mono HBK.out.size), fun i hi d' hd' => by
                    by_cases e : i = k
                    · rw [e, HGE.out] at hd'; injection hd' with hd'; rw [← hd']; exact HBT2.out
                    · exact HZ.out i (by omega) d' hd'⟩
                | (simp [intOf]; omega))
          · have hkD' : k = D1 := by omega
            have hall : ∀ d, d ∈ devs → DevB n d = true := fun d hd => by
              obtain ⟨i, hi, rfl⟩ := List.getElem_of_mem hd
              exact HZ.out i (by rw [hkD', HD1.out]; exact hi) _ (List.getElem?_eq_getElem hi)
            have HALL := hide hall
            have HBWR := hide hBW
            have f5 := cell_bl hBW (HBX.out 5 _ rfl)
            clear hall hBW HZ
            go_wp2_with fail
            clear f5 f4
            obtain ⟨Wk, hWk⟩ : ∃ Wk, Wk = wr := ⟨_, rfl⟩
            rw [← hWk] at HBWR HBK ⊢
            clear hWk
            go_loopw [4] (fun ix wr => ∃ k : Nat, k ≤ D2 ∧ ix = .int .i64 k ∧ Dr Wk wr ∧ ∀ i, i < k → ∀ l, tapes[i]? = some l → ∀ x, x ∈ l → x < p) (fun ix _ => D2 - (intOf ix).toNat)
            case atStart => exact ⟨0, by omega, rfl, Dr.refl _, fun i h => by omega⟩
            case round =>
              obtain ⟨j, hj, rfl, hD, hz⟩ := hrel
              have HDD := hide hD; have HZ := hide hz; clear hD hz
              have g5 := (HDD.out.cell _).trans (cell_bl HBWR.out (HBX.out 5 _ rfl))
              have g0 := (HDD.out.cell _).trans (cell_bl HBWR.out (HBX.out 0 _ rfl))
              have hBe : Bl w wr := Bl.dr (Bl.then HB.out HB.out.size HBWR.out) HDD.out
              by_cases hjD : j < D2
              · as_aux_lemma =>
                have hjl : j < tapes.length := by rw [← HD2.out]; exact hjD
                obtain ⟨ad, u, rfl, _, hu, hcu⟩ := HTC.out j tapes[j] (List.getElem?_eq_getElem hjl)
                have hge : tapes[j]? = some tapes[j] := List.getElem?_eq_getElem hjl
                obtain ⟨l, hl⟩ : ∃ l, l = tapes[j] := ⟨_, rfl⟩
                rw [← hl] at hu hge
                have HGE := hide hge; clear hl hge
                have hcu := cell_bl hBe hcu
                have hbl := fun m => rbelow_any p u l _ (wr.drewN m) ((kS kU).bl hu (Bl.drewN hBe m))
                have hji : (j : Int) < (D2 : Int) := by omega
                have hj0 : (0 : Int) ≤ (j : Int) := by omega
                have HBE := hide hBe; clear hBe hu
                cases hb : (!(l.any fun x => decide (p ≤ x))) with
                | false =>
                  rw [hb] at hbl
                  have HBL := hide hbl; clear hbl
                  have HNO := hide (show ¬ ScOK p n t corrupt devs tapes from fun h => by
                    have := tapes_any.2 (h.2.2.2.2.2 _ (List.mem_of_getElem? HGE.out)); rw [hb] at this; cases this)
                  clear hb
                  go_wp2_with fail
                  go_quiet ((first | (go_at_call 74; exact Calls.quiet_of_same (HBL.out _))))
                  go_wp2_with fail
                  go_ret
                  exact ⟨by first | exact HBE.out.drew | exact Bl.drewN HBE.out _ | exact HBE.out, false, rfl, iff_of_false (by simp) HNO.out⟩
                | true =>
                  rw [hb] at hbl
                  have HBL := hide hbl; clear hbl
                  have HT := hide (tapes_any.1 hb); clear hb
                  go_wp2_with fail
                  go_quiet ((first | (go_at_call 74; exact Calls.quiet_of_same (HBL.out _))))
                  go_wp2_with fail
                  go_roundw
                  case rel => exact ⟨j + 1, by omega, by go_num, by first | exact HDD.out.more _ | exact HDD.out.one | exact HDD.out, fun i hi l' hl' => by
                    by_cases e : i = j
                    · rw [e, HGE.out] at hl'; injection hl' with hl'; rw [← hl']; exact HT.out
                    · exact HZ.out i (by omega) l' hl'⟩
                  case measure => simp [intOf]; omega
              · have hjD' : j = D2 := by omega
                have hyes : ScOK p n t corrupt devs tapes := ⟨(HBB.out.1 (by first | trivial | rfl)).1, (HBB.out.1 (by first | trivial | rfl)).2.1, (HBB.out.1 (by first | trivial | rfl)).2.2, by rw [← HD2.out]; exact HLT.out, HALL.out, fun l hl => by
                  obtain ⟨i, hi, rfl⟩ := List.getElem_of_mem hl
                  exact HZ.out i (by rw [hjD', HD2.out]; exact hi) _ (List.getElem?_eq_getElem hi)⟩
                have HY := hide hyes; have HBE := hide hBe; clear hyes hBe
                go_wp2_with fail
                go_ret
                exact ⟨HBE.out, true, rfl, iff_of_true rfl HY.out⟩
      · have e1 : ((D2 : Int) != n) = true := by rw [bne_iff_ne]; exact hlt
        have HNO := hide (show ¬ ScOK p n t corrupt devs tapes from fun h => hlt (by rw [HD2.out]; exact h.2.2.2.1))
        clear hlt
        go_wp2_with fail
        go_ret
        exact ⟨HBW3.out, false, rfl, iff_of_false (by simp) HNO.out⟩
end Pv

set_option linter.unusedVariables false
set_option linter.unusedSimpArgs false
namespace Pv
open Go Go.RowKit Go.Proofs

set_option maxHeartbeats 400000 in
theorem rtnew_any (v : Value) (l : List Nat) (S : Nat → Prop) (w : World) (hr : (kS kU).R w S [v] l) (hl : l.length ≤ 1000000) :
    Calls Tryd.prog 59 #[v] w fun e w' => Bl w w' ∧ ∃ b, e = .returned (.pointer (some ⟨b, 0, none⟩)) ∧ w.heap.size ≤ b ∧ b < w'.heap.size := by
  have hlow := (kS kU).low hr
  obtain ⟨A, c, rfl, hn2, hc2⟩ := kS_len hr
  have HR : Hid ((kS kU).R (w.alloc (.cells #[] 22)) (Ne (some w.heap.size)) [.slice A l.length c] l) :=
    (kS kU).sub ((kS kU).kp hlow (Bl.kp ((Below.refl _ _).alloc (Nat.le_refl _) _) _)) fun b _ hb => by intro e; injection e with e; omega
  have hB : Bl w (w.alloc (.cells #[] 22)) := (Below.refl _ _).alloc (Nat.le_refl _) _
  have hO : Ow kU (w.alloc (.cells #[] 22)) w.heap.size 22 (.slice (some ⟨w.heap.size, 0, none⟩) 0 0) ([] : List Nat) := Ow.lit0 _ _ _ _ (Nat.le_refl _)
  clear hlow hr
  go_enter Tryd.func59, Tryd.ntmps59
  go_wp2_with (at_builtin; refine Ow.append_row kU (w0 := w) w.heap.size rfl _ _ 30 22 (.int .u64 0) 8 rfl Tryd.underlying30 cu64info rfl _ _ [] l rfl rfl hO hB (by simp) HR.out (by simp; omega) (by decide) ?_)
  intro v1 w2 hO2 hB2 _ _
  obtain ⟨A2, c2, rfl, _, _⟩ := hO2.slice
  have HB2 := hide hB2
  clear hO2 hB2 hB hO
  go_wp2_with fail
  go_ret
  exact ⟨HB2.out.alloc HB2.out.size _, _, rfl, HB2.out.size, by rw [Dr.alloc_heap, Array.size_push]; omega⟩
def RNewP (p n t : Nat) (corrupt : List Int) (devs : List Dev) (tapes : List (List Nat)) (w : World) (e : Ending) (w' : World) : Prop :=
  Bl w w' ∧ ((¬ ScOK p n t corrupt devs tapes ∧ e = .returned (.tuple #[.pointer none, .int .i64 1])) ∨
    (ScOK p n t corrupt devs tapes ∧ ∃ nb, e = .returned (.tuple #[.pointer (some ⟨nb, 0, none⟩), .int .i64 0])))
theorem rptrinfo : (Tryd.prog.info? 113).map (fun i => (i.zero, i.size, i.bytes)) = some (some (.pointer none), 1, 8) := by kernel_rfl
/-- the reference's network under construction -/
def RNwI (w wr : World) (nb : Nat) (C : List Value) (k : Nat) : Prop :=
  ∃ vtp ps, wr.heap[nb]? = some (.cells (C ++ [vtp]).toArray 112 (0, 0)) ∧ Ow kV wr w.heap.size 113 vtp ps ∧ ps.length = k ∧ vtp.ownBlock ≠ some nb ∧ vtp.ownBlock ≠ some w.heap.size ∧ w.heap.size < nb ∧ Bl w wr
theorem RNwI.step {w wr w5 w7 : World} {nb : Nat} {C : List Value} {vtp v7 : Value} {ps : List Value} {x : Value} (hbox : wr.heap[nb]? = some (.cells (C ++ [vtp]).toArray 112 (0, 0))) (hC : C.length = 8) (htp : Ow kV wr w.heap.size 113 vtp ps) (hne : vtp.ownBlock ≠ some nb) (hne0 : vtp.ownBlock ≠ some w.heap.size) (hnb : w.heap.size < nb) (hB : Bl w wr)
    (hB5 : Bl wr w5) (hg7 : w5.grownBy w7 vtp.ownBlock) (hat : v7.ownBlock = vtp.ownBlock ∨ ∃ b, v7.ownBlock = some b ∧ w5.heap.size ≤ b) (hO : Ow kV w7 w.heap.size 113 v7 (ps ++ [x])) : RNwI w (w7.setCell ⟨nb, 8, none⟩ v7) nb C (ps.length + 1) := by
  have hnbl := (Array.getElem?_eq_some_iff.1 hbox).1
  have hcell0 : w7.heap[nb]? = some (.cells (C ++ [vtp]).toArray 112 (0, 0)) := by
    rw [hg7.block nb (Nat.lt_of_lt_of_le hnbl hB5.size) (fun e => hne e.symm), hB5.block nb hnbl]; exact hbox
  have hown : v7.ownBlock ≠ some nb := fun e => by
    rcases hat_of hat nb e with h | h
    · exact hne h
    · have := hB5.size; omega
  have hown0 : v7.ownBlock ≠ some w.heap.size := fun e => by
    rcases hat_of hat _ e with h | h
    · exact hne0 h
    · have := hB5.size; omega
  refine ⟨v7, ps ++ [x], ?_, hO.set_far _ _ hown fun _ _ _ h => h, by simp, hown, hown0, hnb, ((hB.trans (hB5.mono hB.size)).grown hg7 (Nat.le_trans hB.size hB5.size) fun g hg => (htp.base g hg).1).setCell (Nat.le_of_lt hnb) _⟩
  simp [World.setCell, Array.getElem?_modify, hcell0, List.set_append, hC]
set_option maxHeartbeats 4000000 in
set_option maxRecDepth 100000 in
theorem rnew_any (p n t : Nat) (vc vd vt : Value) (corrupt : List Int) (devs : List Dev) (tapes : List (List Nat)) (w : World) (hc : (kS kI).R w Any [vc] corrupt) (hd : (kS kDev).R w Any [vd] devs) (ht : (kS (kS kU)).R w Any [vt] tapes) (htl : ∀ l, l ∈ tapes → l.length ≤ 1000000) :
    Calls Tryd.prog 43 #[scVal p n t vc vd vt] w fun e w' => RNewP p n t corrupt devs tapes w e w' := by
  have hclow := (kS kI).low hc
  have hdlow := (kS kDev).low hd
  have htlow := (kS (kS kU)).low ht
  obtain ⟨Ac, cc, rfl, _, _⟩ := kS_len hc
  obtain ⟨Ad, cd, rfl, _, _⟩ := kS_len hd
  obtain ⟨At, ct, rfl, ⟨hlt1, hlt2⟩, hrt⟩ := rd_open rfl htlow
  have hB0 : Bl w (w.alloc (.cells #[.int .u64 p, .int .i64 n, .int .i64 t, .slice Ac corrupt.length cc, .slice Ad devs.length cd, .slice At tapes.length ct] 29)) := (Below.refl _ _).alloc (Nat.le_refl _) _
  have hvs := rscen_any p n t (.slice Ac corrupt.length cc) (.slice Ad devs.length cd) (.slice At tapes.length ct) corrupt devs tapes _ _ _ _ ((kS kI).bl hclow hB0) ((kS kDev).bl hdlow hB0) ((kS (kS kU)).bl htlow hB0)
  simp only [scVal] at hvs ⊢
  have HVS := hide hvs; clear hvs
  have HB0 := hide hB0; clear hB0
  have HRT := hide hrt; clear hrt
  have HTL := hide htl; clear htl
  clear hclow hdlow htlow hc hd ht
  obtain ⟨D, hD⟩ : ∃ D, D = tapes.length := ⟨_, rfl⟩
  obtain ⟨D1, hD1⟩ : ∃ D1, D1 = corrupt.length := ⟨_, rfl⟩
  obtain ⟨D2, hD2⟩ : ∃ D2, D2 = devs.length := ⟨_, rfl⟩
  rw [← hD] at hlt1 HVS HB0 ⊢
  rw [← hD1] at HVS HB0 ⊢
  rw [← hD2] at HVS HB0 ⊢
  have HD := hide hD; clear hD hD1 hD2
  go_enter Tryd.func43, Tryd.ntmps43
  go_wp2_with fail
  refine HVS.out.mono ?_
  rintro e w2 ⟨hB2, b, rfl, hb⟩
  have HBB := hide hb; clear hb
  have HB2 := hide (Bl.then HB0.out HB0.out.size hB2)
  cases b with
  | false =>
    go_wp2_with fail
    go_ret2
    exact ⟨HB2.out, .inl ⟨fun h => by have := HBB.out.2 h; simp at this, rfl⟩⟩
  | true =>
    have hok : ScOK p n t corrupt devs tapes := HBB.out.1 (by first | trivial | rfl)
    have hn13 : n ≤ 13 := by
      have := hok.1
      simp only [vP, Bool.and_eq_true, decide_eq_true_eq] at this
      omega
    have hnD : D = n := by
      have h1 : (tapes.length : Int) = n := hok.2.2.2.1
      rw [← HD.out] at h1
      omega
    have HOK := hide hok; clear hok HBB
    have hbx : ∀ i u, (#[.int .u64 p, .int .i64 n, .int .i64 t, .slice Ac D1 cc, .slice Ad D2 cd, .slice At D ct] : Array Value)[i]? = some u → w2.cell? ⟨w.heap.size, i, none⟩ = some u := fun i u hu => cell_bl hB2 (by rw [World.cell?_alloc_at _ _ _ _ rfl]; exact hu)
    have c0 := hbx 0 _ rfl
    have c1 := hbx 1 _ rfl
    have c2 := hbx 2 _ rfl
    have c3 := hbx 3 _ rfl
    have c4 := hbx 4 _ rfl
    have c5 := hbx 5 _ rfl
    have hwl : w.heap.size < w2.heap.size := World.block_lt_of_cell? _ _ c0
    have hmk := fun W : World => run_make_row' (P := Tryd.prog) 90 46 (.slice none 0 0) 24 Tryd.underlying90 viewinfo rfl .i64 .i64 n (by omega) (by omega) W
    have HND := hide hnD
    clear hbx hB2 hnD
    go_wp2_with fail
    go_region_held3 (fun w' => w'.cell? ⟨w.heap.size, 0, none⟩ = some (.int .u64 (p : Int)) ∧ w'.cell? ⟨w.heap.size, 1, none⟩ = some (.int .i64 (n : Int)) ∧ w'.cell? ⟨w.heap.size, 2, none⟩ = some (.int .i64 (t : Int)) ∧ w'.cell? ⟨w.heap.size, 3, none⟩ = some (.slice Ac D1 cc) ∧ w'.cell? ⟨w.heap.size, 4, none⟩ = some (.slice Ad D2 cd) ∧ w'.cell? ⟨w.heap.size, 5, none⟩ = some (.slice At D ct))
      (first
        | (go_keep; done)
        | ((try go_split_ands); (repeat' apply And.intro) <;> first
            | assumption
            | (exact cell_bl ((Below.refl _ _).alloc (Nat.le_refl _) _) (by assumption))))
      (fail)
    obtain ⟨W0, hW0⟩ : ∃ W0, W0 = ((w2.alloc (.cells (madeCells #[.slice none 0 0] n) 46)).alloc (.cells #[.int .u64 p, .int .i64 n, .int .i64 t, .slice Ac D1 cc, .slice Ad D2 cd, .slice At D ct, .int .i64 0, .slice (some ⟨w2.heap.size, 0, none⟩) n n, .slice none 0 0] 112)).drew := ⟨_, rfl⟩
    rw [← hW0]
    obtain ⟨nb, hnb⟩ : ∃ nb, nb = w2.heap.size + 1 := ⟨_, rfl⟩
    obtain ⟨vb, hvb⟩ : ∃ vb, vb = w2.heap.size := ⟨_, rfl⟩
    rw [← hvb] at hW0 hnb ⊢
    rw [← hnb]
    have hB20 : Bl w2 W0 := by rw [hW0]; exact (((Below.refl _ _).alloc (Nat.le_refl _) _).alloc (by rw [Dr.alloc_heap, Array.size_push]; omega) _).drew
    have hI0 : RNwI w W0 nb [.int .u64 p, .int .i64 n, .int .i64 t, .slice Ac D1 cc, .slice Ad D2 cd, .slice At D ct, .int .i64 0, .slice (some ⟨vb, 0, none⟩) n n] 0 := by
      refine ⟨.slice none 0 0, [], ?_, Ow.nil _ _ _ _, rfl, fun e => by (cases e), fun e => by (cases e), by have := HB2.out.size; omega, HB2.out.trans (hB20.mono HB2.out.size)⟩
      rw [hW0, hnb, hvb]
      show ((w2.heap.push _).push _)[_]? = _
      rw [Array.getElem?_push, if_pos (by rw [Array.size_push])]
      rfl
    have hc1 := cell_bl hB20 c1
    have hc5 := cell_bl hB20 c5
    have HI0 := hide hI0; have HC1 := hide hc1; have HC5 := hide hc5
    have hbn : w.heap.size < nb := by omega
    clear hI0 hW0 hmk c0 c1 c2 c3 c4 c5 hnb hvb hB20 hc1 hc5
    go_wp2_with fail
    obtain ⟨bs, hbs⟩ : ∃ bs, bs = w.heap.size := ⟨_, rfl⟩
    have hwW : bs < W0.heap.size := by rw [hbs]; exact World.block_lt_of_cell? _ _ HC1.out
    go_loopw [5] (fun i wr => ∃ k : Nat, k ≤ n ∧ i = .int .i64 k ∧ wr.cell? ⟨w.heap.size, 1, none⟩ = some (.int .i64 n) ∧ wr.cell? ⟨w.heap.size, 5, none⟩ = some (.slice At D ct) ∧ w.heap.size < nb ∧ RNwI w wr nb [.int .u64 p, .int .i64 n, .int .i64 t, .slice Ac D1 cc, .slice Ad D2 cd, .slice At D ct, .int .i64 0, .slice (some ⟨vb, 0, none⟩) n n] k) (fun i _ => n - (intOf i).toNat)
    case atStart => exact ⟨0, by omega, rfl, HC1.out, HC5.out, hbn, HI0.out⟩
    case round =>
      obtain ⟨k, hk, rfl, hb1, hb5, hbn2, hI⟩ := hrel
      obtain ⟨vtp, ps, hbox, htp, hps, hne, hne0, hnbw, hBw⟩ := hI
      by_cases hkn : k < n
      · as_aux_lemma =>
        obtain ⟨ad, u, rfl, hlo, hu, hcu⟩ := HRT.out k (tapes.getD k []) (by rw [List.getD_eq_getElem?_getD, List.getElem?_eq_getElem (by rw [← HD.out, HND.out]; exact hkn)]; rfl)
        have hcuw := cell_bl hBw hcu
        have hul := HTL.out (tapes.getD k []) (by rw [List.getD_eq_getElem?_getD, List.getElem?_eq_getElem (by rw [← HD.out, HND.out]; exact hkn)]; exact List.getElem_mem _)
        have htn := fun W (h : Bl w W) => rtnew_any u (tapes.getD k []) _ W ((kS kU).bl hu h) hul
        obtain ⟨Au, cu, rfl, _, _⟩ := kS_len hu
        have hki : (k : Int) < (n : Int) := by omega
        have hkD : (k : Int) < (D : Int) := by have := HND.out; omega
        have hk0 : (0 : Int) ≤ (k : Int) := by omega
        obtain ⟨Av, cv, hvs, _, _⟩ := htp.slice
        rw [hps] at hvs
        subst hvs
        have c8 : wr.cell? ⟨nb, 8, none⟩ = some (.slice Av k cv) := by simp [World.cell?, hbox]
        have f8 : wr.frozen? ⟨nb, 8, none⟩ = false := by simp [World.frozen?, hbox]
        have hnbl : nb < wr.heap.size := World.block_lt_of_cell? _ _ c8
        have hn8 : some nb ≠ (Value.slice Av k cv).ownBlock := fun e => hne e.symm
        have hown : ∀ b, b < w.heap.size → some b ≠ (Value.slice Av k cv).ownBlock := fun b hb e => by have := (htp.base b e.symm).1; omega
        have hn0 : some w.heap.size ≠ (Value.slice Av k cv).ownBlock := fun e => hne0 e.symm
        have hna := hown (ad.add k).block (by rw [add_block]; exact hlo)
        have hnbad : nb ≠ (ad.add k).block := by rw [add_block]; omega
        have hnbws : nb ≠ w.heap.size := by omega
        have hHO : ∀ (wt : World) (ob : Obj) (v : Value), v = .slice Av k cv → Bl wr wt → Ow kV (wt.alloc ob) w.heap.size 113 v ps := fun wt ob v hv hB => by
          rw [hv]; exact htp.bl (hB.alloc hB.size ob)
        have hHX : ∀ (b9 : Nat) (wt : World) (v : Value), v = .slice Av k cv → Bl wr wt → (kS kV).R (wt.alloc (.cells #[.pointer (some ⟨b9, 0, none⟩)] 113)) (Ne v.ownBlock) [.slice (some ⟨wt.heap.size, 0, none⟩) 1 1] [.pointer (some ⟨b9, 0, none⟩)] := fun b9 wt v hv hB =>
          (kS kV).sub (litK (W := wt) (S := fun _ => False) (us := [.pointer (some ⟨b9, 0, none⟩)]) (K := kV) ⟨rfl, rfl⟩ 113) fun b _ hb e => by
            rw [hv] at e
            have := (htp.base _ e.symm).2
            rcases hb with hb | rfl
            · exact hb.1
            · have := hB.size; omega
        have hbase := hBw.size
        have hlen8 : ∀ b9 : Nat, (ps.length + [Value.pointer (some ⟨b9, 0, none⟩)].length) * 8 ≤ 140737488355328 := fun b9 => by rw [hps]; simp; omega
        have HBOX := hide hbox; have HTP := hide htp; have HBW := hide hBw
        have HC8 := hide c8; have HF8 := hide f8; have HHO := hide hHO; have HHX := hide hHX; have HLEN8 := hide hlen8; have HTN := hide htn; have HPS := hide hps; have HNE := hide hne
        have HNE0 := hide hne0
        clear hbox htp hBw c8 f8 hHO hHX hlen8 htn hu hcu hown hps hne hne0
        go_wp2_with fail
        refine wp_region_last (n := 15) (fun w' => w'.cell? ⟨nb, 8, none⟩ = some (.slice Av k cv) ∧ w'.cell? ⟨w.heap.size, 5, none⟩ = some (.slice (some ad) D ct) ∧ w'.cell? (ad.add k) = some (.slice Au (tapes.getD k []).length cu)) (by kernel_rfl) (by kernel_rfl) (by kernel_rfl) rfl ⟨HC8.out, hb5, hcuw⟩ (fun hHeld => ?_)
        refine wpAnyH_take (i := 0) (oi := { dst := some 23, op := Go.Op.move (Go.Operand.tmp 4), type := 37, pos := _, after := _, guard := none }) (v := ?_) rfl (by kernel_rfl) (by kernel_rfl) (by kernel_rfl) (fun _ _ _ h => h) (Or.inl ⟨by rfl, ?_⟩) (by assumption) ?_
        rotate_left
        · (intro w hSw; (try dsimp only at hSw); go_simp; (try (with_reducible rfl)))
        try simp only [Act.put, List.setIfInBounds_toArray, List.set_cons_zero, List.set_cons_succ]
        refine wpAnyH_take (i := 1) (oi := { dst := some 24, op := Go.Op.move (Go.Operand.tmp 4), type := 37, pos := _, after := _, guard := none }) (v := ?_) rfl (by kernel_rfl) (by kernel_rfl) (by kernel_rfl) (fun _ _ _ h => h) (Or.inl ⟨by rfl, ?_⟩) (by assumption) ?_
        rotate_left
        · (intro w hSw; (try dsimp only at hSw); go_simp; (try (with_reducible rfl)))
        try simp only [Act.put, List.setIfInBounds_toArray, List.set_cons_zero, List.set_cons_succ]
        refine wpAnyH_take (i := 2) (oi := { dst := some 25, op := Go.Op.nilCheck (Go.Operand.tmp 24), type := 0, pos := _, after := _, guard := none }) (v := ?_) rfl (by kernel_rfl) (by kernel_rfl) (by kernel_rfl) (fun _ _ _ h => h) (Or.inl ⟨by rfl, ?_⟩) (by assumption) ?_
        rotate_left
        · (intro w hSw; (try dsimp only at hSw); go_simp; (try (with_reducible rfl)))
        try simp only [Act.put, List.setIfInBounds_toArray, List.set_cons_zero, List.set_cons_succ]
        refine wpAnyH_take (i := 3) (oi := { dst := some 26, op := Go.Op.fieldAddr 112 (Go.Operand.tmp 25) 3, type := 0, pos := _, after := _, guard := none }) (v := ?_) rfl (by kernel_rfl) (by kernel_rfl) (by kernel_rfl) (fun _ _ _ h => h) (Or.inl ⟨by rfl, ?_⟩) (by assumption) ?_
        rotate_left
        · (intro w hSw; (try dsimp only at hSw); go_simp; (try (with_reducible rfl)))
        try simp only [Act.put, List.setIfInBounds_toArray, List.set_cons_zero, List.set_cons_succ]
        refine wpAnyH_take (i := 4) (oi := { dst := some 27, op := Go.Op.load 110 (Go.Operand.tmp 26), type := 110, pos := _, after := _, guard := none }) (v := ?_) rfl (by kernel_rfl) (by kernel_rfl) (by kernel_rfl) (fun _ _ _ h => h) (Or.inl ⟨by rfl, ?_⟩) (by assumption) ?_
        rotate_left
        · (intro w hSw; (try dsimp only at hSw); go_simp; (try (with_reducible rfl)))
        try simp only [Act.put, List.setIfInBounds_toArray, List.set_cons_zero, List.set_cons_succ]
        refine wpAnyH_take (i := 5) (oi := { dst := some 28, op := Go.Op.fieldAddr 29 (Go.Operand.tmp 1) 3, type := 0, pos := _, after := _, guard := none }) (v := ?_) rfl (by kernel_rfl) (by kernel_rfl) (by kernel_rfl) (fun _ _ _ h => h) (Or.inl ⟨by rfl, ?_⟩) (by assumption) ?_
        rotate_left
        · (intro w hSw; (try dsimp only at hSw); go_simp; (try (with_reducible rfl)))
        try simp only [Act.put, List.setIfInBounds_toArray, List.set_cons_zero, List.set_cons_succ]
        refine wpAnyH_take (i := 6) (oi := { dst := some 29, op := Go.Op.load 27 (Go.Operand.tmp 28), type := 27, pos := _, after := _, guard := none }) (v := ?_) rfl (by kernel_rfl) (by kernel_rfl) (by kernel_rfl) (fun _ _ _ h => h) (Or.inl ⟨by rfl, ?_⟩) (by assumption) ?_
        rotate_left
        · (intro w hSw; (try dsimp only at hSw); go_simp; (try (with_reducible rfl)))
        try simp only [Act.put, List.setIfInBounds_toArray, List.set_cons_zero, List.set_cons_succ]
        refine wpAnyH_take (i := 7) (oi := { dst := some 30, op := Go.Op.move (Go.Operand.tmp 5), type := 3, pos := _, after := _, guard := none }) (v := ?_) rfl (by kernel_rfl) (by kernel_rfl) (by kernel_rfl) (fun _ _ _ h => h) (Or.inl ⟨by rfl, ?_⟩) (by assumption) ?_
        rotate_left
        · (intro w hSw; (try dsimp only at hSw); go_simp; (try (with_reducible rfl)))
        try simp only [Act.put, List.setIfInBounds_toArray, List.set_cons_zero, List.set_cons_succ]
        refine wpAnyH_take (i := 8) (oi := { dst := some 31, op := Go.Op.indexAddr 27 (Go.Operand.tmp 29) (Go.Operand.tmp 30), type := 0, pos := _, after := _, guard := none }) (v := ?_) rfl (by kernel_rfl) (by kernel_rfl) (by kernel_rfl) (fun _ _ _ h => h) (Or.inl ⟨by rfl, ?_⟩) (by assumption) ?_
        rotate_left
        · (intro w hSw; (try dsimp only at hSw); go_simp; (try (with_reducible rfl)))
        try simp only [Act.put, List.setIfInBounds_toArray, List.set_cons_zero, List.set_cons_succ]
        refine wpAnyH_take (i := 9) (oi := { dst := some 32, op := Go.Op.load 30 (Go.Operand.tmp 31), type := 30, pos := _, after := _, guard := none }) (v := ?_) rfl (by kernel_rfl) (by kernel_rfl) (by kernel_rfl) (fun _ _ _ h => h) (Or.inl ⟨by rfl, ?_⟩) (by assumption) ?_
        rotate_left
        · (intro w hSw; (try dsimp only at hSw); go_simp; (try (with_reducible rfl)))
        try simp only [Act.put, List.setIfInBounds_toArray, List.set_cons_zero, List.set_cons_succ]
        refine wpAnyH_ready (rs := [10]) (by kernel_rfl) (by simp) ?_
        refine AllReadyH.cons (o := { dst := some 33, op := Go.Op.call { callee := Go.Callee.value (Go.Operand.func 59), args := #[Go.Operand.tmp 32], argTypes := #[30] }, type := 113, pos := _, after := _, guard := none }) rfl (fun K hK => ?_) AllReadyH.nil
        go_simp
        refine (HTN.out _ (HBW.out.trans (((Dr.one (Dr.refl wr)).below _).mono HBW.out.size))).mono ?_
        rintro e wt ⟨hBt, b9, rfl, h91, h92⟩
        simp only []
        refine hK.out _ _ ?_ (fun hHeld => ?_)
        · exact ⟨cell_bl hBt HC8.out, cell_bl hBt hb5, cell_bl hBt hcuw⟩
        clear hK K
        try simp only [Act.put, List.setIfInBounds_toArray, List.set_cons_zero, List.set_cons_succ]
        refine wpAnyH_ready (rs := [11]) (by kernel_rfl) (by simp) ?_
        refine AllReadyH.cons (o := { dst := some 34, op := Go.Op.buildSlice 110 1 #[(0, Go.Operand.tmp 33)], type := 110, pos := _, after := _, guard := none }) rfl (fun K hK => ?_) AllReadyH.nil
        go_simp
        refine hK.out _ _ ?_ (fun hHeld => ?_)
        · exact ⟨cell_bl (hBt.alloc hBt.size _) HC8.out, cell_bl (hBt.alloc hBt.size _) hb5, cell_bl (hBt.alloc hBt.size _) hcuw⟩
        clear hK K
        try simp only [Act.put, List.setIfInBounds_toArray, List.set_cons_zero, List.set_cons_succ]
        refine wpAnyH_ready (rs := [12]) (by kernel_rfl) (by simp) ?_
        refine AllReadyH.cons (o := { dst := some 35, op := Go.Op.call { callee := Go.Callee.builtin Go.Builtin.append, args := #[Go.Operand.tmp 27, Go.Operand.tmp 34], argTypes := #[110, 110] }, type := 110, pos := _, after := _, guard := none }) rfl (fun K hK => ?_) AllReadyH.nil
        refine Ow.append_step kV (w0 := wt.alloc (.cells #[.pointer (some ⟨b9, 0, none⟩)] 113)) w.heap.size rfl (.tmp 27) (.tmp 34) 110 113 (.pointer none) 8 rfl Tryd.underlying110 rptrinfo rfl (.slice Av k cv) _ ps [.pointer (some ⟨b9, 0, none⟩)] rfl rfl (HHO.out _ _ _ rfl ((Bl.dr (Below.refl _ _) (Dr.one (Dr.refl _))).trans hBt)) (Below.refl _ _) (Nat.le_trans hbase (hBt.alloc hBt.size _).size) (HHX.out _ _ _ rfl ((Bl.dr (Below.refl _ _) (Dr.one (Dr.refl _))).trans hBt)) (HLEN8.out _) (by decide) ?_
        intro v7 w7 hO7 hB7 hg7 hat7
        obtain ⟨A7, c7, rfl, hc7, _⟩ := hO7.slice
        simp only [List.length_append, List.length_cons, List.length_nil, Nat.zero_add] at hO7 hat7
        refine hK.out _ _ ?_ (fun hHeld => ?_)
        · exact ⟨hg7.cell (cell_bl (hBt.alloc hBt.size _) HC8.out) hn8, hg7.cell (cell_bl (hBt.alloc hBt.size _) hb5) hn0, hg7.cell (cell_bl (hBt.alloc hBt.size _) hcuw) hna⟩
        clear hK K
        try simp only [Act.put, List.setIfInBounds_toArray, List.set_cons_zero, List.set_cons_succ]
        refine wpAnyH_take (i := 13) (oi := { dst := some 36, op := Go.Op.nilCheck (Go.Operand.tmp 23), type := 0, pos := _, after := _, guard := none }) (v := ?_) rfl (by kernel_rfl) (by kernel_rfl) (by kernel_rfl) (fun _ _ _ h => h) (Or.inl ⟨by rfl, ?_⟩) (by assumption) ?_
        rotate_left
        · (intro w hSw; (try dsimp only at hSw); go_simp; (try (with_reducible rfl)))
        try simp only [Act.put, List.setIfInBounds_toArray, List.set_cons_zero, List.set_cons_succ]
        refine wpAnyH_take (i := 14) (oi := { dst := some 37, op := Go.Op.fieldAddr 112 (Go.Operand.tmp 36) 3, type := 0, pos := _, after := _, guard := none }) (v := ?_) rfl (by kernel_rfl) (by kernel_rfl) (by kernel_rfl) (fun _ _ _ h => h) (Or.inl ⟨by rfl, ?_⟩) (by assumption) ?_
        rotate_left
        · (intro w hSw; (try dsimp only at hSw); go_simp; (try (with_reducible rfl)))
        try simp only [Act.put, List.setIfInBounds_toArray, List.set_cons_zero, List.set_cons_succ]
        have cv7 := hg7.cell (cell_bl (hBt.alloc hBt.size (.cells #[.pointer (some ⟨b9, 0, none⟩)] 113)) HC8.out) hn8
        have cf7 : w7.frozen? ⟨nb, 8, none⟩ = false := (hg7.frozen_far _ (Nat.lt_of_lt_of_le hnbl (hBt.alloc hBt.size _).size) hn8).trans (free_bl (hBt.alloc hBt.size _) HC8.out HF8.out)
        refine wpAnyH_done (by kernel_rfl) ?_ _
        refine lastQ_normal ?_
        refine wpOp_step (i := 15) (o := { dst := none, op := Go.Op.store 110 (Go.Operand.tmp 37) (Go.Operand.tmp 35), type := 0, pos := _, after := _, guard := none }) rfl (fun K hK => ?_)
        go_simp
        refine hK _ _ ?_
        clear hK K
        all_goals (
          have hs5 := RNwI.step HBOX.out rfl HTP.out HNE.out HNE0.out hnbw HBW.out (((Bl.dr (Below.refl _ _) (Dr.one (Dr.refl _))).trans hBt).alloc (((Bl.dr (Below.refl _ _) (Dr.one (Dr.refl _))).trans hBt)).size _) hg7 hat7 hO7
          have hBwa := ((Bl.dr (Below.refl _ _) (Dr.one (Dr.refl wr))).trans hBt).alloc (((Bl.dr (Below.refl _ _) (Dr.one (Dr.refl wr))).trans hBt)).size (.cells #[.pointer (some ⟨b9, 0, none⟩)] 113)
          have hg1 := cell_set_ne (a := ⟨w.heap.size, 1, none⟩) (b := ⟨nb, 8, none⟩) (.slice A7 (ps.length + 1) c7) hnbws (hg7.cell (cell_bl hBwa hb1) hn0)
          have hg5 := cell_set_ne (a := ⟨w.heap.size, 5, none⟩) (b := ⟨nb, 8, none⟩) (.slice A7 (ps.length + 1) c7) hnbws (hg7.cell (cell_bl hBwa hb5) hn0)
          have HG1 := hide hg1; have HG5 := hide hg5
          have HS5 := hide hs5; clear hs5 hO7 hg7 hat7 hB7 hg1 hg5)
        all_goals go_wp2_with fail
        all_goals go_round
        all_goals (first | exact ⟨ps.length + 1, by have := HPS.out; omega, by rw [HPS.out]; go_num, HG1.out, HG5.out, hbn2, HS5.out⟩ | (simp [intOf]; omega))
      · have hkn' : k = n := by omega
        subst hkn'
        have HBW := hide hBw
        clear hBw hbox htp
        go_wp2_with fail
        go_ret2
        exact ⟨HBW.out, .inr ⟨HOK.out, nb, rfl⟩⟩
end Pv
