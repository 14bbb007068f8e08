import Derived.Test.YtjokahbkmceocaaDoorZe
import Derived.Test.YtjokahbkmceocaaDoorZq
import Derived.Test.YtjokahbkmceocaaDoorZa
import Derived.Deep.RegionHeld
set_option linter.unusedVariables false
set_option linter.unusedSimpArgs false
namespace Pv
open Go Go.RowKit Go.Proofs

/-- a view, event by event -/
theorem rdEv {w : World} {S : Nat → Prop} {v : Value} {xs : List Ev} (h : (kS kEv).R w S [v] xs) :
    ∃ A c, v = .slice A xs.length c ∧ (xs.length ≤ c ∧ c ≤ 9223372036854775807) ∧
      ∀ (j : Nat) e, xs[j]? = some e → ∃ ad vw, A = some ad ∧ w.cell? (ad.add (j * 3)) = some (.int .i64 (e.round : Int)) ∧ w.cell? ⟨(ad.add (j * 3)).block, (ad.add (j * 3)).off + 1, none⟩ = some (.int .i64 (e.src : Int)) ∧
        w.cell? ⟨(ad.add (j * 3)).block, (ad.add (j * 3)).off + 2, none⟩ = some vw ∧ (kS kU).R w S [vw] e.words := by
  obtain ⟨A, n, c, hv, hn, hb, hel⟩ := h
  injection hv with hv
  subst hn
  refine ⟨A, c, hv, hb, fun j e he => ?_⟩
  obtain ⟨ad, us, hA, _, hR, hcell⟩ := hel j e he
  obtain ⟨vw, rfl, _, _, hw⟩ := kEv_open hR
  have hsz : kEv.sz = 3 := rfl
  rw [hsz] at hcell
  refine ⟨ad, vw, hA, ?_, ?_, ?_, hw⟩
  · have := hcell 0 _ rfl
    rwa [Nat.add_zero] at this
  · have := hcell 1 _ rfl
    rwa [add_at _ _ _ (by omega)] at this
  · have := hcell 2 _ rfl
    rwa [add_at _ _ _ (by omega)] at this
def VwP (w : World) (e : Ending) (w' : World) : Prop := e = .returned (.bool true) ∧ Bl w w'
set_option maxHeartbeats 4000000 in
set_option maxRecDepth 100000 in
theorem views_same (va vb : Value) (a : List Ev) (S S' : Nat → Prop) (w : World) (ha : (kS kEv).R w S [va] a) (hb : (kS kEv).R w S' [vb] a) :
    Calls Tryd.prog 26 #[va, vb] w fun e w' => VwP w e w' := by
  obtain ⟨Aa, ca, rfl, ⟨ha1, ha2⟩, hca⟩ := rdEv ((kS kEv).low ha)
  obtain ⟨Ab, cb, rfl, ⟨hb1, hb2⟩, hcb⟩ := rdEv ((kS kEv).low hb)
  obtain ⟨n, hn⟩ : ∃ n, n = a.length := ⟨_, rfl⟩
  rw [← hn] at ha1 hb1 ⊢
  have HN := hide hn; have HCA := hide hca; have HCB := hide hcb
  clear hn hca hcb ha hb
  go_enter Tryd.func26, Tryd.ntmps26
  go_wp2_with fail
  go_loopw [5] (fun ix wr => ∃ k : Nat, k ≤ n ∧ ix = .int .i64 k ∧ Bl w wr) (fun ix _ => n - (intOf ix).toNat)
  case atStart => exact ⟨0, by omega, rfl, Below.refl _ _⟩
  case round =>
    obtain ⟨k, hk, rfl, hB⟩ := hrel
    by_cases hkn : k < n
    · as_aux_lemma =>
      have hki : (k : Int) < (n : Int) := by omega
      have hk0 : (0 : Int) ≤ (k : Int) := by omega
      have hge := List.getElem?_eq_getElem (l := a) (i := k) (by rw [← HN.out]; exact hkn)
      obtain ⟨ad, vw, rfl, h0, h1, h2, hw⟩ := HCA.out k _ hge
      obtain ⟨ad2, vw2, rfl, g0, g1, g2, hw2⟩ := HCB.out k _ hge
      obtain ⟨rd, hrd⟩ : ∃ rd, rd = (a[k]'(by rw [← HN.out]; exact hkn)).round := ⟨_, rfl⟩
      obtain ⟨sr, hsr⟩ : ∃ sr, sr = (a[k]'(by rw [← HN.out]; exact hkn)).src := ⟨_, rfl⟩
      obtain ⟨ws, hws⟩ : ∃ ws, ws = (a[k]'(by rw [← HN.out]; exact hkn)).words := ⟨_, rfl⟩
      rw [← hrd] at h0 g0
      rw [← hsr] at h1 g1
      rw [← hws] at hw hw2
      clear hrd hsr hws hge
      have f0 := cell_bl hB h0
      have f1 := cell_bl hB h1
      have f2 := cell_bl hB h2
      have f3 := cell_bl hB g0
      have f4 := cell_bl hB g1
      have f5 := cell_bl hB g2
      have hwd := fun W2 (h : Bl w W2) => (words_any vw vw2 ws ws _ _ W2 ((kS kU).bl hw h) ((kS kU).bl hw2 h)).mono (R' := fun e w' => e = .returned (.bool true) ∧ Dr W2 w') fun e w' h => ⟨by rw [h.1, decide_eq_true rfl], h.2⟩
      have HWD := hide hwd; have HB := hide hB
      clear hwd hB hw hw2 h0 h1 h2 g0 g1 g2
      go_wp2_with fail
      refine wp_region_held_drew (S := fun w' => Bl wr w') (by kernel_rfl) ((Dr.one (Dr.refl wr)).below _) (fun hHeld => ?_)
      refine wpAnyH_take (i := 0) (oi := { dst := some 17, op := Go.Op.move (Go.Operand.tmp 0), type := 46, pos := _, after := _, guard := none }) (v := ?_) rfl (by kernel_rfl) (by kernel_rfl) (by kernel_rfl) (fun _ _ _ h => h) ?_ (by assumption) ?_
      rotate_left
      · first | (refine Or.inl ⟨by rfl, ?_⟩; intro w hSw; have z0 := cell_bl hSw f0; have z1 := cell_bl hSw f1; have z2 := cell_bl hSw f2; have z3 := cell_bl hSw f3; have z4 := cell_bl hSw f4; have z5 := cell_bl hSw f5; go_simp; (try (with_reducible rfl)); done) | (refine Or.inr ⟨by rfl, ?_⟩; with_reducible rfl)
      try simp only [Act.put, List.setIfInBounds_toArray, List.set_cons_zero, List.set_cons_succ]
      refine wpAnyH_take (i := 1) (oi := { dst := some 18, op := Go.Op.move (Go.Operand.tmp 5), type := 3, pos := _, after := _, guard := none }) (v := ?_) rfl (by kernel_rfl) (by kernel_rfl) (by kernel_rfl) (fun _ _ _ h => h) ?_ (by assumption) ?_
      rotate_left
      · first | (refine Or.inl ⟨by rfl, ?_⟩; intro w hSw; have z0 := cell_bl hSw f0; have z1 := cell_bl hSw f1; have z2 := cell_bl hSw f2; have z3 := cell_bl hSw f3; have z4 := cell_bl hSw f4; have z5 := cell_bl hSw f5; go_simp; (try (with_reducible rfl)); done) | (refine Or.inr ⟨by rfl, ?_⟩; with_reducible rfl)
      try simp only [Act.put, List.setIfInBounds_toArray, List.set_cons_zero, List.set_cons_succ]
      refine wpAnyH_take (i := 2) (oi := { dst := some 19, op := Go.Op.indexAddr 46 (Go.Operand.tmp 17) (Go.Operand.tmp 18), type := 0, pos := _, after := _, guard := none }) (v := ?_) rfl (by kernel_rfl) (by kernel_rfl) (by kernel_rfl) (fun _ _ _ h => h) ?_ (by assumption) ?_
      rotate_left
      · first | (refine Or.inl ⟨by rfl, ?_⟩; intro w hSw; have z0 := cell_bl hSw f0; have z1 := cell_bl hSw f1; have z2 := cell_bl hSw f2; have z3 := cell_bl hSw f3; have z4 := cell_bl hSw f4; have z5 := cell_bl hSw f5; go_simp; (try (with_reducible rfl)); done) | (refine Or.inr ⟨by rfl, ?_⟩; with_reducible rfl)
      try simp only [Act.put, List.setIfInBounds_toArray, List.set_cons_zero, List.set_cons_succ]
      refine wpAnyH_take (i := 3) (oi := { dst := some 20, op := Go.Op.fieldAddr 67 (Go.Operand.tmp 19) 0, type := 0, pos := _, after := _, guard := none }) (v := ?_) rfl (by kernel_rfl) (by kernel_rfl) (by kernel_rfl) (fun _ _ _ h => h) ?_ (by assumption) ?_
      rotate_left
      · first | (refine Or.inl ⟨by rfl, ?_⟩; intro w hSw; have z0 := cell_bl hSw f0; have z1 := cell_bl hSw f1; have z2 := cell_bl hSw f2; have z3 := cell_bl hSw f3; have z4 := cell_bl hSw f4; have z5 := cell_bl hSw f5; go_simp; (try (with_reducible rfl)); done) | (refine Or.inr ⟨by rfl, ?_⟩; with_reducible rfl)
      try simp only [Act.put, List.setIfInBounds_toArray, List.set_cons_zero, List.set_cons_succ]
      refine wpAnyH_take (i := 4) (oi := { dst := some 21, op := Go.Op.load 3 (Go.Operand.tmp 20), type := 3, pos := _, after := _, guard := none }) (v := ?_) rfl (by kernel_rfl) (by kernel_rfl) (by kernel_rfl) (fun _ _ _ h => h) ?_ (by assumption) ?_
      rotate_left
      · first | (refine Or.inl ⟨by rfl, ?_⟩; intro w hSw; have z0 := cell_bl hSw f0; have z1 := cell_bl hSw f1; have z2 := cell_bl hSw f2; have z3 := cell_bl hSw f3; have z4 := cell_bl hSw f4; have z5 := cell_bl hSw f5; go_simp; (try (with_reducible rfl)); done) | (refine Or.inr ⟨by rfl, ?_⟩; with_reducible rfl)
      try simp only [Act.put, List.setIfInBounds_toArray, List.set_cons_zero, List.set_cons_succ]
      refine wpAnyH_take (i := 5) (oi := { dst := some 22, op := Go.Op.move (Go.Operand.tmp 1), type := 46, pos := _, after := _, guard := none }) (v := ?_) rfl (by kernel_rfl) (by kernel_rfl) (by kernel_rfl) (fun _ _ _ h => h) ?_ (by assumption) ?_
      rotate_left
      · first | (refine Or.inl ⟨by rfl, ?_⟩; intro w hSw; have z0 := cell_bl hSw f0; have z1 := cell_bl hSw f1; have z2 := cell_bl hSw f2; have z3 := cell_bl hSw f3; have z4 := cell_bl hSw f4; have z5 := cell_bl hSw f5; go_simp; (try (with_reducible rfl)); done) | (refine Or.inr ⟨by rfl, ?_⟩; with_reducible rfl)
      try simp only [Act.put, List.setIfInBounds_toArray, List.set_cons_zero, List.set_cons_succ]
      refine wpAnyH_take (i := 6) (oi := { dst := some 23, op := Go.Op.move (Go.Operand.tmp 5), type := 3, pos := _, after := _, guard := none }) (v := ?_) rfl (by kernel_rfl) (by kernel_rfl) (by kernel_rfl) (fun _ _ _ h => h) ?_ (by assumption) ?_
      rotate_left
      · first | (refine Or.inl ⟨by rfl, ?_⟩; intro w hSw; have z0 := cell_bl hSw f0; have z1 := cell_bl hSw f1; have z2 := cell_bl hSw f2; have z3 := cell_bl hSw f3; have z4 := cell_bl hSw f4; have z5 := cell_bl hSw f5; go_simp; (try (with_reducible rfl)); done) | (refine Or.inr ⟨by rfl, ?_⟩; with_reducible rfl)
      try simp only [Act.put, List.setIfInBounds_toArray, List.set_cons_zero, List.set_cons_succ]
      refine wpAnyH_take (i := 7) (oi := { dst := some 24, op := Go.Op.indexAddr 46 (Go.Operand.tmp 22) (Go.Operand.tmp 23), type := 0, pos := _, after := _, guard := none }) (v := ?_) rfl (by kernel_rfl) (by kernel_rfl) (by kernel_rfl) (fun _ _ _ h => h) ?_ (by assumption) ?_
      rotate_left
      · first | (refine Or.inl ⟨by rfl, ?_⟩; intro w hSw; have z0 := cell_bl hSw f0; have z1 := cell_bl hSw f1; have z2 := cell_bl hSw f2; have z3 := cell_bl hSw f3; have z4 := cell_bl hSw f4; have z5 := cell_bl hSw f5; go_simp; (try (with_reducible rfl)); done) | (refine Or.inr ⟨by rfl, ?_⟩; with_reducible rfl)
      try simp only [Act.put, List.setIfInBounds_toArray, List.set_cons_zero, List.set_cons_succ]
      refine wpAnyH_take (i := 8) (oi := { dst := some 25, op := Go.Op.fieldAddr 67 (Go.Operand.tmp 24) 0, type := 0, pos := _, after := _, guard := none }) (v := ?_) rfl (by kernel_rfl) (by kernel_rfl) (by kernel_rfl) (fun _ _ _ h => h) ?_ (by assumption) ?_
      rotate_left
      · first | (refine Or.inl ⟨by rfl, ?_⟩; intro w hSw; have z0 := cell_bl hSw f0; have z1 := cell_bl hSw f1; have z2 := cell_bl hSw f2; have z3 := cell_bl hSw f3; have z4 := cell_bl hSw f4; have z5 := cell_bl hSw f5; go_simp; (try (with_reducible rfl)); done) | (refine Or.inr ⟨by rfl, ?_⟩; with_reducible rfl)
      try simp only [Act.put, List.setIfInBounds_toArray, List.set_cons_zero, List.set_cons_succ]
      refine wpAnyH_take (i := 9) (oi := { dst := some 26, op := Go.Op.load 3 (Go.Operand.tmp 25), type := 3, pos := _, after := _, guard := none }) (v := ?_) rfl (by kernel_rfl) (by kernel_rfl) (by kernel_rfl) (fun _ _ _ h => h) ?_ (by assumption) ?_
      rotate_left
      · first | (refine Or.inl ⟨by rfl, ?_⟩; intro w hSw; have z0 := cell_bl hSw f0; have z1 := cell_bl hSw f1; have z2 := cell_bl hSw f2; have z3 := cell_bl hSw f3; have z4 := cell_bl hSw f4; have z5 := cell_bl hSw f5; go_simp; (try (with_reducible rfl)); done) | (refine Or.inr ⟨by rfl, ?_⟩; with_reducible rfl)
      try simp only [Act.put, List.setIfInBounds_toArray, List.set_cons_zero, List.set_cons_succ]
      refine wpAnyH_take (i := 10) (oi := { dst := some 27, op := Go.Op.binOp Go.BinOp.neq 3 (Go.Operand.tmp 21) (Go.Operand.tmp 26) 3, type := 4, pos := _, after := _, guard := none }) (v := ?_) rfl (by kernel_rfl) (by kernel_rfl) (by kernel_rfl) (fun _ _ _ h => h) ?_ (by assumption) ?_
      rotate_left
      · first | (refine Or.inl ⟨by rfl, ?_⟩; intro w hSw; have z0 := cell_bl hSw f0; have z1 := cell_bl hSw f1; have z2 := cell_bl hSw f2; have z3 := cell_bl hSw f3; have z4 := cell_bl hSw f4; have z5 := cell_bl hSw f5; go_simp; (try (with_reducible rfl)); done) | (refine Or.inr ⟨by rfl, ?_⟩; with_reducible rfl)
      try simp only [Act.put, List.setIfInBounds_toArray, List.set_cons_zero, List.set_cons_succ]
      refine wpAnyH_take (i := 11) (oi := { dst := some 28, op := Go.Op.move (Go.Operand.tmp 27), type := 4, pos := _, after := _, guard := none }) (v := ?_) rfl (by kernel_rfl) (by kernel_rfl) (by kernel_rfl) (fun _ _ _ h => h) ?_ (by assumption) ?_
      rotate_left
      · first | (refine Or.inl ⟨by rfl, ?_⟩; intro w hSw; have z0 := cell_bl hSw f0; have z1 := cell_bl hSw f1; have z2 := cell_bl hSw f2; have z3 := cell_bl hSw f3; have z4 := cell_bl hSw f4; have z5 := cell_bl hSw f5; go_simp; (try (with_reducible rfl)); done) | (refine Or.inr ⟨by rfl, ?_⟩; with_reducible rfl)
      try simp only [Act.put, List.setIfInBounds_toArray, List.set_cons_zero, List.set_cons_succ]
      refine wpAnyH_take (i := 12) (oi := { dst := some 29, op := Go.Op.move (Go.Operand.tmp 0), type := 46, pos := _, after := _, guard := some (11, false) }) (v := ?_) rfl (by kernel_rfl) (by kernel_rfl) (by kernel_rfl) (fun _ _ _ h => h) ?_ (by assumption) ?_
      rotate_left
      · first | (refine Or.inl ⟨by rfl, ?_⟩; intro w hSw; have z0 := cell_bl hSw f0; have z1 := cell_bl hSw f1; have z2 := cell_bl hSw f2; have z3 := cell_bl hSw f3; have z4 := cell_bl hSw f4; have z5 := cell_bl hSw f5; go_simp; (try (with_reducible rfl)); done) | (refine Or.inr ⟨by rfl, ?_⟩; with_reducible rfl)
      try simp only [Act.put, List.setIfInBounds_toArray, List.set_cons_zero, List.set_cons_succ]
      refine wpAnyH_take (i := 13) (oi := { dst := some 30, op := Go.Op.move (Go.Operand.tmp 5), type := 3, pos := _, after := _, guard := some (11, false) }) (v := ?_) rfl (by kernel_rfl) (by kernel_rfl) (by kernel_rfl) (fun _ _ _ h => h) ?_ (by assumption) ?_
      rotate_left
      · first | (refine Or.inl ⟨by rfl, ?_⟩; intro w hSw; have z0 := cell_bl hSw f0; have z1 := cell_bl hSw f1; have z2 := cell_bl hSw f2; have z3 := cell_bl hSw f3; have z4 := cell_bl hSw f4; have z5 := cell_bl hSw f5; go_simp; (try (with_reducible rfl)); done) | (refine Or.inr ⟨by rfl, ?_⟩; with_reducible rfl)
      try simp only [Act.put, List.setIfInBounds_toArray, List.set_cons_zero, List.set_cons_succ]
      refine wpAnyH_take (i := 14) (oi := { dst := some 31, op := Go.Op.indexAddr 46 (Go.Operand.tmp 29) (Go.Operand.tmp 30), type := 0, pos := _, after := _, guard := some (11, false) }) (v := ?_) rfl (by kernel_rfl) (by kernel_rfl) (by kernel_rfl) (fun _ _ _ h => h) ?_ (by assumption) ?_
      rotate_left
      · first | (refine Or.inl ⟨by rfl, ?_⟩; intro w hSw; have z0 := cell_bl hSw f0; have z1 := cell_bl hSw f1; have z2 := cell_bl hSw f2; have z3 := cell_bl hSw f3; have z4 := cell_bl hSw f4; have z5 := cell_bl hSw f5; go_simp; (try (with_reducible rfl)); done) | (refine Or.inr ⟨by rfl, ?_⟩; with_reducible rfl)
      try simp only [Act.put, List.setIfInBounds_toArray, List.set_cons_zero, List.set_cons_succ]
      refine wpAnyH_take (i := 15) (oi := { dst := some 32, op := Go.Op.fieldAddr 67 (Go.Operand.tmp 31) 1, type := 0, pos := _, after := _, guard := some (11, false) }) (v := ?_) rfl (by kernel_rfl) (by kernel_rfl) (by kernel_rfl) (fun _ _ _ h => h) ?_ (by assumption) ?_
      rotate_left
      · first | (refine Or.inl ⟨by rfl, ?_⟩; intro w hSw; have z0 := cell_bl hSw f0; have z1 := cell_bl hSw f1; have z2 := cell_bl hSw f2; have z3 := cell_bl hSw f3; have z4 := cell_bl hSw f4; have z5 := cell_bl hSw f5; go_simp; (try (with_reducible rfl)); done) | (refine Or.inr ⟨by rfl, ?_⟩; with_reducible rfl)
      try simp only [Act.put, List.setIfInBounds_toArray, List.set_cons_zero, List.set_cons_succ]
      refine wpAnyH_take (i := 16) (oi := { dst := some 33, op := Go.Op.load 3 (Go.Operand.tmp 32), type := 3, pos := _, after := _, guard := some (11, false) }) (v := ?_) rfl (by kernel_rfl) (by kernel_rfl) (by kernel_rfl) (fun _ _ _ h => h) ?_ (by assumption) ?_
      rotate_left
      · first | (refine Or.inl ⟨by rfl, ?_⟩; intro w hSw; have z0 := cell_bl hSw f0; have z1 := cell_bl hSw f1; have z2 := cell_bl hSw f2; have z3 := cell_bl hSw f3; have z4 := cell_bl hSw f4; have z5 := cell_bl hSw f5; go_simp; (try (with_reducible rfl)); done) | (refine Or.inr ⟨by rfl, ?_⟩; with_reducible rfl)
      try simp only [Act.put, List.setIfInBounds_toArray, List.set_cons_zero, List.set_cons_succ]
      refine wpAnyH_take (i := 17) (oi := { dst := some 34, op := Go.Op.move (Go.Operand.tmp 1), type := 46, pos := _, after := _, guard := some (11, false) }) (v := ?_) rfl (by kernel_rfl) (by kernel_rfl) (by kernel_rfl) (fun _ _ _ h => h) ?_ (by assumption) ?_
      rotate_left
      · first | (refine Or.inl ⟨by rfl, ?_⟩; intro w hSw; have z0 := cell_bl hSw f0; have z1 := cell_bl hSw f1; have z2 := cell_bl hSw f2; have z3 := cell_bl hSw f3; have z4 := cell_bl hSw f4; have z5 := cell_bl hSw f5; go_simp; (try (with_reducible rfl)); done) | (refine Or.inr ⟨by rfl, ?_⟩; with_reducible rfl)
      try simp only [Act.put, List.setIfInBounds_toArray, List.set_cons_zero, List.set_cons_succ]
      refine wpAnyH_take (i := 18) (oi := { dst := some 35, op := Go.Op.move (Go.Operand.tmp 5), type := 3, pos := _, after := _, guard := some (11, false) }) (v := ?_) rfl (by kernel_rfl) (by kernel_rfl) (by kernel_rfl) (fun _ _ _ h => h) ?_ (by assumption) ?_
      rotate_left
      · first | (refine Or.inl ⟨by rfl, ?_⟩; intro w hSw; have z0 := cell_bl hSw f0; have z1 := cell_bl hSw f1; have z2 := cell_bl hSw f2; have z3 := cell_bl hSw f3; have z4 := cell_bl hSw f4; have z5 := cell_bl hSw f5; go_simp; (try (with_reducible rfl)); done) | (refine Or.inr ⟨by rfl, ?_⟩; with_reducible rfl)
      try simp only [Act.put, List.setIfInBounds_toArray, List.set_cons_zero, List.set_cons_succ]
      refine wpAnyH_take (i := 19) (oi := { dst := some 36, op := Go.Op.indexAddr 46 (Go.Operand.tmp 34) (Go.Operand.tmp 35), type := 0, pos := _, after := _, guard := some (11, false) }) (v := ?_) rfl (by kernel_rfl) (by kernel_rfl) (by kernel_rfl) (fun _ _ _ h => h) ?_ (by assumption) ?_
      rotate_left
      · first | (refine Or.inl ⟨by rfl, ?_⟩; intro w hSw; have z0 := cell_bl hSw f0; have z1 := cell_bl hSw f1; have z2 := cell_bl hSw f2; have z3 := cell_bl hSw f3; have z4 := cell_bl hSw f4; have z5 := cell_bl hSw f5; go_simp; (try (with_reducible rfl)); done) | (refine Or.inr ⟨by rfl, ?_⟩; with_reducible rfl)
      try simp only [Act.put, List.setIfInBounds_toArray, List.set_cons_zero, List.set_cons_succ]
      refine wpAnyH_take (i := 20) (oi := { dst := some 37, op := Go.Op.fieldAddr 67 (Go.Operand.tmp 36) 1, type := 0, pos := _, after := _, guard := some (11, false) }) (v := ?_) rfl (by kernel_rfl) (by kernel_rfl) (by kernel_rfl) (fun _ _ _ h => h) ?_ (by assumption) ?_
      rotate_left
      · first | (refine Or.inl ⟨by rfl, ?_⟩; intro w hSw; have z0 := cell_bl hSw f0; have z1 := cell_bl hSw f1; have z2 := cell_bl hSw f2; have z3 := cell_bl hSw f3; have z4 := cell_bl hSw f4; have z5 := cell_bl hSw f5; go_simp; (try (with_reducible rfl)); done) | (refine Or.inr ⟨by rfl, ?_⟩; with_reducible rfl)
      try simp only [Act.put, List.setIfInBounds_toArray, List.set_cons_zero, List.set_cons_succ]
      refine wpAnyH_take (i := 21) (oi := { dst := some 38, op := Go.Op.load 3 (Go.Operand.tmp 37), type := 3, pos := _, after := _, guard := some (11, false) }) (v := ?_) rfl (by kernel_rfl) (by kernel_rfl) (by kernel_rfl) (fun _ _ _ h => h) ?_ (by assumption) ?_
      rotate_left
      · first | (refine Or.inl ⟨by rfl, ?_⟩; intro w hSw; have z0 := cell_bl hSw f0; have z1 := cell_bl hSw f1; have z2 := cell_bl hSw f2; have z3 := cell_bl hSw f3; have z4 := cell_bl hSw f4; have z5 := cell_bl hSw f5; go_simp; (try (with_reducible rfl)); done) | (refine Or.inr ⟨by rfl, ?_⟩; with_reducible rfl)
      try simp only [Act.put, List.setIfInBounds_toArray, List.set_cons_zero, List.set_cons_succ]
      refine wpAnyH_take (i := 22) (oi := { dst := some 39, op := Go.Op.binOp Go.BinOp.neq 3 (Go.Operand.tmp 33) (Go.Operand.tmp 38) 3, type := 4, pos := _, after := _, guard := some (11, false) }) (v := ?_) rfl (by kernel_rfl) (by kernel_rfl) (by kernel_rfl) (fun _ _ _ h => h) ?_ (by assumption) ?_
      rotate_left
      · first | (refine Or.inl ⟨by rfl, ?_⟩; intro w hSw; have z0 := cell_bl hSw f0; have z1 := cell_bl hSw f1; have z2 := cell_bl hSw f2; have z3 := cell_bl hSw f3; have z4 := cell_bl hSw f4; have z5 := cell_bl hSw f5; go_simp; (try (with_reducible rfl)); done) | (refine Or.inr ⟨by rfl, ?_⟩; with_reducible rfl)
      try simp only [Act.put, List.setIfInBounds_toArray, List.set_cons_zero, List.set_cons_succ]
      refine wpAnyH_take (i := 23) (oi := { dst := some 40, op := Go.Op.pick (Go.Operand.tmp 28) (Go.Operand.const (Go.Value.bool true)) (Go.Operand.tmp 39), type := 4, pos := _, after := _, guard := none }) (v := ?_) rfl (by kernel_rfl) (by kernel_rfl) (by kernel_rfl) (fun _ _ _ h => h) ?_ (by assumption) ?_
      rotate_left
      · first | (refine Or.inl ⟨by rfl, ?_⟩; intro w hSw; have z0 := cell_bl hSw f0; have z1 := cell_bl hSw f1; have z2 := cell_bl hSw f2; have z3 := cell_bl hSw f3; have z4 := cell_bl hSw f4; have z5 := cell_bl hSw f5; go_simp; (try (with_reducible rfl)); done) | (refine Or.inr ⟨by rfl, ?_⟩; with_reducible rfl)
      try simp only [Act.put, List.setIfInBounds_toArray, List.set_cons_zero, List.set_cons_succ]
      refine wpAnyH_take (i := 24) (oi := { dst := some 41, op := Go.Op.move (Go.Operand.tmp 40), type := 4, pos := _, after := _, guard := none }) (v := ?_) rfl (by kernel_rfl) (by kernel_rfl) (by kernel_rfl) (fun _ _ _ h => h) ?_ (by assumption) ?_
      rotate_left
      · first | (refine Or.inl ⟨by rfl, ?_⟩; intro w hSw; have z0 := cell_bl hSw f0; have z1 := cell_bl hSw f1; have z2 := cell_bl hSw f2; have z3 := cell_bl hSw f3; have z4 := cell_bl hSw f4; have z5 := cell_bl hSw f5; go_simp; (try (with_reducible rfl)); done) | (refine Or.inr ⟨by rfl, ?_⟩; with_reducible rfl)
      try simp only [Act.put, List.setIfInBounds_toArray, List.set_cons_zero, List.set_cons_succ]
      refine wpAnyH_take (i := 25) (oi := { dst := some 42, op := Go.Op.move (Go.Operand.tmp 0), type := 46, pos := _, after := _, guard := some (24, false) }) (v := ?_) rfl (by kernel_rfl) (by kernel_rfl) (by kernel_rfl) (fun _ _ _ h => h) ?_ (by assumption) ?_
      rotate_left
      · first | (refine Or.inl ⟨by rfl, ?_⟩; intro w hSw; have z0 := cell_bl hSw f0; have z1 := cell_bl hSw f1; have z2 := cell_bl hSw f2; have z3 := cell_bl hSw f3; have z4 := cell_bl hSw f4; have z5 := cell_bl hSw f5; go_simp; (try (with_reducible rfl)); done) | (refine Or.inr ⟨by rfl, ?_⟩; with_reducible rfl)
      try simp only [Act.put, List.setIfInBounds_toArray, List.set_cons_zero, List.set_cons_succ]
      refine wpAnyH_take (i := 26) (oi := { dst := some 43, op := Go.Op.move (Go.Operand.tmp 5), type := 3, pos := _, after := _, guard := some (24, false) }) (v := ?_) rfl (by kernel_rfl) (by kernel_rfl) (by kernel_rfl) (fun _ _ _ h => h) ?_ (by assumption) ?_
      rotate_left
      · first | (refine Or.inl ⟨by rfl, ?_⟩; intro w hSw; have z0 := cell_bl hSw f0; have z1 := cell_bl hSw f1; have z2 := cell_bl hSw f2; have z3 := cell_bl hSw f3; have z4 := cell_bl hSw f4; have z5 := cell_bl hSw f5; go_simp; (try (with_reducible rfl)); done) | (refine Or.inr ⟨by rfl, ?_⟩; with_reducible rfl)
      try simp only [Act.put, List.setIfInBounds_toArray, List.set_cons_zero, List.set_cons_succ]
      refine wpAnyH_take (i := 27) (oi := { dst := some 44, op := Go.Op.indexAddr 46 (Go.Operand.tmp 42) (Go.Operand.tmp 43), type := 0, pos := _, after := _, guard := some (24, false) }) (v := ?_) rfl (by kernel_rfl) (by kernel_rfl) (by kernel_rfl) (fun _ _ _ h => h) ?_ (by assumption) ?_
      rotate_left
      · first | (refine Or.inl ⟨by rfl, ?_⟩; intro w hSw; have z0 := cell_bl hSw f0; have z1 := cell_bl hSw f1; have z2 := cell_bl hSw f2; have z3 := cell_bl hSw f3; have z4 := cell_bl hSw f4; have z5 := cell_bl hSw f5; go_simp; (try (with_reducible rfl)); done) | (refine Or.inr ⟨by rfl, ?_⟩; with_reducible rfl)
      try simp only [Act.put, List.setIfInBounds_toArray, List.set_cons_zero, List.set_cons_succ]
      refine wpAnyH_take (i := 28) (oi := { dst := some 45, op := Go.Op.fieldAddr 67 (Go.Operand.tmp 44) 2, type := 0, pos := _, after := _, guard := some (24, false) }) (v := ?_) rfl (by kernel_rfl) (by kernel_rfl) (by kernel_rfl) (fun _ _ _ h => h) ?_ (by assumption) ?_
      rotate_left
      · first | (refine Or.inl ⟨by rfl, ?_⟩; intro w hSw; have z0 := cell_bl hSw f0; have z1 := cell_bl hSw f1; have z2 := cell_bl hSw f2; have z3 := cell_bl hSw f3; have z4 := cell_bl hSw f4; have z5 := cell_bl hSw f5; go_simp; (try (with_reducible rfl)); done) | (refine Or.inr ⟨by rfl, ?_⟩; with_reducible rfl)
      try simp only [Act.put, List.setIfInBounds_toArray, List.set_cons_zero, List.set_cons_succ]
      refine wpAnyH_take (i := 29) (oi := { dst := some 46, op := Go.Op.load 30 (Go.Operand.tmp 45), type := 30, pos := _, after := _, guard := some (24, false) }) (v := ?_) rfl (by kernel_rfl) (by kernel_rfl) (by kernel_rfl) (fun _ _ _ h => h) ?_ (by assumption) ?_
      rotate_left
      · first | (refine Or.inl ⟨by rfl, ?_⟩; intro w hSw; have z0 := cell_bl hSw f0; have z1 := cell_bl hSw f1; have z2 := cell_bl hSw f2; have z3 := cell_bl hSw f3; have z4 := cell_bl hSw f4; have z5 := cell_bl hSw f5; go_simp; (try (with_reducible rfl)); done) | (refine Or.inr ⟨by rfl, ?_⟩; with_reducible rfl)
      try simp only [Act.put, List.setIfInBounds_toArray, List.set_cons_zero, List.set_cons_succ]
      refine wpAnyH_take (i := 30) (oi := { dst := some 47, op := Go.Op.move (Go.Operand.tmp 1), type := 46, pos := _, after := _, guard := some (24, false) }) (v := ?_) rfl (by kernel_rfl) (by kernel_rfl) (by kernel_rfl) (fun _ _ _ h => h) ?_ (by assumption) ?_
      rotate_left
      · first | (refine Or.inl ⟨by rfl, ?_⟩; intro w hSw; have z0 := cell_bl hSw f0; have z1 := cell_bl hSw f1; have z2 := cell_bl hSw f2; have z3 := cell_bl hSw f3; have z4 := cell_bl hSw f4; have z5 := cell_bl hSw f5; go_simp; (try (with_reducible rfl)); done) | (refine Or.inr ⟨by rfl, ?_⟩; with_reducible rfl)
      try simp only [Act.put, List.setIfInBounds_toArray, List.set_cons_zero, List.set_cons_succ]
      refine wpAnyH_take (i := 31) (oi := { dst := some 48, op := Go.Op.move (Go.Operand.tmp 5), type := 3, pos := _, after := _, guard := some (24, false) }) (v := ?_) rfl (by kernel_rfl) (by kernel_rfl) (by kernel_rfl) (fun _ _ _ h => h) ?_ (by assumption) ?_
      rotate_left
      · first | (refine Or.inl ⟨by rfl, ?_⟩; intro w hSw; have z0 := cell_bl hSw f0; have z1 := cell_bl hSw f1; have z2 := cell_bl hSw f2; have z3 := cell_bl hSw f3; have z4 := cell_bl hSw f4; have z5 := cell_bl hSw f5; go_simp; (try (with_reducible rfl)); done) | (refine Or.inr ⟨by rfl, ?_⟩; with_reducible rfl)
      try simp only [Act.put, List.setIfInBounds_toArray, List.set_cons_zero, List.set_cons_succ]
      refine wpAnyH_take (i := 32) (oi := { dst := some 49, op := Go.Op.indexAddr 46 (Go.Operand.tmp 47) (Go.Operand.tmp 48), type := 0, pos := _, after := _, guard := some (24, false) }) (v := ?_) rfl (by kernel_rfl) (by kernel_rfl) (by kernel_rfl) (fun _ _ _ h => h) ?_ (by assumption) ?_
      rotate_left
      · first | (refine Or.inl ⟨by rfl, ?_⟩; intro w hSw; have z0 := cell_bl hSw f0; have z1 := cell_bl hSw f1; have z2 := cell_bl hSw f2; have z3 := cell_bl hSw f3; have z4 := cell_bl hSw f4; have z5 := cell_bl hSw f5; go_simp; (try (with_reducible rfl)); done) | (refine Or.inr ⟨by rfl, ?_⟩; with_reducible rfl)
      try simp only [Act.put, List.setIfInBounds_toArray, List.set_cons_zero, List.set_cons_succ]
      refine wpAnyH_take (i := 33) (oi := { dst := some 50, op := Go.Op.fieldAddr 67 (Go.Operand.tmp 49) 2, type := 0, pos := _, after := _, guard := some (24, false) }) (v := ?_) rfl (by kernel_rfl) (by kernel_rfl) (by kernel_rfl) (fun _ _ _ h => h) ?_ (by assumption) ?_
      rotate_left
      · first | (refine Or.inl ⟨by rfl, ?_⟩; intro w hSw; have z0 := cell_bl hSw f0; have z1 := cell_bl hSw f1; have z2 := cell_bl hSw f2; have z3 := cell_bl hSw f3; have z4 := cell_bl hSw f4; have z5 := cell_bl hSw f5; go_simp; (try (with_reducible rfl)); done) | (refine Or.inr ⟨by rfl, ?_⟩; with_reducible rfl)
      try simp only [Act.put, List.setIfInBounds_toArray, List.set_cons_zero, List.set_cons_succ]
      refine wpAnyH_take (i := 34) (oi := { dst := some 51, op := Go.Op.load 30 (Go.Operand.tmp 50), type := 30, pos := _, after := _, guard := some (24, false) }) (v := ?_) rfl (by kernel_rfl) (by kernel_rfl) (by kernel_rfl) (fun _ _ _ h => h) ?_ (by assumption) ?_
      rotate_left
      · first | (refine Or.inl ⟨by rfl, ?_⟩; intro w hSw; have z0 := cell_bl hSw f0; have z1 := cell_bl hSw f1; have z2 := cell_bl hSw f2; have z3 := cell_bl hSw f3; have z4 := cell_bl hSw f4; have z5 := cell_bl hSw f5; go_simp; (try (with_reducible rfl)); done) | (refine Or.inr ⟨by rfl, ?_⟩; with_reducible rfl)
      try simp only [Act.put, List.setIfInBounds_toArray, List.set_cons_zero, List.set_cons_succ]
      refine wpAnyH_ready (rs := [35]) (by kernel_rfl) (by simp) ?_
      refine AllReadyH.cons (o := { dst := some 52, op := Go.Op.call { callee := Go.Callee.value (Go.Operand.func 20), args := #[Go.Operand.tmp 46, Go.Operand.tmp 51], argTypes := #[30, 30] }, type := 4, pos := _, after := _, guard := some (24, false) }) rfl (fun K hK => ?_) AllReadyH.nil
      go_simp
      refine (HWD.out _ (Bl.dr HB.out (Dr.one (Dr.refl wr)))).mono ?_
      rintro e w5 ⟨rfl, hD5⟩
      have hB5 : Bl wr w5 := Bl.dr ((Dr.one (Dr.refl wr)).below _) hD5
      simp only []
      refine hK.out _ _ ?_ (fun hHeld => ?_)
      · exact hB5
      clear hK K
      try simp only [Act.put, List.setIfInBounds_toArray, List.set_cons_zero, List.set_cons_succ]
      refine wpAnyH_take (i := 36) (oi := { dst := some 53, op := Go.Op.unOp Go.UnOp.not 4 (Go.Operand.tmp 52), type := 4, pos := _, after := _, guard := some (24, false) }) (v := ?_) rfl (by kernel_rfl) (by kernel_rfl) (by kernel_rfl) (fun _ _ _ h => h) ?_ (by assumption) ?_
      rotate_left
      · first | (refine Or.inl ⟨by rfl, ?_⟩; intro w hSw; have z0 := cell_bl hSw f0; have z1 := cell_bl hSw f1; have z2 := cell_bl hSw f2; have z3 := cell_bl hSw f3; have z4 := cell_bl hSw f4; have z5 := cell_bl hSw f5; go_simp; (try (with_reducible rfl)); done) | (refine Or.inr ⟨by rfl, ?_⟩; with_reducible rfl)
      try simp only [Act.put, List.setIfInBounds_toArray, List.set_cons_zero, List.set_cons_succ]
      refine wpAnyH_take (i := 37) (oi := { dst := some 54, op := Go.Op.pick (Go.Operand.tmp 41) (Go.Operand.const (Go.Value.bool true)) (Go.Operand.tmp 53), type := 4, pos := _, after := _, guard := none }) (v := ?_) rfl (by kernel_rfl) (by kernel_rfl) (by kernel_rfl) (fun _ _ _ h => h) ?_ (by assumption) ?_
      rotate_left
      · first | (refine Or.inl ⟨by rfl, ?_⟩; intro w hSw; have z0 := cell_bl hSw f0; have z1 := cell_bl hSw f1; have z2 := cell_bl hSw f2; have z3 := cell_bl hSw f3; have z4 := cell_bl hSw f4; have z5 := cell_bl hSw f5; go_simp; (try (with_reducible rfl)); done) | (refine Or.inr ⟨by rfl, ?_⟩; with_reducible rfl)
      try simp only [Act.put, List.setIfInBounds_toArray, List.set_cons_zero, List.set_cons_succ]
      refine wpAnyH_done (by kernel_rfl) ?_ _
      have HB5 := hide (Bl.then HB.out HB.out.size hB5)
      clear hB5 hD5
      go_wp2_with fail
      go_round
      case rel => exact ⟨k + 1, by omega, by go_num, HB5.out⟩
      case measure => simp [intOf]; omega
    · as_aux_lemma =>
      obtain rfl : k = n := by omega
      have HB := hide hB; clear hB
      go_wp2_with fail
      go_ret
      exact ⟨rfl, HB.out⟩
end Pv
