import Derived.Test.YtjokahbkmceocaaDoorZe
import Derived.Test.YtjokahbkmceocaaDoorZa
import Derived.Test.YtjokahbkmceocaaDoorZg
import Derived.Deep.OwnRows
set_option linter.unusedVariables false
set_option linter.unusedSimpArgs false
namespace Pv
open Go Go.RowKit Go.Proofs

theorem peek_eq {w w' : World} (hB : Bl w w') {a : Addr} {v : Value} (h : w.cell? a = some v) : peek w' a = v := by unfold peek; rw [cell_bl hB h]; rfl
/-- F and the blocks made since w -/
def Gr (F : Nat → Prop) (w : World) : Nat → Prop := fun b => F b ∨ w.heap.size ≤ b
def noteV (round j i : Nat) (l : List Nat) (views : Nat → List Ev) : Nat → List Ev := if j ≠ i ∧ 0 < l.length then upd views j (views j ++ [⟨round, i + 1, l⟩]) else views
def NoteP (w : World) (B0 : Nat) (F : Nat → Prop) (nb : Nat) (sc : Sc) (vt vtp : Value) (round : Nat) (views : Nat → List Ev) (e : Ending) (w' : World) : Prop :=
  e = .returned (.tuple #[]) ∧ Fp F w w' ∧ NetR w' B0 (Gr F w) nb sc vt vtp round views
set_option maxHeartbeats 4000000 in
set_option maxRecDepth 100000 in
theorem note_any (w : World) (B0 : Nat) (F : Nat → Prop) (nb : Nat) (sc : Sc) (vt vtp : Value) (round : Nat) (views : Nat → List Ev) (who src : Nat) (v : Value) (l : List Nat) (S : Nat → Prop) (hn : NetR w B0 F nb sc vt vtp round views) (hB0 : B0 ≤ w.heap.size)
    (hl : (kS kU).R w S [v] l) (hw : who < sc.n) (hs : src ≤ 1000) (hvl : (views who).length ≤ 1000000) (hll : l.length ≤ 1000000) :
    Calls Tryd.prog 62 #[.pointer (some ⟨nb, 0, none⟩), .int .i64 who, .int .i64 src, v] w fun e w' => NoteP w B0 F nb sc vt vtp round (noteV round who src l views) e w' := by
  have hw0 : NetR w B0 (Gr F w) nb sc vt vtp round views := hn.wide (fun b _ h => .inl h) fun b h => by
    rcases h with h | h
    · obtain ⟨_, _, _, _, _, _, _, _, _, h6, _⟩ := hn; exact h6 b h
    · omega
  have hlow := (kS kU).low hl
  obtain ⟨A, c, rfl, hl1, hl2⟩ := kS_len hl
  have HLOW := hide hlow; clear hlow hl
  by_cases hws : who = src
  · have hv0 : noteV round who src l views = views := by unfold noteV; rw [if_neg (fun h => h.1 hws)]
    subst hws
    rw [hv0]
    have HW0 := hide hw0; clear hw0 hn hv0
    go_enter Tryd.func62, Tryd.ntmps62
    go_wp2
    go_returns
    exact ⟨rfl, Fp.refl _ _, HW0.out⟩
  · have hb1 : ((who : Int) == (src : Int)) = false := by simp; omega
    have hb2 : ((who : Int) != (src : Int)) = true := by simp; omega
    have HWS := hide hws; clear hws
    by_cases hl0 : l = []
    · subst hl0
      have hv0 : noteV round who src [] views = views := by unfold noteV; rw [if_neg (fun h => by have := h.2; simp at this)]
      rw [hv0]
      have HW0 := hide hw0; clear hw0 hn hv0
      go_enter Tryd.func62, Tryd.ntmps62
      go_wp2
      go_returns
      exact ⟨rfl, Fp.refl _ _, HW0.out⟩
    · have hlp : 0 < l.length := List.length_pos_iff.2 hl0
      have hv0 : noteV round who src l views = upd views who (views who ++ [⟨round, src + 1, l⟩]) := by unfold noteV; rw [if_pos ⟨HWS.out, hlp⟩]
      rw [hv0]
      have HL0 := hide hl0; clear hl0
      obtain ⟨vc, vd, vb, vws, h1, h2, h3, h4, h5, h6, h7, h8⟩ := hw0
      have hF0 : ∀ b, F b → B0 ≤ b := by obtain ⟨_, _, _, _, _, _, _, _, _, h6, _⟩ := hn; exact h6
      clear hn hv0
      have c6 : w.cell? ⟨nb, 6, none⟩ = some (.int .i64 round) := by simp [World.cell?, h1]
      have c7 : w.cell? ⟨nb, 7, none⟩ = some (.slice (some ⟨vb, 0, none⟩) sc.n sc.n) := by simp [World.cell?, h1]
      have cv := h4.out.cell hw
      have cf := h4.out.free who
      have hpk : peek w ⟨vb, who, none⟩ = vws who := by unfold peek; rw [cv]; rfl
      have hvbl := h4.out.lt
      have hnbl : nb < w.heap.size := (Array.getElem?_eq_some_iff.1 h1).1
      have hvn : vb ≠ nb := h4.f0.2
      have hown : ∀ i g, i < sc.n → (vws i).ownBlock = some g → g ≠ vb ∧ g ≠ nb ∧ g < w.heap.size := fun i g hi hg => ⟨(h4.sep i g hi hg).1, (h4.sep i g hi hg).2.2, (h4.lt hi hg).2⟩
      have hne1 : some nb ≠ (vws who).ownBlock := fun e => (hown who nb hw e.symm).2.1 rfl
      have hne2 : some vb ≠ (vws who).ownBlock := fun e => (hown who vb hw e.symm).1 rfl
      have hfar : ∀ b, w.heap.size ≤ b → Far (fun b => Gr F w b ∧ b ≠ nb) vb sc.n vws b := fun b hb => ⟨⟨.inr hb, by omega⟩, by omega, fun i hi e => by have := (hown i b hi e).2.2; omega⟩
      have hlit : ∀ {w5 : World} {v5 : Value}, Ow kU w5 w.heap.size 22 v5 l → Bl w w5 → (kS (kT kEv (Far (fun b => Gr F w b ∧ b ≠ nb) vb sc.n vws))).R (w5.alloc (.cells #[.int .i64 (round : Int), .int .i64 ((src : Int) + 1), v5] 67)) (Ne (vws who).ownBlock) [.slice (some ⟨w5.heap.size, 0, none⟩) 1 1] [⟨round, src + 1, l⟩] := fun {w5 v5} hO hB => by
        have hev : (kT kEv (Far (fun b => Gr F w b ∧ b ≠ nb) vb sc.n vws)).R w5 (fun b => w.heap.size ≤ b) [.int .i64 (round : Int), .int .i64 ((src + 1 : Nat) : Int), v5] ⟨round, src + 1, l⟩ :=
          kEv_mk (S := fun b => w.heap.size ≤ b ∧ Far (fun b => Gr F w b ∧ b ≠ nb) vb sc.n vws b) (by omega) (by omega) (hO.readsU _ fun b hb => ⟨(hO.base b hb).1, hfar b (hO.base b hb).1⟩)
        have := (kS (kT kEv (Far (fun b => Gr F w b ∧ b ≠ nb) vb sc.n vws))).sub (litK hev 67) (S' := Ne (vws who).ownBlock) fun b _ hb e => by
          have hlt := (hown who b hw e.symm).2.2
          rcases hb with hb | rfl
          · have := hb.1; omega
          · have := hB.size; omega
        exact this
      have hrow := h4.row who hw
      have H4 := hide h4; clear h4
      have H1 := hide h1; clear h1
      have H2 := hide h2; have H3 := hide h3; have H5 := hide h5; have H6 := hide h6; clear h2 h3 h5 h6
      have HOWN := hide hown; clear hown
      have HROW := hide hrow; clear hrow
      have HVL := hide hvl; clear hvl
      have hll8 : (([] : List Nat).length + l.length) * 8 ≤ 140737488355328 := by simp; omega
      have hvl40 : ((views who).length + [(⟨round, src + 1, l⟩ : Ev)].length) * 40 ≤ 140737488355328 := by have := HVL.out; simp; omega
      have hp1 := peek_of cv
      rw [hpk] at hp1
      have HPK := hide hpk; clear hpk
      have cvp := peek_of cv
      have HCV := hide cv; have HCF := hide cf
      have hws1 : IntKind.i64.wrap ((src : Int) + 1) = (src : Int) + 1 := by rw [IntWalk.i64_in _ (by omega)]
      have hHO : ∀ (w5 : World) (ob : Obj) (v : Value), v = vws who → Bl w w5 → Ow (kT kEv (Far (fun b => Gr F w b ∧ b ≠ nb) vb sc.n vws)) (w5.alloc ob) B0 67 v (views who) := fun w5 ob v hv hB => by
        rw [hv]; exact HROW.out.bl (hB.alloc hB.size ob)
      clear cv hp1
      go_enter Tryd.func62, Tryd.ntmps62
      go_wp2_with fail
      have hlast : ∀ (w5 : World) (ob : Obj), Bl w w5 → (w5.alloc ob).cell? ⟨vb, who, none⟩ = some (vws who) ∧ (w5.alloc ob).frozen? ⟨vb, who, none⟩ = false := fun w5 ob hB => ⟨cell_bl (hB.alloc hB.size ob) HCV.out, (Below.frozen (hB.alloc hB.size ob) (p := ⟨vb, who, none⟩) hvbl).trans HCF.out⟩
      refine wp_region_last (n := 24) (fun w' => w'.cell? ⟨nb, 6, none⟩ = some (.int .i64 (round : Int)) ∧ w'.cell? ⟨nb, 7, none⟩ = some (.slice (some ⟨vb, 0, none⟩) sc.n sc.n) ∧ w'.cell? ⟨vb, who, none⟩ = some (vws who)) (by kernel_rfl) (by kernel_rfl) (by kernel_rfl) rfl ⟨c6, c7, HCV.out⟩ (fun hHeld => ?_)
      refine wpAnyH_take (i := 0) (oi := { dst := some 16, op := Go.Op.move (Go.Operand.tmp 0), type := 36, pos := _, after := _, guard := none }) (v := ?_) rfl (by kernel_rfl) (by kernel_rfl) (by kernel_rfl) (fun _ _ _ h => h) (Or.inl ⟨by rfl, ?_⟩) (by assumption) ?_
      rotate_left
      · (intro w hSw; (try dsimp only at hSw); go_simp; (try (with_reducible rfl)))
      try simp only [Act.put, List.setIfInBounds_toArray, List.set_cons_zero, List.set_cons_succ]
      refine wpAnyH_take (i := 1) (oi := { dst := some 17, op := Go.Op.nilCheck (Go.Operand.tmp 16), type := 0, pos := _, after := _, guard := none }) (v := ?_) rfl (by kernel_rfl) (by kernel_rfl) (by kernel_rfl) (fun _ _ _ h => h) (Or.inl ⟨by rfl, ?_⟩) (by assumption) ?_
      rotate_left
      · (intro w hSw; (try dsimp only at hSw); go_simp; (try (with_reducible rfl)))
      try simp only [Act.put, List.setIfInBounds_toArray, List.set_cons_zero, List.set_cons_succ]
      refine wpAnyH_take (i := 2) (oi := { dst := some 18, op := Go.Op.fieldAddr 93 (Go.Operand.tmp 17) 2, type := 0, pos := _, after := _, guard := none }) (v := ?_) rfl (by kernel_rfl) (by kernel_rfl) (by kernel_rfl) (fun _ _ _ h => h) (Or.inl ⟨by rfl, ?_⟩) (by assumption) ?_
      rotate_left
      · (intro w hSw; (try dsimp only at hSw); go_simp; (try (with_reducible rfl)))
      try simp only [Act.put, List.setIfInBounds_toArray, List.set_cons_zero, List.set_cons_succ]
      refine wpAnyH_take (i := 3) (oi := { dst := some 19, op := Go.Op.load 90 (Go.Operand.tmp 18), type := 90, pos := _, after := _, guard := none }) (v := ?_) rfl (by kernel_rfl) (by kernel_rfl) (by kernel_rfl) (fun _ _ _ h => h) (Or.inl ⟨by rfl, ?_⟩) (by assumption) ?_
      rotate_left
      · (intro w hSw; (try dsimp only at hSw); go_simp; (try (with_reducible rfl)))
      try simp only [Act.put, List.setIfInBounds_toArray, List.set_cons_zero, List.set_cons_succ]
      refine wpAnyH_take (i := 4) (oi := { dst := some 20, op := Go.Op.move (Go.Operand.tmp 1), type := 3, pos := _, after := _, guard := none }) (v := ?_) rfl (by kernel_rfl) (by kernel_rfl) (by kernel_rfl) (fun _ _ _ h => h) (Or.inl ⟨by rfl, ?_⟩) (by assumption) ?_
      rotate_left
      · (intro w hSw; (try dsimp only at hSw); go_simp; (try (with_reducible rfl)))
      try simp only [Act.put, List.setIfInBounds_toArray, List.set_cons_zero, List.set_cons_succ]
      refine wpAnyH_take (i := 5) (oi := { dst := some 21, op := Go.Op.move (Go.Operand.tmp 0), type := 36, pos := _, after := _, guard := none }) (v := ?_) rfl (by kernel_rfl) (by kernel_rfl) (by kernel_rfl) (fun _ _ _ h => h) (Or.inl ⟨by rfl, ?_⟩) (by assumption) ?_
      rotate_left
      · (intro w hSw; (try dsimp only at hSw); go_simp; (try (with_reducible rfl)))
      try simp only [Act.put, List.setIfInBounds_toArray, List.set_cons_zero, List.set_cons_succ]
      refine wpAnyH_take (i := 6) (oi := { dst := some 22, op := Go.Op.nilCheck (Go.Operand.tmp 21), type := 0, pos := _, after := _, guard := none }) (v := ?_) rfl (by kernel_rfl) (by kernel_rfl) (by kernel_rfl) (fun _ _ _ h => h) (Or.inl ⟨by rfl, ?_⟩) (by assumption) ?_
      rotate_left
      · (intro w hSw; (try dsimp only at hSw); go_simp; (try (with_reducible rfl)))
      try simp only [Act.put, List.setIfInBounds_toArray, List.set_cons_zero, List.set_cons_succ]
      refine wpAnyH_take (i := 7) (oi := { dst := some 23, op := Go.Op.fieldAddr 93 (Go.Operand.tmp 22) 2, type := 0, pos := _, after := _, guard := none }) (v := ?_) rfl (by kernel_rfl) (by kernel_rfl) (by kernel_rfl) (fun _ _ _ h => h) (Or.inl ⟨by rfl, ?_⟩) (by assumption) ?_
      rotate_left
      · (intro w hSw; (try dsimp only at hSw); go_simp; (try (with_reducible rfl)))
      try simp only [Act.put, List.setIfInBounds_toArray, List.set_cons_zero, List.set_cons_succ]
      refine wpAnyH_take (i := 8) (oi := { dst := some 24, op := Go.Op.load 90 (Go.Operand.tmp 23), type := 90, pos := _, after := _, guard := none }) (v := ?_) rfl (by kernel_rfl) (by kernel_rfl) (by kernel_rfl) (fun _ _ _ h => h) (Or.inl ⟨by rfl, ?_⟩) (by assumption) ?_
      rotate_left
      · (intro w hSw; (try dsimp only at hSw); go_simp; (try (with_reducible rfl)))
      try simp only [Act.put, List.setIfInBounds_toArray, List.set_cons_zero, List.set_cons_succ]
      refine wpAnyH_take (i := 9) (oi := { dst := some 25, op := Go.Op.move (Go.Operand.tmp 1), type := 3, pos := _, after := _, guard := none }) (v := ?_) rfl (by kernel_rfl) (by kernel_rfl) (by kernel_rfl) (fun _ _ _ h => h) (Or.inl ⟨by rfl, ?_⟩) (by assumption) ?_
      rotate_left
      · (intro w hSw; (try dsimp only at hSw); go_simp; (try (with_reducible rfl)))
      try simp only [Act.put, List.setIfInBounds_toArray, List.set_cons_zero, List.set_cons_succ]
      refine wpAnyH_take (i := 10) (oi := { dst := some 26, op := Go.Op.indexAddr 90 (Go.Operand.tmp 24) (Go.Operand.tmp 25), type := 0, pos := _, after := _, guard := none }) (v := ?_) rfl (by kernel_rfl) (by kernel_rfl) (by kernel_rfl) (fun _ _ _ h => h) (Or.inl ⟨by rfl, ?_⟩) (by assumption) ?_
      rotate_left
      · (intro w hSw; (try dsimp only at hSw); go_simp; (try (with_reducible rfl)))
      try simp only [Act.put, List.setIfInBounds_toArray, List.set_cons_zero, List.set_cons_succ]
      refine wpAnyH_take (i := 11) (oi := { dst := some 27, op := Go.Op.load 46 (Go.Operand.tmp 26), type := 46, pos := _, after := _, guard := none }) (v := ?_) rfl (by kernel_rfl) (by kernel_rfl) (by kernel_rfl) (fun _ _ _ h => h) (Or.inl ⟨by rfl, ?_⟩) (by assumption) ?_
      rotate_left
      · (intro w hSw; (try dsimp only at hSw); go_simp; (try (with_reducible rfl)))
      try simp only [Act.put, List.setIfInBounds_toArray, List.set_cons_zero, List.set_cons_succ]
      refine wpAnyH_take (i := 12) (oi := { dst := some 28, op := Go.Op.move (Go.Operand.tmp 0), type := 36, pos := _, after := _, guard := none }) (v := ?_) rfl (by kernel_rfl) (by kernel_rfl) (by kernel_rfl) (fun _ _ _ h => h) (Or.inl ⟨by rfl, ?_⟩) (by assumption) ?_
      rotate_left
      · (intro w hSw; (try dsimp only at hSw); go_simp; (try (with_reducible rfl)))
      try simp only [Act.put, List.setIfInBounds_toArray, List.set_cons_zero, List.set_cons_succ]
      refine wpAnyH_take (i := 13) (oi := { dst := some 29, op := Go.Op.nilCheck (Go.Operand.tmp 28), type := 0, pos := _, after := _, guard := none }) (v := ?_) rfl (by kernel_rfl) (by kernel_rfl) (by kernel_rfl) (fun _ _ _ h => h) (Or.inl ⟨by rfl, ?_⟩) (by assumption) ?_
      rotate_left
      · (intro w hSw; (try dsimp only at hSw); go_simp; (try (with_reducible rfl)))
      try simp only [Act.put, List.setIfInBounds_toArray, List.set_cons_zero, List.set_cons_succ]
      refine wpAnyH_take (i := 14) (oi := { dst := some 30, op := Go.Op.fieldAddr 93 (Go.Operand.tmp 29) 1, type := 0, pos := _, after := _, guard := none }) (v := ?_) rfl (by kernel_rfl) (by kernel_rfl) (by kernel_rfl) (fun _ _ _ h => h) (Or.inl ⟨by rfl, ?_⟩) (by assumption) ?_
      rotate_left
      · (intro w hSw; (try dsimp only at hSw); go_simp; (try (with_reducible rfl)))
      try simp only [Act.put, List.setIfInBounds_toArray, List.set_cons_zero, List.set_cons_succ]
      refine wpAnyH_take (i := 15) (oi := { dst := some 31, op := Go.Op.load 3 (Go.Operand.tmp 30), type := 3, pos := _, after := _, guard := none }) (v := ?_) rfl (by kernel_rfl) (by kernel_rfl) (by kernel_rfl) (fun _ _ _ h => h) (Or.inl ⟨by rfl, ?_⟩) (by assumption) ?_
      rotate_left
      · (intro w hSw; (try dsimp only at hSw); go_simp; (try (with_reducible rfl)))
      try simp only [Act.put, List.setIfInBounds_toArray, List.set_cons_zero, List.set_cons_succ]
      refine wpAnyH_take (i := 16) (oi := { dst := some 32, op := Go.Op.move (Go.Operand.tmp 2), type := 3, pos := _, after := _, guard := none }) (v := ?_) rfl (by kernel_rfl) (by kernel_rfl) (by kernel_rfl) (fun _ _ _ h => h) (Or.inl ⟨by rfl, ?_⟩) (by assumption) ?_
      rotate_left
      · (intro w hSw; (try dsimp only at hSw); go_simp; (try (with_reducible rfl)))
      try simp only [Act.put, List.setIfInBounds_toArray, List.set_cons_zero, List.set_cons_succ]
      refine wpAnyH_take (i := 17) (oi := { dst := some 33, op := Go.Op.binOp Go.BinOp.add 3 (Go.Operand.tmp 32) (Go.Operand.const (Go.Value.int Go.IntKind.i64 1)) 3, type := 3, pos := _, after := _, guard := none }) (v := ?_) rfl (by kernel_rfl) (by kernel_rfl) (by kernel_rfl) (fun _ _ _ h => h) (Or.inl ⟨by rfl, ?_⟩) (by assumption) ?_
      rotate_left
      · (intro w hSw; (try dsimp only at hSw); go_simp; (try (with_reducible rfl)))
      try simp only [Act.put, List.setIfInBounds_toArray, List.set_cons_zero, List.set_cons_succ]
      refine wpAnyH_take (i := 18) (oi := { dst := some 34, op := Go.Op.move (Go.Operand.tmp 3), type := 30, pos := _, after := _, guard := none }) (v := ?_) rfl (by kernel_rfl) (by kernel_rfl) (by kernel_rfl) (fun _ _ _ h => h) (Or.inl ⟨by rfl, ?_⟩) (by assumption) ?_
      rotate_left
      · (intro w hSw; (try dsimp only at hSw); go_simp; (try (with_reducible rfl)))
      try simp only [Act.put, List.setIfInBounds_toArray, List.set_cons_zero, List.set_cons_succ]
      refine wpAnyH_ready (rs := [19]) (by kernel_rfl) (by simp) ?_
      refine AllReadyH.cons (o := { dst := some 35, op := Go.Op.call { callee := Go.Callee.builtin Go.Builtin.append, args := #[Go.Operand.const (Go.Value.slice none 0 0), Go.Operand.tmp 34], argTypes := #[30, 30] }, type := 30, pos := _, after := _, guard := none }) rfl (fun K hK => ?_) AllReadyH.nil
      refine Ow.append_step kU (w0 := w) w.heap.size rfl _ (.tmp 34) 30 22 (.int .u64 0) 8 rfl Tryd.underlying30 cu64info rfl (.slice none 0 0) _ [] l rfl rfl (Ow.nil _ _ _ _) ((Below.refl _ w).drew) (Nat.le_refl _) ((kS kU).sub ((kS kU).kp HLOW.out ((Dr.one (Dr.refl w)).kp _)) fun b _ _ e => by cases e) hll8 (by decide) ?_
      intro v5 w5 hO5 hB5 hg5 hat5
      obtain ⟨A5, c5, rfl, hc5, _⟩ := hO5.slice
      simp only [List.nil_append] at hO5
      refine hK.out _ _ ?_ (fun hHeld => ?_)
      · exact ⟨cell_bl hB5 c6, cell_bl hB5 c7, cell_bl hB5 HCV.out⟩
      clear hK K
      try simp only [Act.put, List.setIfInBounds_toArray, List.set_cons_zero, List.set_cons_succ]
      refine wpAnyH_take (i := 20) (oi := { dst := some 36, op := Go.Op.build 67 #[(0, Go.Operand.tmp 31), (1, Go.Operand.tmp 33), (2, Go.Operand.tmp 35)], type := 67, pos := _, after := _, guard := none }) (v := ?_) rfl (by kernel_rfl) (by kernel_rfl) (by kernel_rfl) (fun _ _ _ h => h) (Or.inl ⟨by rfl, ?_⟩) (by assumption) ?_
      rotate_left
      · (intro w hSw; (try dsimp only at hSw); go_simp; (try (with_reducible rfl)))
      try simp only [Act.put, List.setIfInBounds_toArray, List.set_cons_zero, List.set_cons_succ]
      refine wpAnyH_ready (rs := [21]) (by kernel_rfl) (by simp) ?_
      refine AllReadyH.cons (o := { dst := some 37, op := Go.Op.buildSlice 46 1 #[(0, Go.Operand.tmp 36)], type := 46, pos := _, after := _, guard := none }) rfl (fun K hK => ?_) AllReadyH.nil
      go_simp
      refine hK.out _ _ ?_ (fun hHeld => ?_)
      · exact ⟨cell_bl (hB5.alloc hB5.size _) c6, cell_bl (hB5.alloc hB5.size _) c7, cell_bl (hB5.alloc hB5.size _) HCV.out⟩
      clear hK K
      try simp only [Act.put, List.setIfInBounds_toArray, List.set_cons_zero, List.set_cons_succ]
      refine wpAnyH_ready (rs := [22]) (by kernel_rfl) (by simp) ?_
      refine AllReadyH.cons (o := { dst := some 38, op := Go.Op.call { callee := Go.Callee.builtin Go.Builtin.append, args := #[Go.Operand.tmp 27, Go.Operand.tmp 37], argTypes := #[46, 46] }, type := 46, pos := _, after := _, guard := none }) rfl (fun K hK => ?_) AllReadyH.nil
      refine Ow.append_step (kT kEv (Far (fun b => Gr F w b ∧ b ≠ nb) vb sc.n vws)) (w0 := w5.alloc (.cells #[.int .i64 (round : Int), .int .i64 ((src : Int) + 1), .slice A5 l.length c5] 67)) B0 rfl (.tmp 27) (.tmp 37) 46 67 (.agg #[.int .i64 0, .int .i64 0, .slice none 0 0]) 40 rfl Tryd.underlying46 evinfo rfl (vws who) _ (views who) [⟨round, src + 1, l⟩] rfl rfl (hHO _ _ _ rfl hB5) (Below.refl _ _) (Nat.le_trans hB0 (hB5.alloc hB5.size _).size) (hlit hO5 hB5) hvl40 (by decide) ?_
      intro v7 w7 hO7 hB7 hg7 hat7
      obtain ⟨A7, d7, rfl, hc7, _⟩ := hO7.slice
      simp only [List.length_append, List.length_cons, List.length_nil, Nat.zero_add] at hO7 hat7
      refine hK.out _ _ ?_ (fun hHeld => ?_)
      · exact ⟨hg7.cell (cell_bl (hB5.alloc hB5.size _) c6) hne1, hg7.cell (cell_bl (hB5.alloc hB5.size _) c7) hne1, hg7.cell (cell_bl (hB5.alloc hB5.size _) HCV.out) hne2⟩
      clear hK K
      try simp only [Act.put, List.setIfInBounds_toArray, List.set_cons_zero, List.set_cons_succ]
      refine wpAnyH_take (i := 23) (oi := { dst := some 39, op := Go.Op.indexAddr 90 (Go.Operand.tmp 19) (Go.Operand.tmp 20), type := 0, pos := _, after := _, guard := none }) (v := ?_) rfl (by kernel_rfl) (by kernel_rfl) (by kernel_rfl) (fun _ _ _ h => h) (Or.inl ⟨by rfl, ?_⟩) (by assumption) ?_
      rotate_left
      · (intro w hSw; (try dsimp only at hSw); go_simp; (try (with_reducible rfl)))
      try simp only [Act.put, List.setIfInBounds_toArray, List.set_cons_zero, List.set_cons_succ]
      have cv7 := hg7.cell (hlast w5 _ hB5).1 hne2
      have cf7 := (hg7.frozen_far _ (Nat.lt_of_lt_of_le hvbl (hB5.alloc hB5.size _).size) hne2).trans (hlast w5 _ hB5).2
      refine wpAnyH_done (by kernel_rfl) ?_ _
      refine lastQ_normal ?_
      refine wpOp_step (i := 24) (o := { dst := none, op := Go.Op.store 46 (Go.Operand.tmp 39) (Go.Operand.tmp 38), type := 0, pos := _, after := _, guard := none }) rfl (fun K hK => ?_)
      go_simp
      refine hK _ _ ?_
      clear hK K
      all_goals go_wp2_with fail
      all_goals go_returns
      all_goals (
        have hB52 := hB5.alloc hB5.size (.cells #[.int .i64 (round : Int), .int .i64 ((src : Int) + 1), .slice A5 l.length c5] 67)
        have hFown : ∀ g, (vws who).ownBlock = some g → F g := fun g hg => by
          rcases (H4.out.sep who g hw hg).2.1 with h | h
          · exact h
          · have := (HOWN.out who g hw hg).2.2; omega
        have hFvb : F vb := by
          rcases H4.out.f0.1 with h | h
          · exact h
          · omega
        have hR := Rws.store (H4.out.bl hB52) hw hg7 hO7 (hat_of hat7) (fun g hg => by
          rcases hat_of hat7 g hg with h | h
          · exact (H4.out.sep who g hw h).2
          · have h2 : w.heap.size ≤ g := Nat.le_trans hB52.size h
            exact ⟨.inr h2, by omega⟩)
        have hFp := ((Fp.of_bl hB52 F).trans (Fp.of_grown hg7 F hFown) fun _ _ h => h).set (a := ⟨vb, who, none⟩) (.slice A7 ((views who).length + 1) d7) (.inl hFvb)
        refine ⟨rfl, hFp, vc, vd, vb, _, ?_, (kS kI).kp H2.out (hFp.kp fun b _ hs e => by have := hF0 b e; omega), (kS kDev).kp H3.out (hFp.kp fun b _ hs e => by have := hF0 b e; omega), hR.congr fun i _ => ?_, H5.out, H6.out, h7, h8⟩
        · rw [heap_setCell_ne _ _ _ _ hvn.symm, hg7.block nb (Nat.lt_of_lt_of_le hnbl hB52.size) hne1, hB52.block nb hnbl]; exact H1.out
        · unfold upd; split <;> simp_all)
end Pv

set_option linter.unusedVariables false
set_option linter.unusedSimpArgs false
namespace Pv
open Go Go.RowKit Go.Proofs

theorem RowAt.made (w : World) (z : Value) (n : Nat) (t : TypeId) : RowAt (w.alloc (.cells (madeCells #[z] n) t)) w.heap.size t n (fun _ => z) := by
  refine ⟨_, heap_alloc_new w _, by rw [size_madeCells]; exact Nat.le_refl _, fun i hi => ?_⟩
  have h := toList_madeCells_one z n
  rw [← Array.getElem?_toList, h, List.getElem?_replicate, if_pos hi]
/-- what party j hears, noted: the first k senders -/
def hearV (round j k : Nat) (f : Nat → List Nat) (views : Nat → List Ev) : Nat → List Ev := (List.range k).foldl (fun vs i => noteV round j i (f i) vs) views
/-- a round's messages noted: the first k receivers -/
def sendV (round n k : Nat) (said : Nat → Nat → List Nat) (views : Nat → List Ev) : Nat → List Ev := (List.range k).foldl (fun vs j => hearV round j n (fun i => said i j) vs) views
theorem hearV_succ (round j k : Nat) (f : Nat → List Nat) (views : Nat → List Ev) : hearV round j (k + 1) f views = noteV round j k (f k) (hearV round j k f views) := by
  unfold hearV; rw [List.range_succ, List.foldl_append]; rfl
theorem sendV_succ (round n k : Nat) (said : Nat → Nat → List Nat) (views : Nat → List Ev) : sendV round n (k + 1) said views = hearV round k n (fun i => said i k) (sendV round n k said views) := by
  unfold sendV; rw [List.range_succ, List.foldl_append]; rfl
theorem noteV_len (round j i : Nat) (l : List Nat) (views : Nat → List Ev) (j' : Nat) : (noteV round j i l views j').length ≤ (views j').length + 1 := by
  unfold noteV; split
  · unfold upd; split
    · subst_vars; simp
    · omega
  · omega
theorem hearV_len (round j : Nat) (f : Nat → List Nat) (views : Nat → List Ev) (j' : Nat) : ∀ k : Nat, (hearV round j k f views j').length ≤ (views j').length + k
  | 0 => Nat.le_refl _
  | k + 1 => by
    rw [hearV_succ]
    have := noteV_len round j k (f k) (hearV round j k f views) j'
    have := hearV_len round j f views j' k
    omega
theorem sendV_len (round n : Nat) (said : Nat → Nat → List Nat) (views : Nat → List Ev) (j' : Nat) : ∀ k : Nat, (sendV round n k said views j').length ≤ (views j').length + k * n
  | 0 => by simp [sendV]
  | k + 1 => by
    rw [sendV_succ]
    have := hearV_len round k (fun i => said i k) (sendV round n k said views) j' n
    have := sendV_len round n said views j' k
    rw [Nat.add_mul]; omega
theorem NetR.tick {w : World} {B0 : Nat} {F : Nat → Prop} {nb : Nat} {sc : Sc} {vt vtp : Value} {round : Nat} {views : Nat → List Ev} (h : NetR w B0 F nb sc vt vtp round views) (hr : round + 1 ≤ 1000000) :
    NetR (w.setCell ⟨nb, 6, none⟩ (.int .i64 ((round : Int) + 1))) B0 F nb sc vt vtp (round + 1) views := by
  obtain ⟨vc, vd, vb, vws, h1, h2, h3, h4, h5, h6, h7, h8, h9⟩ := h
  have hk : ∀ b, b ≠ nb → (w.setCell ⟨nb, 6, none⟩ (.int .i64 ((round : Int) + 1))).heap[b]? = w.heap[b]? := fun b hb => heap_setCell_ne _ _ _ _ hb
  refine ⟨vc, vd, vb, vws, ?_, (kS kI).kp h2 fun b _ hb => hk b (fun e => by have := h6 _ h5; omega), (kS kDev).kp h3 fun b _ hb => hk b (fun e => by have := h6 _ h5; omega), h4.frame fun b _ hb => hk b hb.2, h5, h6, h7, hr, h9⟩
  simp [World.setCell, Array.getElem?_modify, h1]

/-- in the middle of a round: what was heard so far, the network, apart -/
def SdI (w2 wr : World) (B0 : Nat) (F : Nat → Prop) (nb : Nat) (sc : Sc) (vt vtp : Value) (round : Nat) (X : Nat → List (List Nat)) (V : Nat → List Ev) : Prop :=
  ∃ (Fi Fn : Nat → Prop) (vs : Nat → Value), Rws (kS kU) wr Fi w2.heap.size w2.heap.size sc.n 27 30 vs X ∧ NetR wr B0 Fn nb sc vt vtp round V ∧ Fp F w2 wr ∧ (∀ b, Fi b → w2.heap.size ≤ b ∧ b < wr.heap.size ∧ ¬ Fn b) ∧ (∀ b, Fn b → b < wr.heap.size ∧ (F b ∨ w2.heap.size ≤ b))
section
variable {w2 wr : World} {B0 : Nat} {F : Nat → Prop} {nb : Nat} {sc : Sc} {vt vtp : Value} {round : Nat} {X : Nat → List (List Nat)} {V : Nat → List Ev}
theorem SdI.congr {X' : Nat → List (List Nat)} (h : SdI w2 wr B0 F nb sc vt vtp round X V) (e : ∀ i, i < sc.n → X i = X' i) : SdI w2 wr B0 F nb sc vt vtp round X' V := by
  obtain ⟨Fi, Fn, vs, h1, h2⟩ := h
  exact ⟨Fi, Fn, vs, h1.congr e, h2⟩
/-- a message is laid into a receiver's row -/
theorem SdI.push {Fi Fn : Nat → Prop} {vs : Nat → Value} (hR : Rws (kS kU) wr Fi w2.heap.size w2.heap.size sc.n 27 30 vs X) (hN : NetR wr B0 Fn nb sc vt vtp round V) (hF : Fp F w2 wr) (hi : ∀ b, Fi b → w2.heap.size ≤ b ∧ b < wr.heap.size ∧ ¬ Fn b) (hn : ∀ b, Fn b → b < wr.heap.size ∧ (F b ∨ w2.heap.size ≤ b)) (hB0 : B0 ≤ w2.heap.size)
    {w4 w5 : World} {j : Nat} {vl v5 : Value} {l : List Nat} (hj : j < sc.n) (hB4 : Bl wr w4) (hl : Ow kU w4 wr.heap.size 22 vl l) (hg : w4.grownBy w5 (vs j).ownBlock) (hat : v5.ownBlock = (vs j).ownBlock ∨ ∃ b, v5.ownBlock = some b ∧ w4.heap.size ≤ b)
    (hO : Ow (kT (kS kU) (Far (fun b => Fi b ∨ wr.heap.size ≤ b) w2.heap.size sc.n vs)) w5 w2.heap.size 30 v5 (X j ++ [l])) :
    SdI w2 (w5.setCell ⟨w2.heap.size, j, none⟩ v5) B0 F nb sc vt vtp round (upd X j (X j ++ [l])) V ∧ (kS kU).R (w5.setCell ⟨w2.heap.size, j, none⟩ v5) (fun b => wr.heap.size ≤ b) [vl] l := by
  have hw2 := hR.out.lt
  have hR4 := (hR.bl hB4).wide (F' := fun b => Fi b ∨ wr.heap.size ≤ b) fun b _ h => .inl h
  have hst := Rws.store hR4 hj hg hO (hat_of hat) fun g hg' => by
    rcases hat_of hat g hg' with h | h
    · exact .inl ((hR.sep j g hj h).2)
    · exact .inr (Nat.le_trans hB4.size h)
  have hown : ∀ g, (vs j).ownBlock = some g → Fi g := fun g h => (hR.sep j g hj h).2
  have hch : ∀ b, b < wr.heap.size → ¬ Fi b → (w5.setCell ⟨w2.heap.size, j, none⟩ v5).heap[b]? = wr.heap[b]? := fun b hb hf => by
    rw [heap_setCell_ne _ _ _ _ (fun e => hf (by have e : b = w2.heap.size := e; rw [e]; exact hR.f0)), hg.block b (Nat.lt_of_lt_of_le hb hB4.size) (fun e => hf (hown b e.symm)), hB4.block b hb]
  have hsz : wr.heap.size ≤ (w5.setCell ⟨w2.heap.size, j, none⟩ v5).heap.size := by
    have := hB4.size; have := hg.size; simp [World.setCell]; omega
  refine ⟨⟨fun b => (Fi b ∨ wr.heap.size ≤ b) ∧ b < (w5.setCell ⟨w2.heap.size, j, none⟩ v5).heap.size, Fn, _, hst.wide fun b hb h => ⟨h, hb⟩, hN.frame fun b hb h => hch b hb fun hf => ?_, ?_, fun b hb => ?_, fun b hb => ⟨by have := (hn b hb).1; omega, (hn b hb).2⟩⟩, ?_⟩
  · rcases h with h | h
    · exact (hi b hf).2.2 h
    · have := (hi b hf).1; omega
  · refine ⟨hg.os.trans (hB4.os.trans hF.os), hg.tape.trans (hB4.tape.trans hF.tape), hg.output.trans (hB4.output.trans hF.output), Nat.le_trans hF.size hsz, fun b hb hn' => ?_⟩
    rw [hch b (Nat.lt_of_lt_of_le hb hF.size) (fun hf => by have := (hi b hf).1; omega)]; exact hF.block b hb hn'
  · obtain ⟨hb1, hb2⟩ := hb
    refine ⟨?_, hb2, fun hf => ?_⟩
    · rcases hb1 with h | h
      · exact (hi b h).1
      · omega
    · rcases hb1 with h | h
      · exact (hi b h).2.2 hf
      · have := (hn b hf).1; omega
  · refine (kS kU).kp (hl.readsU (fun b => vl.ownBlock = some b ∧ wr.heap.size ≤ b) fun b hb => ⟨hb, (hl.base b hb).1⟩) (w' := w5) (fun b hb hs => hg.block b hb fun e => ?_) |> fun h => (kS kU).sub ((kS kU).kp h fun b hb hs => heap_setCell_ne _ _ _ _ fun e => ?_) fun b _ hs => hs.2
    · have e : b = w2.heap.size := e
      have := hs.2; omega
    · have := (hR.lt hj e.symm).2; have := hs.2; omega
/-- .. and noted -/
theorem SdI.noted {w7 : World} {V' : Nat → List Ev} {Fi Fn : Nat → Prop} {vs : Nat → Value} (hR : Rws (kS kU) wr Fi w2.heap.size w2.heap.size sc.n 27 30 vs X) (hF : Fp F w2 wr) (hi : ∀ b, Fi b → w2.heap.size ≤ b ∧ b < wr.heap.size ∧ ¬ Fn b) (hn : ∀ b, Fn b → b < wr.heap.size ∧ (F b ∨ w2.heap.size ≤ b))
    (hF7 : Fp Fn wr w7) (hN7 : NetR w7 B0 (Gr Fn wr) nb sc vt vtp round V') (hB0 : B0 ≤ w2.heap.size) : SdI w2 w7 B0 F nb sc vt vtp round X V' := by
  refine ⟨Fi, fun b => Gr Fn wr b ∧ b < w7.heap.size, vs, hR.frame fun b hb hf => hF7.block b hb (hi b hf).2.2, hN7.wide (fun b hb h => ⟨h, hb⟩) fun b hb => ?_, hF.trans hF7 fun b hb hf => ?_, fun b hb => ⟨(hi b hb).1, Nat.lt_of_lt_of_le (hi b hb).2.1 hF7.size, fun hf => ?_⟩, fun b hb => ⟨hb.2, ?_⟩⟩
  · obtain ⟨_, _, _, _, _, _, _, _, _, h6, _⟩ := hN7
    exact h6 b hb.1
  · rcases (hn b hf).2 with h | h
    · exact h
    · omega
  · rcases hf.1 with h | h
    · exact (hi b hb).2.2 h
    · have := (hi b hb).2.1; omega
  · rcases hb.1 with h | h
    · exact (hn b h).2
    · exact .inr (Nat.le_trans hF.size h)
end
def SendP (w : World) (B0 : Nat) (F : Nat → Prop) (nb : Nat) (sc : Sc) (vt vtp : Value) (round : Nat) (said : Nat → Nat → List Nat) (V : Nat → List Ev) (e : Ending) (w' : World) : Prop :=
  Fp F w w' ∧ ∃ (F' : Nat → Prop) (v' : Value), e = .returned v' ∧ (∀ b, F' b → b < w'.heap.size ∧ (F b ∨ w.heap.size ≤ b)) ∧ NetR w' B0 F' nb sc vt vtp (round + 1) (sendV round sc.n sc.n said V) ∧ (kS (kS (kS kU))).R w' (fun b => ¬ F' b ∧ w.heap.size ≤ b) [v'] (mat sc.n fun j i => said i j)
set_option maxHeartbeats 4000000 in
set_option maxRecDepth 100000 in
theorem send_any (w : World) (B0 : Nat) (F : Nat → Prop) (nb : Nat) (sc : Sc) (vt vtp v : Value) (round : Nat) (V : Nat → List Ev) (out : Nat → Nat → List Nat) (S : Nat → Prop) (hn : NetR w B0 F nb sc vt vtp round V) (hB0 : B0 ≤ w.heap.size) (hFb : ∀ b, F b → b < w.heap.size) (hp : IsP sc.p) (hn13 : sc.n ≤ 13) (hdv : ∀ d, d ∈ sc.devs → DevV sc.n d)
    (hr : (kS (kS (kS kU))).R w S [v] (mat sc.n out)) (hS : ∀ b, S b → ¬ F b) (hok : ∀ i j, i < sc.n → j < sc.n → OkM sc.p 1000000 (out i j)) (hround : round + 1 ≤ 1000000) (hV : ∀ j, (V j).length ≤ 100000) :
    Calls Tryd.prog 46 #[.pointer (some ⟨nb, 0, none⟩), v] w fun e w' => SendP w B0 F nb sc vt vtp round (applyM sc.p sc.corrupt round sc.devs out) V e w' := by
  have HN := hide hn
  have hn2 := hn
  obtain ⟨vc, vd, vb, vws, h1, h2, h3, h4, h5, h6, h7, h8, At, nt, ct, rfl⟩ := hn2
  obtain ⟨Ac, cc, rfl, _, _⟩ := kS_len h2
  obtain ⟨Ad, cd, rfl, _, _⟩ := kS_len h3
  have hnbl := (Array.getElem?_eq_some_iff.1 h1).1
  have c0 : w.cell? ⟨nb, 0, none⟩ = some (.int .u64 sc.p) := by simp [World.cell?, h1]
  have c1 : w.cell? ⟨nb, 1, none⟩ = some (.int .i64 sc.n) := by simp [World.cell?, h1]
  have c2 : w.cell? ⟨nb, 2, none⟩ = some (.int .i64 sc.t) := by simp [World.cell?, h1]
  have c3 : w.cell? ⟨nb, 3, none⟩ = some (.slice Ac sc.corrupt.length cc) := by simp [World.cell?, h1]
  have c4 : w.cell? ⟨nb, 4, none⟩ = some (.slice Ad sc.devs.length cd) := by simp [World.cell?, h1]
  have c5 : w.cell? ⟨nb, 5, none⟩ = some (.slice At nt ct) := by simp [World.cell?, h1]
  have c6 : w.cell? ⟨nb, 6, none⟩ = some (.int .i64 round) := by simp [World.cell?, h1]
  have hap := apply_any sc.p sc.n sc.t (.slice Ac sc.corrupt.length cc) (.slice Ad sc.devs.length cd) (.slice At nt ct) v sc.corrupt sc.devs round out _ _ S w.drew hp ((kS kI).kp h2 ((Dr.one (Dr.refl w)).kp _)) ((kS kDev).kp h3 ((Dr.one (Dr.refl w)).kp _)) ((kS (kS (kS kU))).kp hr ((Dr.one (Dr.refl w)).kp _)) h7 hdv hok
  simp only [scVal] at hap
  have HAP := hide hap; clear hap
  have HOK := hide hok; clear hok
  obtain ⟨Av, cv, rfl, _, _⟩ := kS_len hr
  rw [mat_len]
  rw [mat_len] at HAP
  have HH1 := hide h1
  clear hn h1 h2 h3 h4 h5 h6 hr hdv
  obtain ⟨said, hsaid⟩ : ∃ said, said = applyM sc.p sc.corrupt round sc.devs out := ⟨_, rfl⟩
  have HSAID := hide hsaid
  rw [← hsaid]
  clear hsaid
  go_enter Tryd.func46, Tryd.ntmps46
  go_wp2_with fail
  go_region_held3 (fun w' => w'.cell? ⟨nb, 0, none⟩ = some (.int .u64 (sc.p : Int)) ∧ w'.cell? ⟨nb, 1, none⟩ = some (.int .i64 (sc.n : Int)) ∧ w'.cell? ⟨nb, 2, none⟩ = some (.int .i64 (sc.t : Int)) ∧ w'.cell? ⟨nb, 3, none⟩ = some (.slice Ac sc.corrupt.length cc) ∧ w'.cell? ⟨nb, 4, none⟩ = some (.slice Ad sc.devs.length cd) ∧ w'.cell? ⟨nb, 5, none⟩ = some (.slice At nt ct) ∧ w'.cell? ⟨nb, 6, none⟩ = some (.int .i64 (round : Int)))
    (first
      | (go_keep; done)
      | ((try go_split_ands); (repeat' apply And.intro) <;> first
          | assumption
          | (exact cell_bl hB2 (by assumption))))
    (first
      | (go_at_call 63; refine HAP.out.mono ?_; rintro e w2 ⟨hB2, v2, rfl, hs2⟩; obtain ⟨A2, c2', rfl, hl21, hl22⟩ := kS_len hs2))
  have hBw2 : Bl w w2 := (Bl.dr (Below.refl _ _) (Dr.one (Dr.refl _))).trans hB2
  rw [mat_len] at hs2 hl21
  simp only [mat_len]
  have hs3 : (kS (kS (kS kU))).R w2 (fun b => ¬ F b) [.slice A2 sc.n c2'] (mat sc.n said) := by
    rw [HSAID.out]
    exact (kS (kS (kS kU))).sub hs2 fun b _ hb e => by
      rcases hb with hb | hb
      · exact hS b hb e
      · have hb : w.heap.size ≤ b := hb
        have := hFb b e; omega
  have HS3 := hide hs3; clear hs3 hs2
  have HBW2 := hide hBw2; clear hBw2 hB2
  have hmk := fun W : World => run_make_row' (P := Tryd.prog) 75 27 (.slice none 0 0) 24 Tryd.underlying75 crrinfo rfl .i64 .i64 sc.n (by omega) (by omega) W
  go_wp2_with fail
  obtain ⟨w3, hw3⟩ : ∃ w3, w3 = w2.alloc (.cells (madeCells #[.slice none 0 0] sc.n) 27) := ⟨_, rfl⟩
  rw [← hw3]
  have hB3 : Bl w2 w3 := by rw [hw3]; exact (Below.refl _ _).alloc (Nat.le_refl _) _
  have hI0 : SdI w2 w3 B0 F nb sc (.slice At nt ct) vtp round (fun j' => if j' < 0 then row1 sc.n (fun i => said i j') else []) (sendV round sc.n 0 said V) := by
    have hRA : RowAt w3 w2.heap.size 27 sc.n (fun _ => .slice none 0 0) := by rw [hw3]; exact RowAt.made _ _ _ _
    refine ⟨fun b => b = w2.heap.size, F, _, (Rws.start (F := fun b => b = w2.heap.size) (kS kU) 30 hRA rfl (Nat.le_refl _)).congr fun i hi => by simp, (HN.out.bl HBW2.out).bl hB3, Fp.of_bl hB3 _, fun b hb => ⟨by omega, ?_, fun h => ?_⟩, fun b hb => ⟨?_, .inl hb⟩⟩
    · rw [hb, hw3, Dr.alloc_heap, Array.size_push]; omega
    · have := hFb b h; have := HBW2.out.size; omega
    · have := hFb b hb; have := HBW2.out.size; have := hB3.size; omega
  have HI0 := hide hI0; clear hI0
  have HW3 := hide hw3; clear hw3
  clear hmk HAP HN HH1
  have hB02 : B0 ≤ w2.heap.size := Nat.le_trans hB0 HBW2.out.size
  obtain ⟨g0, hg0⟩ : ∃ g0, g0 = w2.heap.size := ⟨_, rfl⟩
  rw [← hg0]
  have HG0 := hide hg0; clear hg0
  go_loopw [32] (fun i wr => ∃ j : Nat, j ≤ sc.n ∧ i = .int .i64 j ∧ SdI w2 wr B0 F nb sc (.slice At nt ct) vtp round (fun j' => if j' < j then row1 sc.n (fun i => said i j') else []) (sendV round sc.n j said V)) (fun i _ => sc.n - (intOf i).toNat)
  case atStart => exact ⟨0, by omega, rfl, HI0.out⟩
  case round =>
    obtain ⟨j, hj, rfl, hI⟩ := hrel
    by_cases hjn : j < sc.n
    · as_aux_lemma =>
      have hji : (j : Int) < (sc.n : Int) := by omega
      have hj0 : (0 : Int) ≤ (j : Int) := by omega
      have n1 : wr.cell? ⟨nb, 1, none⟩ = some (.int .i64 sc.n) := by
        obtain ⟨_, _, _, _, ⟨_, _, _, _, h, _⟩, _⟩ := hI
        simp [World.cell?, h]
      have HI := hide hI; clear hI
      go_wp2_with fail
      clear n1
      go_loopw [41] (fun i wx => ∃ k : Nat, k ≤ sc.n ∧ i = .int .i64 k ∧ SdI w2 wx B0 F nb sc (.slice At nt ct) vtp round (fun j' => if j' < j then row1 sc.n (fun i => said i j') else if j' = j then (List.range k).map (fun i => said i j) else []) (hearV round j k (fun i => said i j) (sendV round sc.n j said V))) (fun i _ => sc.n - (intOf i).toNat)
      case atStart => exact ⟨0, by omega, rfl, HI.out.congr fun i hi => by simp⟩
      case round => as_aux_lemma =>
        clear HI
        obtain ⟨k, hk, rfl, hI⟩ := hrel
        by_cases hkn : k < sc.n
        · obtain ⟨Fi, Fn, vs, hR, hN, hF, hi, hn'⟩ := hI
          have hki : (k : Int) < (sc.n : Int) := by omega
          have hk0 : (0 : Int) ≤ (k : Int) := by omega
          have hsr := (kS (kS (kS kU))).kp HS3.out (hF.kp fun b _ hb => hb)
          obtain ⟨_, _, e1, _, hcell⟩ := rd_open rfl hsr
          obtain ⟨ad, u, rfl, _, hu, hcu⟩ := hcell k _ (mat_at said hkn)
          obtain ⟨Au, cu, rfl, ⟨hlu1, hlu2⟩, hcell2⟩ := rd_open rfl hu
          rw [row1_len] at hcu hlu1
          obtain ⟨ad2, x, rfl, _, hx, hcx⟩ := hcell2 j _ (row1_at (said k) hjn)
          injection e1 with e1 e3 e2
          subst e1
          clear e3 e2
          obtain ⟨Ax, cx, rfl, _, _⟩ := kS_len hx
          have hlow := (kS kU).low hx
          have hokl : OkM sc.p 1000000 (said k j) := by rw [HSAID.out]; exact applyM_ok (by have := hp.lo; omega) _ (HOK.out k j hkn hjn)
          have hXj : (if j < j then row1 sc.n (fun i => said i j) else if j = j then (List.range k).map (fun i => said i j) else []) = (List.range k).map (fun i => said i j) := by simp
          have hcv := hR.out.cell hjn
          have hcf := hR.out.free j
          obtain ⟨Aj, cj, hvj, hlj, _⟩ := hR.head hjn
          rw [hXj] at hvj hlj
          rw [List.length_map, List.length_range] at hvj hlj
          rw [hvj] at hcv
          have hrowj := hR.row j hjn
          rw [hXj] at hrowj
          have hVl : ∀ j', (hearV round j k (fun i => said i j) (sendV round sc.n j said V) j').length ≤ 1000000 := fun j' => by
            have h1 := hearV_len round j (fun i => said i j) (sendV round sc.n j said V) j' k
            have h2 := sendV_len round sc.n said V j' j
            have h3 := hV j'
            have h4 : j * sc.n ≤ 13 * 13 := Nat.mul_le_mul (by omega) hn13
            omega
          have HR := hide hR; have HNN := hide hN; have HF := hide hF; have HI := hide hi; have HNN' := hide hn'
          have HVJ := hide hvj; have HLOW := hide hlow; have HROWJ := hide hrowj; have HVL := hide hVl; have HOKL := hide hokl
          clear hR hN hF hi hn' hvj hlow hrowj hVl hokl hXj hsr hcell hcell2 hu hx
          have hl8 := HOKL.out.2
          rw [← HG0.out] at hcv hcf
          go_wp2_with (at_builtin; refine Ow.append_row kU (w0 := wr) wr.heap.size rfl _ _ 30 22 (.int .u64 0) 8 rfl Tryd.underlying30 cu64info rfl (.slice none 0 0) _ [] (said k j) rfl rfl (Ow.nil _ _ _ _) (Below.refl _ _) (Nat.le_refl _) ((kS kU).sub HLOW.out fun b hb hs => by intro e; cases e) (by simp; omega) (by decide) ?_)
          intro v4 w4 hO4 hB4 _ _
          obtain ⟨A4, c4', rfl, _, _⟩ := hO4.slice
          have hcv4 := cell_bl hB4 hcv
          have hcf4 := free_bl hB4 hcv hcf
          have hsz4 : w2.heap.size ≤ w4.heap.size := Nat.le_trans HF.out.size hB4.size
          have hHO : Ow (kT (kS kU) (Far (fun b => Fi b ∨ wr.heap.size ≤ b) w2.heap.size sc.n vs)) w4 w2.heap.size 30 (.slice Aj k cj) ((List.range k).map fun i => said i j) := by
            rw [← HVJ.out]; exact (HROWJ.out.bl hB4).monoT fun b _ hT => ⟨.inl hT.1, hT.2⟩
          have hHX : (kT (kS kU) (Far (fun b => Fi b ∨ wr.heap.size ≤ b) w2.heap.size sc.n vs)).R w4 (Ne (Value.slice Aj k cj).ownBlock) [.slice A4 (said k j).length c4'] (said k j) := by
            refine hO4.readsU (fun b => Ne (Value.slice Aj k cj).ownBlock b ∧ Far (fun b => Fi b ∨ wr.heap.size ≤ b) w2.heap.size sc.n vs b) fun b hb => ?_
            have hb1 := (hO4.base b hb).1
            refine ⟨fun e => ?_, .inr hb1, ?_, fun i hi e => ?_⟩
            · rw [← HVJ.out] at e; have := (HR.out.lt hjn e.symm).2; omega
            · have := HR.out.out.lt; omega
            · have := (HR.out.lt hi e).2; omega
          have HHO := hide hHO; have HHX := hide hHX; have HB4 := hide hB4; have HO4 := hide hO4; have HSZ4 := hide hsz4
          clear hHO hHX hB4 hO4 hsz4 hcv hcf
          go_wp2_with (at_builtin; refine Ow.append (kT (kS kU) (Far (fun b => Fi b ∨ wr.heap.size ≤ b) w2.heap.size sc.n vs)) (w0 := w4) w2.heap.size rfl (.tmp 57) (.tmp 59) 27 30 (.slice none 0 0) 24 rfl Tryd.underlying27 crowinfo rfl (.slice Aj k cj) ((List.range k).map fun i => said i j) [.slice A4 (said k j).length c4'] (said k j) rfl rfl HHO.out (Below.refl _ _) HSZ4.out HHX.out (by rw [List.length_map, List.length_range]; omega) (by decide) ?_)
          intro v5 w5 hO5 _ hg5 hat5
          obtain ⟨A5, c5', rfl, _, _⟩ := hO5.slice
          simp only [List.length_append, List.length_cons, List.length_nil, List.length_map, List.length_range, Nat.zero_add] at hO5 hat5 ⊢
          have hpush := SdI.push HR.out HNN.out HF.out HI.out HNN'.out hB02 hjn HB4.out HO4.out (by rw [HVJ.out]; exact hg5) (by rw [HVJ.out]; exact hat5) (by simp only [Nat.lt_irrefl, if_false, if_true]; exact hO5)
          rw [← HG0.out] at hpush
          have hcv5 : w5.cell? ⟨g0, j, none⟩ = some (.slice Aj k cj) := hg5.cell hcv4 (fun e => by
            rw [← HVJ.out] at e; exact (HR.out.sep j g0 hjn e.symm).1 HG0.out)
          have hcf5 : w5.frozen? ⟨g0, j, none⟩ = false := (hg5.frozen_far _ (World.block_lt_of_cell? _ _ hcv4) (fun e => by
            rw [← HVJ.out] at e; exact (HR.out.sep j g0 hjn e.symm).1 HG0.out)).trans hcf4
          have HPU := hide hpush
          clear hpush hO5 hg5 hat5 hcv4 hcf4
          go_wp2_with fail
          obtain ⟨w6, hw6⟩ : ∃ w6, w6 = w5.setCell ⟨g0, j, none⟩ (.slice A5 (k + 1) c5') := ⟨_, rfl⟩
          rw [← hw6]
          have hpu := HPU.out
          rw [← hw6] at hpu
          obtain ⟨⟨Fi6, Fn6, vs6, hR6, hN6, hF6, hi6, hn6⟩, hl6⟩ := hpu
          have hnote := note_any w6 B0 Fn6 nb sc (.slice At nt ct) vtp round (hearV round j k (fun i => said i j) (sendV round sc.n j said V)) j k (.slice A4 (said k j).length c4') (said k j) _ hN6 (Nat.le_trans hB02 hF6.size) hl6 hjn (by omega) (HVL.out j) HOKL.out.2
          have HNT := hide hnote
          have HR6 := hide hR6; have HF6 := hide hF6; have HI6 := hide hi6; have HN6 := hide hn6
          clear hnote hR6 hN6 hF6 hi6 hn6 hl6 HPU hw6 hcv5 hcf5
          refine HNT.out.mono ?_
          rintro e w7 ⟨rfl, hF7, hN7⟩
          have hI7 := SdI.noted HR6.out HF6.out HI6.out HN6.out hF7 hN7 hB02
          rw [← hearV_succ round j k (fun i => said i j)] at hI7
          have HI7 := hide hI7
          clear hI7 hF7 hN7
          go_wp2_with fail
          go_round
          case rel => exact ⟨k + 1, by omega, by go_num, HI7.out.congr fun i hi => by
            unfold upd
            by_cases e : i = j
            · subst e; simp [List.range_succ]
            · simp [e]⟩
          case measure => simp [intOf]; omega
        · obtain rfl : sc.n = k := by omega
          rw [← sendV_succ round sc.n j said V] at hI
          have HI := hide hI; clear hI
          go_wp2_with fail
          go_round
          case rel => exact ⟨j + 1, by omega, by go_num, HI.out.congr fun i hi => by
            by_cases e : i < j
            · simp [e, show i < j + 1 by omega]
            · by_cases e2 : i = j
              · subst e2; simp; rfl
              · simp [e, e2, show ¬ i < j + 1 by omega]⟩
          case measure => simp [intOf]; omega
    · as_aux_lemma =>
      have hjj : j = sc.n := by omega
      subst hjj
      have n6 : ∃ Fn : Nat → Prop, NetR wr B0 Fn nb sc (.slice At nt ct) vtp round (sendV round sc.n sc.n said V) := by
        obtain ⟨_, Fn, _, _, h, _⟩ := hI
        exact ⟨Fn, h⟩
      have n6c : wr.cell? ⟨nb, 6, none⟩ = some (.int .i64 round) := by
        obtain ⟨_, _, _, _, _, h, _⟩ := n6
        simp [World.cell?, h]
      have n6f : wr.frozen? ⟨nb, 6, none⟩ = false := by
        obtain ⟨_, _, _, _, _, h, _⟩ := n6
        simp [World.frozen?, h]
      have HI := hide hI; clear hI n6
      have hw1 : IntKind.i64.wrap ((round : Int) + 1) = (round : Int) + 1 := by rw [IntWalk.i64_in _ (by omega)]
      go_wp2_with fail
      go_ret
      obtain ⟨Fi, Fn, vs, hR, hN, hF, hi, hn'⟩ := HI.out
      have hnF : Fn nb := by obtain ⟨_, _, _, _, _, _, _, _, h, _⟩ := hN; exact h
      have hrd := hR.reads (c := sc.n) ⟨Nat.le_refl _, by omega⟩
      have hFw : Fp F w wr := (Fp.of_bl HBW2.out F).trans hF fun _ _ h => h
      refine ⟨hFw.set _ ?_, Fn, _, rfl, fun b hb => ⟨by have := (hn' b hb).1; simpa [World.setCell] using this, ?_⟩, hN.tick hround, ?_⟩
      · rcases (hn' nb hnF).2 with h | h
        · exact .inl h
        · have := HBW2.out.size; omega
      · rcases (hn' b hb).2 with h | h
        · exact .inl h
        · exact .inr (Nat.le_trans HBW2.out.size h)
      · rw [HG0.out]
        have e : mat sc.n (fun j i => said i j) = (List.range sc.n).map fun i => if i < sc.n then row1 sc.n fun i_1 => said i_1 i else [] := by
          refine List.map_congr_left fun i hi' => ?_
          rw [if_pos (List.mem_range.1 hi')]
        rw [e]
        exact (kS (kS (kS kU))).sub ((kS (kS (kS kU))).kp hrd fun b _ hb => heap_setCell_ne _ _ _ _ fun e => (hi b hb).2.2 (by have e : b = nb := e; rw [e]; exact hnF)) fun b _ hb => ⟨(hi b hb).2.2, Nat.le_trans HBW2.out.size (hi b hb).1⟩
end Pv
