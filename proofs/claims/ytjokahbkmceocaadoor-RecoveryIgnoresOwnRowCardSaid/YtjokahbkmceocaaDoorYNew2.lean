import Derived.Test.YtjokahbkmceocaaDoorZn
set_option linter.unusedVariables false
set_option linter.unusedSimpArgs false
namespace Pv
open Go Go.RowKit Go.Proofs

/-- a network, its scenario read below B -/
def NewQ (p : Nat) (n t : Nat) (corrupt : List Int) (devs : List Dev) (tapes : List (List Nat)) (vt : Value) (B : Nat) (w : World) (e : Ending) (w' : World) : Prop :=
  Bl w w' ∧ ((¬ ScOK p n t corrupt devs tapes ∧ e = .returned (.tuple #[.pointer none, .int .i64 1])) ∨
    (ScOK p n t corrupt devs tapes ∧ ∃ nb vb vtp, e = .returned (.tuple #[.pointer (some ⟨nb, 0, none⟩), .int .i64 0]) ∧ NetR w' B (fun b => b = nb ∨ b = vb) nb ⟨p, n, t, corrupt, devs⟩ vt vtp 0 (fun _ => []) ∧
      TapR w' w.heap.size (fun b => w.heap.size ≤ b ∧ b < w'.heap.size ∧ b ≠ nb ∧ b ≠ vb) vtp (tapes.map fun l => (l, 0)) ∧ w.heap.size ≤ nb ∧ w.heap.size ≤ vb))
set_option maxHeartbeats 4000000 in
set_option maxRecDepth 100000 in
theorem new_anyB (p n t : Nat) (vc vd vt : Value) (corrupt : List Int) (devs : List Dev) (tapes : List (List Nat)) (w : World) (hL : Laid w) (B : Nat) (hBB : B ≤ w.heap.size) (hc : (kS kI).R w (fun b => b < B) [vc] corrupt) (hd : (kS kDev).R w (fun b => b < B) [vd] devs) (ht : (kS (kS kU)).R w Any [vt] tapes) :
    Calls Tryd.prog 42 #[scVal p n t vc vd vt] w fun e w' => NewQ p n t corrupt devs tapes vt B w e w' := by
  have hclow := hc
  have hdlow := hd
  have htlow := (kS (kS kU)).low ht
  obtain ⟨Ac, cc, rfl, _, _⟩ := kS_len hc
  obtain ⟨Ad, cd, rfl, _, _⟩ := kS_len hd
  obtain ⟨At, ct, rfl, ⟨hlt1, hlt2⟩, hrt⟩ := rd_open rfl htlow
  have hB0 : Bl w (w.alloc (.cells #[.int .u64 p, .int .i64 n, .int .i64 t, .slice Ac corrupt.length cc, .slice Ad devs.length cd, .slice At tapes.length ct] 29)) := (Below.refl _ _).alloc (Nat.le_refl _) _
  have hvs := vscen_any p n t (.slice Ac corrupt.length cc) (.slice Ad devs.length cd) (.slice At tapes.length ct) corrupt devs tapes _ _ _ _ (hL.bl hB0) ((kS kI).bl hclow (hB0.mono hBB)) ((kS kDev).bl hdlow (hB0.mono hBB)) ((kS (kS kU)).bl htlow hB0)
  simp only [scVal] at hvs ⊢
  have HVS := hide hvs; clear hvs
  have HB0 := hide hB0; clear hB0
  have HRT := hide hrt; clear hrt
  have HCLOW := hide hclow; have HDLOW := hide hdlow
  clear hclow hdlow htlow hc hd ht hL
  obtain ⟨D, hD⟩ : ∃ D, D = tapes.length := ⟨_, rfl⟩
  obtain ⟨D1, hD1⟩ : ∃ D1, D1 = corrupt.length := ⟨_, rfl⟩
  obtain ⟨D2, hD2⟩ : ∃ D2, D2 = devs.length := ⟨_, rfl⟩
  rw [← hD] at hlt1 HVS HB0 ⊢
  rw [← hD1] at HVS HB0 HCLOW ⊢
  rw [← hD2] at HVS HB0 HDLOW ⊢
  have HD := hide hD; clear hD hD1 hD2
  go_enter Tryd.func42, Tryd.ntmps42
  go_wp2_with fail
  refine HVS.out.mono ?_
  rintro e w2 ⟨hB2, b, rfl, hb⟩
  have HBB := hide hb; clear hb
  have HB2 := hide (Bl.then HB0.out HB0.out.size hB2)
  cases b with
  | false =>
    go_wp2_with fail
    go_ret2
    exact ⟨HB2.out, .inl ⟨fun h => by have := HBB.out.2 h; simp at this, rfl⟩⟩
  | true =>
    have hok : ScOK p n t corrupt devs tapes := HBB.out.1 (by first | trivial | rfl)
    have hn13 : n ≤ 13 := by
      have := hok.1
      simp only [vP, Bool.and_eq_true, decide_eq_true_eq] at this
      omega
    have HOK := hide hok; clear hok HBB
    have hbx : ∀ i u, (#[.int .u64 p, .int .i64 n, .int .i64 t, .slice Ac D1 cc, .slice Ad D2 cd, .slice At D ct] : Array Value)[i]? = some u → w2.cell? ⟨w.heap.size, i, none⟩ = some u := fun i u hu => cell_bl hB2 (by rw [World.cell?_alloc_at _ _ _ _ rfl]; exact hu)
    have c0 := hbx 0 _ rfl
    have c1 := hbx 1 _ rfl
    have c2 := hbx 2 _ rfl
    have c3 := hbx 3 _ rfl
    have c4 := hbx 4 _ rfl
    have c5 := hbx 5 _ rfl
    have hwl : w.heap.size < w2.heap.size := World.block_lt_of_cell? _ _ c0
    have hmk := fun W : World => run_make_row' (P := Tryd.prog) 90 46 (.slice none 0 0) 24 Tryd.underlying90 viewinfo rfl .i64 .i64 n (by omega) (by omega) W
    clear hbx hB2
    go_wp2_with fail
    go_region_held3 (fun w' => w'.cell? ⟨w.heap.size, 0, none⟩ = some (.int .u64 (p : Int)) ∧ w'.cell? ⟨w.heap.size, 1, none⟩ = some (.int .i64 (n : Int)) ∧ w'.cell? ⟨w.heap.size, 2, none⟩ = some (.int .i64 (t : Int)) ∧ w'.cell? ⟨w.heap.size, 3, none⟩ = some (.slice Ac D1 cc) ∧ w'.cell? ⟨w.heap.size, 4, none⟩ = some (.slice Ad D2 cd) ∧ w'.cell? ⟨w.heap.size, 5, none⟩ = some (.slice At D ct))
      (first
        | (go_keep; done)
        | ((try go_split_ands); (repeat' apply And.intro) <;> first
            | assumption
            | (exact cell_bl ((Below.refl _ _).alloc (Nat.le_refl _) _) (by assumption))))
      (fail)
    obtain ⟨W0, hW0⟩ : ∃ W0, W0 = ((w2.alloc (.cells (madeCells #[.slice none 0 0] n) 46)).alloc (.cells #[.int .u64 p, .int .i64 n, .int .i64 t, .slice Ac D1 cc, .slice Ad D2 cd, .slice At D ct, .int .i64 0, .slice (some ⟨w2.heap.size, 0, none⟩) n n, .slice none 0 0] 93)).drew := ⟨_, rfl⟩
    rw [← hW0]
    obtain ⟨nb, hnb⟩ : ∃ nb, nb = w2.heap.size + 1 := ⟨_, rfl⟩
    obtain ⟨vb, hvb⟩ : ∃ vb, vb = w2.heap.size := ⟨_, rfl⟩
    rw [← hvb] at hW0 hnb ⊢
    rw [← hnb]
    have hB20 : Bl w2 W0 := by rw [hW0]; exact (((Below.refl _ _).alloc (Nat.le_refl _) _).alloc (by rw [Dr.alloc_heap, Array.size_push]; omega) _).drew
    have hI0 : NwI w W0 nb vb n [.int .u64 p, .int .i64 n, .int .i64 t, .slice Ac D1 cc, .slice Ad D2 cd, .slice At D ct, .int .i64 0, .slice (some ⟨vb, 0, none⟩) n n] (.slice none 0 0) (fun _ => 0) 0 (fun i => tapes.getD i []) := {
      box := by
        rw [hW0, hnb, hvb]
        show ((w2.heap.push _).push _)[_]? = _
        rw [Array.getElem?_push, if_pos (by rw [Array.size_push])]
        rfl
      row := by
        have h1 := RowAt.made w2 (.slice none 0 0) n 46
        rw [← hvb] at h1
        refine h1.same ?_
        rw [hW0]
        exact Below.heap_alloc _ _ _ (by rw [Dr.alloc_heap, Array.size_push, hvb]; omega)
      tp := Ow.nil _ _ _ _
      cells := fun i hi => by omega
      sep := fun i hi => by omega
      inj := fun i j hi => by omega
      own := fun g hg => by cases hg
      sep0 := ⟨by omega, by have := HB2.out.size; omega, by have := HB2.out.size; omega⟩
      bel := HB2.out.trans (hB20.mono HB2.out.size) }
    have c5' := cell_bl hB20 c5
    have HI0 := hide hI0; clear hI0 hW0 hmk c0 c1 c2 c3 c4 c5
    have HC5 := hide c5'
    have HNB := hide hnb; have HVB := hide hvb; have HB20 := hide hB20
    clear hnb hvb hB20
    go_wp2_with fail
    clear c5'
    obtain ⟨bs, hbs⟩ : ∃ bs, bs = w.heap.size := ⟨_, rfl⟩
    go_loopw [20] (fun i wr => ∃ k : Nat, k ≤ D ∧ i = .int .i64 k ∧ ∃ vtp tb, NwI w wr nb vb n [.int .u64 p, .int .i64 n, .int .i64 t, .slice Ac D1 cc, .slice Ad D2 cd, .slice At D ct, .int .i64 0, .slice (some ⟨vb, 0, none⟩) n n] vtp tb k (fun i => tapes.getD i [])) (fun i _ => D - (intOf i).toNat)
    case atStart => exact ⟨0, by omega, rfl, _, _, HI0.out⟩
    case round =>
      obtain ⟨k, hk, rfl, vtp, tb, hI⟩ := hrel
      by_cases hkD : k < D
      · as_aux_lemma =>
        obtain ⟨ad, u, rfl, _, hu, hcu⟩ := HRT.out k (tapes.getD k []) (by rw [List.getD_eq_getElem?_getD, List.getElem?_eq_getElem (by rw [← HD.out]; exact hkD)]; rfl)
        have hcuw := cell_bl hI.bel hcu
        obtain ⟨Au, cu, rfl, _, _⟩ := kS_len hu
        have hki : (k : Int) < (D : Int) := by omega
        have hk0 : (0 : Int) ≤ (k : Int) := by omega
        obtain ⟨Av, cv, rfl, _, _⟩ := hI.tp.slice
        simp only [List.length_map, List.length_range] at hI
        have c8 : wr.cell? ⟨nb, 8, none⟩ = some (.slice Av k cv) := by simp [World.cell?, hI.box]
        have f8 : wr.frozen? ⟨nb, 8, none⟩ = false := by simp [World.frozen?, hI.box]
        have hnbl : nb < wr.heap.size := World.block_lt_of_cell? _ _ c8
        have hn8 : some nb ≠ (Value.slice Av k cv).ownBlock := fun e => (hI.own nb e.symm).1 rfl
        have hHO : ∀ (wt : World) (ob : Obj) (v : Value), v = .slice Av k cv → Bl wr wt → Ow kV (wt.alloc ob) w.heap.size 108 v ((List.range k).map fun i => .pointer (some ⟨tb i, 0, none⟩)) := fun wt ob v hv hB => by
          rw [hv]; exact hI.tp.bl (hB.alloc hB.size ob)
        have hHX : ∀ (wt : World) (v : Value), v = .slice Av k cv → Bl wr wt → (kS kV).R (wt.alloc (.cells #[.pointer (some ⟨wr.heap.size, 0, none⟩)] 108)) (Ne v.ownBlock) [.slice (some ⟨wt.heap.size, 0, none⟩) 1 1] [.pointer (some ⟨wr.heap.size, 0, none⟩)] := fun wt v hv hB =>
          (kS kV).sub (litK (W := wt) (S := fun _ => False) (us := [.pointer (some ⟨wr.heap.size, 0, none⟩)]) (K := kV) ⟨rfl, rfl⟩ 108) fun b _ hb e => by
            rw [hv] at e
            have := (hI.tp.base _ e.symm).2
            rcases hb with hb | rfl
            · exact hb.1
            · have := hB.size; omega
        have hbase := hI.bel.size
        have hlen8 : (((List.range k).map fun i => Value.pointer (some ⟨tb i, 0, none⟩)).length + [Value.pointer (some ⟨wr.heap.size, 0, none⟩)].length) * 8 ≤ 140737488355328 := by
          have h1 : (tapes.length : Int) = n := HOK.out.2.2.2.1
          have h2 := HD.out
          simp; omega
        have HI := hide hI; have HU := hide hu; have HC8 := hide c8; have HF8 := hide f8; have HHO := hide hHO; have HHX := hide hHX; have HLEN := hide hlen8
        clear hI hu c8 f8 hHO hHX hlen8
        go_wp2_with fail
        refine wp_region_last (n := 11) (fun w' => w'.cell? ⟨nb, 8, none⟩ = some (.slice Av k cv)) (by kernel_rfl) (by kernel_rfl) (by kernel_rfl) rfl HC8.out (fun hHeld => ?_)
        refine wpAnyH_take (i := 0) (oi := { dst := some 24, op := Go.Op.move (Go.Operand.tmp 4), type := 36, pos := _, after := _, guard := none }) (v := ?_) rfl (by kernel_rfl) (by kernel_rfl) (by kernel_rfl) (fun _ _ _ h => h) (Or.inl ⟨by rfl, ?_⟩) (by assumption) ?_
        rotate_left
        · (intro w hSw; (try dsimp only at hSw); go_simp; (try (with_reducible rfl)))
        try simp only [Act.put, List.setIfInBounds_toArray, List.set_cons_zero, List.set_cons_succ]
        refine wpAnyH_take (i := 1) (oi := { dst := some 25, op := Go.Op.move (Go.Operand.tmp 4), type := 36, pos := _, after := _, guard := none }) (v := ?_) rfl (by kernel_rfl) (by kernel_rfl) (by kernel_rfl) (fun _ _ _ h => h) (Or.inl ⟨by rfl, ?_⟩) (by assumption) ?_
        rotate_left
        · (intro w hSw; (try dsimp only at hSw); go_simp; (try (with_reducible rfl)))
        try simp only [Act.put, List.setIfInBounds_toArray, List.set_cons_zero, List.set_cons_succ]
        refine wpAnyH_take (i := 2) (oi := { dst := some 26, op := Go.Op.nilCheck (Go.Operand.tmp 25), type := 0, pos := _, after := _, guard := none }) (v := ?_) rfl (by kernel_rfl) (by kernel_rfl) (by kernel_rfl) (fun _ _ _ h => h) (Or.inl ⟨by rfl, ?_⟩) (by assumption) ?_
        rotate_left
        · (intro w hSw; (try dsimp only at hSw); go_simp; (try (with_reducible rfl)))
        try simp only [Act.put, List.setIfInBounds_toArray, List.set_cons_zero, List.set_cons_succ]
        refine wpAnyH_take (i := 3) (oi := { dst := some 27, op := Go.Op.fieldAddr 93 (Go.Operand.tmp 26) 3, type := 0, pos := _, after := _, guard := none }) (v := ?_) rfl (by kernel_rfl) (by kernel_rfl) (by kernel_rfl) (fun _ _ _ h => h) (Or.inl ⟨by rfl, ?_⟩) (by assumption) ?_
        rotate_left
        · (intro w hSw; (try dsimp only at hSw); go_simp; (try (with_reducible rfl)))
        try simp only [Act.put, List.setIfInBounds_toArray, List.set_cons_zero, List.set_cons_succ]
        refine wpAnyH_take (i := 4) (oi := { dst := some 28, op := Go.Op.load 91 (Go.Operand.tmp 27), type := 91, pos := _, after := _, guard := none }) (v := ?_) rfl (by kernel_rfl) (by kernel_rfl) (by kernel_rfl) (fun _ _ _ h => h) (Or.inl ⟨by rfl, ?_⟩) (by assumption) ?_
        rotate_left
        · (intro w hSw; (try dsimp only at hSw); go_simp; (try (with_reducible rfl)))
        try simp only [Act.put, List.setIfInBounds_toArray, List.set_cons_zero, List.set_cons_succ]
        refine wpAnyH_take (i := 5) (oi := { dst := some 29, op := Go.Op.move (Go.Operand.tmp 6), type := 30, pos := _, after := _, guard := none }) (v := ?_) rfl (by kernel_rfl) (by kernel_rfl) (by kernel_rfl) (fun _ _ _ h => h) (Or.inl ⟨by rfl, ?_⟩) (by assumption) ?_
        rotate_left
        · (intro w hSw; (try dsimp only at hSw); go_simp; (try (with_reducible rfl)))
        try simp only [Act.put, List.setIfInBounds_toArray, List.set_cons_zero, List.set_cons_succ]
        refine wpAnyH_ready (rs := [6]) (by kernel_rfl) (by simp) ?_
        refine AllReadyH.cons (o := { dst := some 30, op := Go.Op.call { callee := Go.Callee.value (Go.Operand.func 58), args := #[Go.Operand.tmp 29], argTypes := #[30] }, type := 108, pos := _, after := _, guard := none }) rfl (fun K hK => ?_) AllReadyH.nil
        go_simp
        refine (tnew_any _ _ _ _).mono ?_
        rintro e wt ⟨rfl, hwt⟩
        have hBt : Bl wr.drew wt := Eq.subst (motive := fun x => Bl wr.drew x) hwt.symm ((Below.refl _ _).alloc (Nat.le_refl _) _)
        have HWT := hide hwt
        clear hwt
        simp only []
        refine hK.out _ _ ?_ (fun hHeld => ?_)
        · exact cell_bl hBt HC8.out
        clear hK K
        try simp only [Act.put, List.setIfInBounds_toArray, List.set_cons_zero, List.set_cons_succ]
        refine wpAnyH_ready (rs := [7]) (by kernel_rfl) (by simp) ?_
        refine AllReadyH.cons (o := { dst := some 31, op := Go.Op.buildSlice 91 1 #[(0, Go.Operand.tmp 30)], type := 91, pos := _, after := _, guard := none }) rfl (fun K hK => ?_) AllReadyH.nil
        go_simp
        refine hK.out _ _ ?_ (fun hHeld => ?_)
        · exact cell_bl (hBt.alloc hBt.size _) HC8.out
        clear hK K
        try simp only [Act.put, List.setIfInBounds_toArray, List.set_cons_zero, List.set_cons_succ]
        refine wpAnyH_ready (rs := [8]) (by kernel_rfl) (by simp) ?_
        refine AllReadyH.cons (o := { dst := some 32, op := Go.Op.call { callee := Go.Callee.builtin Go.Builtin.append, args := #[Go.Operand.tmp 28, Go.Operand.tmp 31], argTypes := #[91, 91] }, type := 91, pos := _, after := _, guard := none }) rfl (fun K hK => ?_) AllReadyH.nil
        refine Ow.append_step kV (w0 := wt.alloc (.cells #[.pointer (some ⟨wr.heap.size, 0, none⟩)] 108)) w.heap.size rfl (.tmp 28) (.tmp 31) 91 108 (.pointer none) 8 rfl Tryd.underlying91 ptrinfo rfl (.slice Av k cv) _ ((List.range k).map fun i => .pointer (some ⟨tb i, 0, none⟩)) [.pointer (some ⟨wr.heap.size, 0, none⟩)] rfl rfl (HHO.out _ _ _ rfl ((Bl.dr (Below.refl _ _) (Dr.one (Dr.refl _))).trans hBt)) (Below.refl _ _) (Nat.le_trans hbase (hBt.alloc hBt.size _).size) (HHX.out _ _ rfl ((Bl.dr (Below.refl _ _) (Dr.one (Dr.refl _))).trans hBt)) HLEN.out (by decide) ?_
        intro v7 w7 hO7 hB7 hg7 hat7
        obtain ⟨A7, d7, rfl, hc7, _⟩ := hO7.slice
        simp only [List.length_append, List.length_map, List.length_range, List.length_cons, List.length_nil, Nat.zero_add] at hO7 hat7
        refine hK.out _ _ ?_ (fun hHeld => ?_)
        · exact hg7.cell (cell_bl (hBt.alloc hBt.size _) HC8.out) hn8
        clear hK K
        try simp only [Act.put, List.setIfInBounds_toArray, List.set_cons_zero, List.set_cons_succ]
        refine wpAnyH_take (i := 9) (oi := { dst := some 33, op := Go.Op.nilCheck (Go.Operand.tmp 24), type := 0, pos := _, after := _, guard := none }) (v := ?_) rfl (by kernel_rfl) (by kernel_rfl) (by kernel_rfl) (fun _ _ _ h => h) (Or.inl ⟨by rfl, ?_⟩) (by assumption) ?_
        rotate_left
        · (intro w hSw; (try dsimp only at hSw); go_simp; (try (with_reducible rfl)))
        try simp only [Act.put, List.setIfInBounds_toArray, List.set_cons_zero, List.set_cons_succ]
        refine wpAnyH_take (i := 10) (oi := { dst := some 34, op := Go.Op.fieldAddr 93 (Go.Operand.tmp 33) 3, type := 0, pos := _, after := _, guard := none }) (v := ?_) rfl (by kernel_rfl) (by kernel_rfl) (by kernel_rfl) (fun _ _ _ h => h) (Or.inl ⟨by rfl, ?_⟩) (by assumption) ?_
        rotate_left
        · (intro w hSw; (try dsimp only at hSw); go_simp; (try (with_reducible rfl)))
        try simp only [Act.put, List.setIfInBounds_toArray, List.set_cons_zero, List.set_cons_succ]
        have cv7 := hg7.cell (cell_bl (hBt.alloc hBt.size (.cells #[.pointer (some ⟨wr.heap.size, 0, none⟩)] 108)) HC8.out) hn8
        have cf7 : w7.frozen? ⟨nb, 8, none⟩ = false := (hg7.frozen_far _ (Nat.lt_of_lt_of_le hnbl (hBt.alloc hBt.size _).size) hn8).trans (free_bl (hBt.alloc hBt.size _) HC8.out HF8.out)
        refine wpAnyH_done (by kernel_rfl) ?_ _
        refine lastQ_normal ?_
        refine wpOp_step (i := 11) (o := { dst := none, op := Go.Op.store 91 (Go.Operand.tmp 34) (Go.Operand.tmp 32), type := 0, pos := _, after := _, guard := none }) rfl (fun K hK => ?_)
        go_simp
        refine hK _ _ ?_
        clear hK K
        all_goals (
          have hs5 := NwI.step (ob := .cells #[.pointer (some ⟨wr.heap.size, 0, none⟩)] 108) HI.out rfl (Dr.one (Dr.refl wr)) (congrArg (fun x : World => x.alloc (.cells #[.pointer (some ⟨wr.heap.size, 0, none⟩)] 108)) HWT.out) HU.out hg7 hat7 hO7
          have HS5 := hide hs5; clear hs5 hO7 hg7 hat7 hB7)
        all_goals go_wp2_with fail
        all_goals go_round
        all_goals (first | exact ⟨k + 1, by omega, by go_num, _, _, HS5.out⟩ | (simp [intOf]; omega))
      · have hDk : k = D := by omega
        subst hDk
        have HI := hide hI; clear hI
        go_wp2_with fail
        go_ret2
        have hI := HI.out
        have e1 : nb < wr.heap.size := (Array.getElem?_eq_some_iff.1 hI.box).1
        refine ⟨hI.bel, .inr ⟨HOK.out, nb, vb, vtp, rfl, ⟨_, _, vb, fun _ => .slice none 0 0, hI.box, (kS kI).bl HCLOW.out (hI.bel.mono hBB), (kS kDev).bl HDLOW.out (hI.bel.mono hBB), Rws.start kEv 67 hI.row ⟨.inr rfl, hI.sep0.1.symm⟩ (Nat.le_trans hBB hI.sep0.2.2), .inl rfl, fun b hb => by rcases hb with rfl | rfl; exact Nat.le_trans hBB hI.sep0.2.1; exact Nat.le_trans hBB hI.sep0.2.2, by show n ≤ 1000; omega, by omega, _, _, _, rfl⟩, ?_, hI.sep0.2.1, hI.sep0.2.2⟩⟩
        have hl : (tapes.map fun l => (l, 0)).length = k := by rw [List.length_map, ← HD.out]
        refine ⟨tb, by rw [hl]; exact hI.tp, fun g hg => ⟨(hI.tp.base g hg).1, (hI.tp.base g hg).2, hI.own g hg⟩, fun i hi => ?_, fun i j hi hj => hI.inj i j (by rw [← hl]; exact hi) (by rw [← hl]; exact hj)⟩
        rw [hl] at hi
        have hs := hI.sep i hi
        obtain ⟨v, h1, h2⟩ := hI.cells i hi
        have hg : (tapes.map fun l => (l, 0)).getD i ([], 0) = (tapes.getD i [], 0) := by
          rw [List.getD_eq_getElem?_getD, List.getD_eq_getElem?_getD, List.getElem?_map]
          cases tapes[i]? <;> rfl
        rw [hg]
        exact ⟨⟨v, h1, (kS kU).bl h2 hI.bel⟩, ⟨hs.1, hs.2.1, hs.2.2.1, hs.2.2.2.1⟩, hs.1, hs.2.2.2.2⟩
end Pv
