import Derived.Test.YtjokahbkmceocaaDoorZk
import Derived.Test.YtjokahbkmceocaaDoorZc
import Derived.Test.YtjokahbkmceocaaDoorZb
import Derived.Maps.Own
import Derived.Maps.Views
import Derived.WalkArith
import Derived.Test.YtjokahbkmceocaaDoorZd
import Derived.Test.YtjokahbkmceocaaDoorZf
set_option linter.unusedVariables false
set_option linter.unusedSimpArgs false
namespace Pv
open Go Go.RowKit Go.Proofs

/-- what try answers -/
def Tried (p W R D : Nat) (pts : List (Nat × Nat)) (w' : World) (vq ve : Value) (ok : Bool) : Prop :=
  (ok = false ∧ NoSol p (D + W) R (fun i j => (drow p D W (pts.getD i (0, 0)).1 (pts.getD i (0, 0)).2).getD j 0) (fun i => ipw p (pts.getD i (0, 0)).1 (pts.getD i (0, 0)).2 W)) ∨
  (ok = true ∧ ∃ q e, (kS kU).R w' Any [vq] q ∧ (kS kU).R w' Any [ve] e ∧ q.length = D ∧ e.length = W + 1 ∧ e.getD W 0 = 1 ∧ (∀ c, c ∈ q → c < p) ∧ (∀ c, c ∈ e → c < p) ∧
    ∀ [NeZero p], ∀ i, i < R → (E q (K (pts.getD i (0, 0)).1) : Fin p) = K (pts.getD i (0, 0)).2 * E e (K (pts.getD i (0, 0)).1))
set_option maxHeartbeats 4000000 in
set_option maxRecDepth 100000 in
theorem dtry_any (p deg W R : Nat) (v : Value) (pts : List (Nat × Nat)) (S : Nat → Prop) (w : World) (hp : IsP p) (hr : (kS (kP kU kU)).R w S [v] pts) (hR : pts.length = R) (hR0 : 0 < R) (hR1 : R ≤ 1000) (hD1 : deg ≤ 1000) (hW1 : W ≤ 1000)
    (hx : ∀ i, i < R → (pts.getD i (0, 0)).1 < p) (hy : ∀ i, i < R → (pts.getD i (0, 0)).2 < p) :
    Calls Tryd.prog 65 #[.int .u64 p, v, .int .i64 deg, .int .i64 W] w fun e w' => Bl w w' ∧ ∃ vq ve ok, e = .returned (.tuple #[vq, ve, .bool ok]) ∧ Tried p W R (deg + W + 1) pts w' vq ve ok := by
  obtain ⟨A, c, rfl, ⟨hn2, hc2⟩, hc⟩ := rdP hr
  rw [hR] at hn2 hc ⊢
  have HC := hide hc; clear hc hr
  have HX := hide hx; clear hx
  have HY := hide hy; clear hy
  have HRR := hide hR; clear hR
  obtain ⟨D, hD⟩ : ∃ D, D = deg + W + 1 := ⟨_, rfl⟩
  rw [← hD]
  have hDi : ((deg : Int) + (W : Int) + 1) = (D : Int) := by omega
  have hD9 : D ≤ 3000 := by omega
  have HD := hide hD; clear hD
  go_enter Tryd.func65, Tryd.ntmps65
  go_wp2_with fail
  go_loopw [11, 12, 22] (fun vm vb i wr => ∃ k : Nat, k ≤ R ∧ i = .int .i64 k ∧ Ow (kT (kS kU) (Ne vb.ownBlock)) wr w.heap.size 30 vm ((pts.take k).map fun q => drow p D W q.1 q.2) ∧ Ow kU wr w.heap.size 22 vb ((pts.take k).map fun q => ipw p q.1 q.2 W) ∧ Bl w wr ∧ Ap vm vb) (fun _ _ i _ => R - (intOf i).toNat)
  case atStart => exact ⟨0, by omega, rfl, by simpa using Ow.nil _ _ _ _, by simpa using Ow.nil _ _ _ _, Below.refl _ _, fun g h => by cases h⟩
  case round =>
    obtain ⟨k, hk, rfl, hO, hOb, hB, hAp⟩ := hrel
    by_cases hkR : k < R
    · as_aux_lemma =>
      obtain ⟨ad, rfl, _, h1, h2, _⟩ := HC.out k hkR
      have h1w := cell_bl hB h1
      have h2w := cell_bl hB h2
      rw [add_succ] at h2w
      have hki : (k : Int) < (R : Int) := by omega
      have hk0 : (0 : Int) ≤ (k : Int) := by omega
      have htk : pts.take (k + 1) = pts.take k ++ [pts.getD k (0, 0)] := by
        have hl : k < pts.length := by rw [HRR.out]; exact hkR
        rw [List.take_add_one, List.getD_eq_getElem?_getD, List.getElem?_eq_getElem hl]; rfl
      have hxk := HX.out k hkR
      have hyk := HY.out k hkR
      have hdl : ((pts.take k).map fun q => drow p D W q.1 q.2).length ≤ 1000 := by rw [List.length_map, List.length_take]; omega
      have hbl : ((pts.take k).map fun q => ipw p q.1 q.2 W).length ≤ 1000 := by rw [List.length_map, List.length_take]; omega
      have HTK := hide htk; clear htk
      clear h1 h2
      generalize pts.getD k (0, 0) = pt at HTK hxk hyk h1w h2w
      obtain ⟨x, y⟩ := pt
      simp only at hxk hyk h1w h2w
      obtain ⟨rows, hrows⟩ : ∃ rows, rows = (pts.take k).map fun q => drow p D W q.1 q.2 := ⟨_, rfl⟩
      obtain ⟨rhs, hrhs⟩ : ∃ rhs, rhs = (pts.take k).map fun q => ipw p q.1 q.2 W := ⟨_, rfl⟩
      rw [← hrows] at hO hdl
      rw [← hrhs] at hOb hbl
      have HROWS := hide hrows; clear hrows
      have HRHS := hide hrhs; clear hrhs
      obtain ⟨Av, cv, rfl, _, _⟩ := hO.slice
      obtain ⟨Ab, cb, rfl, _, _⟩ := hOb.slice
      have HO := hide hO; clear hO
      have HOb := hide hOb; clear hOb
      have HB := hide hB; clear hB
      have HAp := hide hAp; clear hAp
      have hlo := hp.lo
      have hphi := hp.hi
      go_wp2_with fail
      obtain ⟨W1, hW1⟩ : ∃ W1, W1 = wr.alloc (.cells #[.int .u64 (x : Int), .int .u64 (y : Int)] 87) := ⟨_, rfl⟩
      rw [← hW1]
      have hB1 : Bl wr W1 := by rw [hW1]; exact (Below.refl _ _).alloc (Nat.le_refl _) _
      have hcx : W1.cell? ⟨wr.heap.size, 0, none⟩ = some (.int .u64 (x : Int)) := by rw [hW1, World.cell?_alloc_at _ _ _ _ rfl]; rfl
      have hcy : W1.cell? ⟨wr.heap.size, 1, none⟩ = some (.int .u64 (y : Int)) := by rw [hW1, World.cell?_alloc_at _ _ _ _ rfl]; rfl
      have HB1 := hide hB1; clear hB1 hW1 h1w h2w
      obtain ⟨b1, hb1⟩ : ∃ b1, b1 = wr.heap.size := ⟨_, rfl⟩
      rw [← hb1] at hcx hcy ⊢
      have HBB := hide hb1; clear hb1
      have HCX := hide hcx; clear hcx
      have HCY := hide hcy; clear hcy
      go_loopw [15, 16, 30] (fun s15 s16 i wx => ∃ j : Nat, j ≤ D ∧ i = .int .i64 j ∧ Ow kU wx W1.heap.size 22 s15 ((List.range j).map fun j => ipw p x 1 j) ∧ s16 = .int .u64 (ipw p x 1 j : Nat) ∧ Bl W1 wx) (fun _ _ i _ => D - (intOf i).toNat)
      case atStart => exact ⟨0, by omega, rfl, by simpa using Ow.nil _ _ _ _, rfl, Below.refl _ _⟩
      case round => as_aux_lemma =>
        obtain ⟨j, hj, rfl, hO1, rfl, hB1⟩ := hrel
        have hcx := cell_bl hB1 HCX.out
        have hcy := cell_bl hB1 HCY.out
        by_cases hjD : j < D
        · have hjl := ipw_lt (show 1 < p by omega) x 1 (by omega) j
          have hml := fun W => mul_any p (ipw p x 1 j) x W hp hjl hxk
          have hrg : (List.range (j + 1)).map (fun j => ipw p x 1 j) = (List.range j).map (fun j => ipw p x 1 j) ++ [ipw p x 1 j] := by rw [List.range_succ, List.map_append]; rfl
          have hnx : ipw p x 1 (j + 1) = fmul p (ipw p x 1 j) x := rfl
          rw [← hnx] at hml
          have hpl : ((List.range j).map (fun j => ipw p x 1 j)).length + 1 ≤ 5000 := by simp; omega
          generalize (List.range j).map (fun j => ipw p x 1 j) = pre at hrg hO1 hpl
          have HRG := hide hrg; clear hrg hnx
          have HML := hide hml; clear hml
          obtain ⟨z1, hz1⟩ : ∃ z1, z1 = ipw p x 1 (j + 1) := ⟨_, rfl⟩
          rw [← hz1] at HML
          have HZ1 := hide (congrArg (fun z : Nat => Value.int .u64 (z : Int)) hz1); clear hz1
          obtain ⟨A1, c1, rfl, _, _⟩ := hO1.slice
          have hp8 : (pre.length + 1) * 8 ≤ 140737488355328 := by omega
          have hsz := hB1.size
          have hjl64 : ipw p x 1 j < 18446744073709551616 := by omega
          have hjD1 : (j : Int) < (D : Int) := by omega
          have HO1 := hide hO1; clear hO1
          have HB2 := hide hB1; clear hB1
          go_wp2_with (at_builtin; refine Ow.append kU (w0 := W1) W1.heap.size rfl (.tmp 32) (.tmp 34) 30 22 (.int .u64 0) 8 rfl Tryd.underlying30 cu64info rfl (.slice A1 pre.length c1) pre [.int .u64 (ipw p x 1 j : Nat)] (ipw p x 1 j) rfl rfl HO1.out HB2.out hsz ⟨rfl, hjl64⟩ hp8 (by decide) ?_)
          intro v2 w2 hO2 hB3 hg2 hat2
          have hcx2 := cell_bl hB3 HCX.out
          have HO2 := hide hO2; clear hO2
          have HB3 := hide hB3; clear hB3 hg2 hat2
          go_wp2_with fail
          refine (HML.out _).mono ?_
          rintro e w3 ⟨rfl, rfl⟩
          go_wp2_with fail
          go_round
          case rel => exact ⟨j + 1, by omega, by go_num, by rw [HRG.out]; exact HO2.out, HZ1.out, HB3.out⟩
          case measure => simp [intOf]; omega
        · obtain rfl : j = D := by omega
          have HO1 := hide hO1; clear hO1
          have HB2 := hide hB1; clear hB1
          go_wp2_with fail
          obtain ⟨pre, hpre⟩ : ∃ pre, pre = (List.range j).map fun j => ipw p x 1 j := ⟨_, rfl⟩
          have hprl : pre.length ≤ 3000 := by rw [hpre]; simp; omega
          have hO1 := HO1.out
          rw [← hpre] at hO1
          have HPRE := hide hpre; clear hpre HO1
          go_loopw [15, 16, 45] (fun s15 s16 i wx => ∃ t : Nat, t ≤ W ∧ i = .int .i64 t ∧ Ow kU wx W1.heap.size 22 s15 (pre ++ (List.range t).map fun t => fneg p (ipw p x y t)) ∧ s16 = .int .u64 (ipw p x y t : Nat) ∧ Bl W1 wx) (fun _ _ i _ => W - (intOf i).toNat)
          case atStart => exact ⟨0, by omega, rfl, by simpa using hO1, rfl, HB2.out⟩
          case round => as_aux_lemma =>
            clear hO1 HB2
            obtain ⟨t, ht, rfl, hO1, rfl, hB1⟩ := hrel
            have hcx := cell_bl hB1 HCX.out
            by_cases htW : t < W
            · have hjl := ipw_lt (show 1 < p by omega) x y hyk t
              have hml := fun W => mul_any p (ipw p x y t) x W hp hjl hxk
              have hng := fun W => neg_any p (ipw p x y t) W hphi hjl
              have hnl := fneg_lt (show 0 < p by omega) (ipw p x y t)
              have hrg : pre ++ (List.range (t + 1)).map (fun t => fneg p (ipw p x y t)) = (pre ++ (List.range t).map (fun t => fneg p (ipw p x y t))) ++ [fneg p (ipw p x y t)] := by rw [List.range_succ, List.map_append, List.append_assoc]; rfl
              have hnx : ipw p x y (t + 1) = fmul p (ipw p x y t) x := rfl
              rw [← hnx] at hml
              have hpl : (pre ++ (List.range t).map (fun t => fneg p (ipw p x y t))).length + 1 ≤ 5000 := by simp; omega
              generalize pre ++ (List.range t).map (fun t => fneg p (ipw p x y t)) = pre2 at hrg hO1 hpl
              have HRG := hide hrg; clear hrg hnx
              have HML := hide hml; clear hml
              have HNG := hide hng; clear hng
              generalize fneg p (ipw p x y t) = ng at HNG HRG hnl
              obtain ⟨z1, hz1⟩ : ∃ z1, z1 = ipw p x y (t + 1) := ⟨_, rfl⟩
              rw [← hz1] at HML
              have HZ1 := hide (congrArg (fun z : Nat => Value.int .u64 (z : Int)) hz1); clear hz1
              obtain ⟨A1, c1, rfl, _, _⟩ := hO1.slice
              have hp8 : (pre2.length + 1) * 8 ≤ 140737488355328 := by omega
              have hsz := hB1.size
              have hng64 : ng < 18446744073709551616 := by omega
              have htW1 : (t : Int) < (W : Int) := by omega
              have HO1 := hide hO1; clear hO1
              have HB2 := hide hB1; clear hB1
              go_wp2_with fail
              refine (HNG.out _).mono ?_
              rintro e w3 ⟨rfl, rfl⟩
              go_wp2_with (at_builtin; refine Ow.append kU (w0 := W1) W1.heap.size rfl (.tmp 47) (.tmp 51) 30 22 (.int .u64 0) 8 rfl Tryd.underlying30 cu64info rfl (.slice A1 pre2.length c1) pre2 [.int .u64 (ng : Nat)] ng rfl rfl HO1.out HB2.out hsz ⟨rfl, hng64⟩ hp8 (by decide) ?_)
              intro v2 w2 hO2 hB3 hg2 hat2
              have hcx2 := cell_bl hB3 HCX.out
              have HO2 := hide hO2; clear hO2
              have HB3 := hide hB3; clear hB3 hg2 hat2
              go_wp2_with fail
              refine (HML.out _).mono ?_
              rintro e w4 ⟨rfl, rfl⟩
              go_wp2_with fail
              go_round
              case rel => exact ⟨t + 1, by omega, by go_num, by rw [HRG.out]; exact HO2.out, HZ1.out, HB3.out⟩
              case measure => simp [intOf]; omega
            · obtain rfl : t = W := by omega
              obtain ⟨row, hrow⟩ : ∃ row, row = drow p j t x y := ⟨_, rfl⟩
              have hrw : pre ++ (List.range t).map (fun t => fneg p (ipw p x y t)) = row := by rw [hrow, HPRE.out]; rfl
              rw [hrw] at hO1
              have HROW := hide hrow; clear hrow hrw
              obtain ⟨A1, c1, rfl, _, _⟩ := hO1.slice
              have hB0 := Bl.then HB1.out HB1.out.size hB1
              have hBw := Bl.then HB.out HB.out.size hB0
              have hOm := HO.out.bl hB0
              have hOr := HOb.out.bl hB0
              have hjl := ipw_lt (show 1 < p by omega) x y hyk t
              have hHX : (kT (kS kU) (Ne (Value.slice Ab rhs.length cb).ownBlock)).R wr (Ne (Value.slice Av rows.length cv).ownBlock) [.slice A1 row.length c1] row := by
                show (kS kU).R wr (fun b => Ne (Value.slice Av rows.length cv).ownBlock b ∧ Ne (Value.slice Ab rhs.length cb).ownBlock b) [.slice A1 row.length c1] row
                refine hO1.readsU _ fun b hb => ?_
                have h1 := (hO1.base b hb).1
                have h2 := HB1.out.size
                exact ⟨fun e => by have := (HO.out.base b e.symm).2; omega, fun e => by have := (HOb.out.base b e.symm).2; omega⟩
              have hd24 : (rows.length + 1) * 24 ≤ 140737488355328 := by omega
              have hb8 : (rhs.length + 1) * 8 ≤ 140737488355328 := by omega
              have hapm := HAp.out
              have hobm := hOr.base
              have hszw := hBw.size
              have HX5 := hide hHX; clear hHX
              have HOm := hide hOm; clear hOm
              have HOr := hide hOr; clear hOr
              have HBw := hide hBw; clear hBw hB0 hO1 hB1
              have HAPM := hide hapm; clear hapm
              have HOBM := hide hobm; clear hobm
              obtain ⟨pwv, hpwv⟩ : ∃ pwv, pwv = ipw p x y t := ⟨_, rfl⟩
              rw [← hpwv] at hjl ⊢
              have HPW := hide hpwv; clear hpwv
              have hjl64 : pwv < 18446744073709551616 := by omega
              go_wp2_with (at_builtin; refine Ow.append (kT (kS kU) (Ne (Value.slice Ab rhs.length cb).ownBlock)) (w0 := w) w.heap.size rfl (.tmp 59) (.tmp 61) 27 30 (.slice none 0 0) 24 rfl Tryd.underlying27 crowinfo rfl (.slice Av rows.length cv) rows [.slice A1 row.length c1] row rfl rfl HOm.out HBw.out hszw HX5.out hd24 (by decide) ?_)
              intro v5 w5 hO5 hB5 hg5 hat5
              have hOr5 := HOr.out.keepU hg5 HAPM.out.symm.ne
              have hap5 : Ap v5 (.slice Ab rhs.length cb) := Ap.step HAPM.out hat5 fun g hg => (HOBM.out g hg).2
              have hszw5 := hB5.size
              have HO5 := hide (hO5.monoT (T' := fun b => Ne (Value.slice Ab rhs.length cb).ownBlock b ∧ b < w5.heap.size) fun b h1 h2 => ⟨h2, h1⟩)
              have HO5B := hide hO5.base
              clear hO5
              have HB5 := hide hB5; clear hB5 hg5 hat5
              have HOr5 := hide hOr5; clear hOr5
              have HAP5 := hide hap5; clear hap5
              go_wp2_with (at_builtin; refine Ow.append kU (w0 := w) w.heap.size rfl (.tmp 63) (.tmp 65) 30 22 (.int .u64 0) 8 rfl Tryd.underlying30 cu64info rfl (.slice Ab rhs.length cb) rhs [.int .u64 (pwv : Nat)] pwv rfl rfl HOr5.out HB5.out hszw5 ⟨rfl, hjl64⟩ hb8 (by decide) ?_)
              intro v6 w6 hO6 hB6 hg6 hat6
              have hap6 : Ap v5 v6 := (Ap.step HAP5.out.symm hat6 fun g hg => (HO5B.out g hg).2).symm
              have hO5' := HO5.out.keep hg6 HAP5.out.ne fun u x' _ h => by
                have h : (kS kU).R w5 (fun b => Ne v5.ownBlock b ∧ (Ne (Value.slice Ab rhs.length cb).ownBlock b ∧ b < w5.heap.size)) u x' := h
                show (kS kU).R w5 (fun b => (Ne v5.ownBlock b ∧ Ne (Value.slice Ab rhs.length cb).ownBlock b) ∧ (Ne (Value.slice Ab rhs.length cb).ownBlock b ∧ b < w5.heap.size)) u x'
                exact (kS kU).sub h fun b hb hs => ⟨⟨hs.1, hs.2.1⟩, hs.2⟩
              have hO5'' := hO5'.monoT (T' := Ne v6.ownBlock) fun b _ hs e => by
                rcases hat6 with h | ⟨g, h, hg⟩
                · rw [h] at e; exact hs.1 e
                · rw [h] at e; injection e with e; subst e; omega
              have HREL := hide (show Ow (kT (kS kU) (Ne v6.ownBlock)) w6 w.heap.size 30 v5 (rows ++ [row]) ∧ Ow kU w6 w.heap.size 22 v6 (rhs ++ [pwv]) ∧ Bl w w6 ∧ Ap v5 v6 from ⟨hO5'', hO6, hB6, hap6⟩)
              clear hO5' hO5'' hO6 hB6 hap6 hg6 hat6
              go_wp2_with fail
              go_round
              case rel => exact ⟨k + 1, by omega, by go_num, by rw [HTK.out, List.map_append, ← HROWS.out]; have := HREL.out.1; rw [HROW.out] at this; exact this, by rw [HTK.out, List.map_append, ← HRHS.out]; have := HREL.out.2.1; rw [HPW.out] at this; exact this, HREL.out.2.2⟩
              case measure => simp [intOf]; omega
    · obtain rfl : k = R := by omega
      have hpl : pts.length = k := HRR.out
      rw [List.take_of_length_le (by omega)] at hO hOb
      have hat : ∀ i, i < k → pts[i]? = some (pts.getD i (0, 0)) := fun i hi => by rw [List.getD_eq_getElem?_getD, List.getElem?_eq_getElem (by omega)]; rfl
      have hmi : ∀ i, i < k → (pts.map fun q => drow p D W q.1 q.2).getD i [] = drow p D W (pts.getD i (0, 0)).1 (pts.getD i (0, 0)).2 := fun i hi => by
        rw [List.getD_eq_getElem?_getD, List.getElem?_map, hat i hi]; rfl
      have hbi : ∀ i, i < k → (pts.map fun q => ipw p q.1 q.2 W).getD i 0 = ipw p (pts.getD i (0, 0)).1 (pts.getD i (0, 0)).2 W := fun i hi => by
        rw [List.getD_eq_getElem?_getD, List.getElem?_map, hat i hi]; rfl
      have hlo := hp.lo
      have hdlt : ∀ x y j, y < p → j < D + W → (drow p D W x y).getD j 0 < p := fun x y j hy hj => by
        by_cases e : j < D
        · rw [drow_lo _ _ _ _ _ _ e]; exact ipw_lt (by omega) _ _ (by omega) _
        · rw [show j = D + (j - D) by omega, drow_hi _ _ _ _ _ _ (by omega)]; exact fneg_lt (by omega) _
      obtain ⟨Av, cv, hvm, _⟩ := hO.slice
      obtain ⟨Ab, cb, hvb, _⟩ := hOb.slice
      rw [List.length_map, hpl] at hvm hvb
      subst hvm; subst hvb
      have hsol := solve_any p (D + W) k _ _ (pts.map fun q => drow p D W q.1 q.2) (pts.map fun q => ipw p q.1 q.2 W) Any Any wr hp hO.ofT.reads hOb.reads (by simpa using hpl) (by simpa using hpl) hR0 (by omega)
        (fun i hi => by rw [hmi i hi, drow_len]) (by omega) (fun i j hi hj => by rw [hmi i hi]; exact hdlt _ _ _ (HY.out i hi) hj) (fun i hi => by rw [hbi i hi]; exact ipw_lt (by omega) _ _ (HY.out i hi) _)
      have HSOL := hide hsol; clear hsol hdlt
      have HMI := hide hmi; clear hmi
      have HBI := hide hbi; clear hbi hat hO hOb hAp hpl
      have HB := hide hB; clear hB
      go_wp2_with fail
      refine HSOL.out.mono ?_
      rintro e w3 ⟨hB3, vs, xs, code, rfl, hs⟩
      rcases hs with ⟨rfl, rfl, hno⟩ | ⟨rfl, hO, hxl, hxp, hsol⟩
      · have HNO := hide hno; clear hno
        have HB3 := hide hB3; clear hB3
        go_wp2_with fail
        go_ret3
        exact ⟨Bl.then HB.out HB.out.size HB3.out, _, _, _, rfl, .inl ⟨rfl, HNO.out.congr (fun i j hi _ => by rw [HMI.out i hi]) fun i hi => HBI.out i hi⟩⟩
      · obtain ⟨gs, cs, rfl, hgs1, hgs2⟩ := hO.form (by have := HD.out; omega)
        have hcs : xs.length ≤ cs ∧ cs ≤ 9223372036854775807 := by
          obtain ⟨_, c', hc', h1, h2⟩ := hO.slice
          injection hc' with _ _ hc'
          subst hc'
          exact ⟨h1, h2⟩
        rw [hxl] at hO hcs ⊢
        have hB4 := Bl.then HB.out HB.out.size hB3
        have hrd : (kS kU).R w3 (fun b => b < w3.heap.size) [.slice (some ⟨gs, 0, none⟩) (D + W) cs] xs := hO.readsU _ fun b hb => (hO.base b hb).2
        have hq := kS_take (m := D) hrd (by omega)
        have HB3 := hide hB4; clear hB4 hB3
        have HXP := hide hxp; clear hxp
        have HSL := hide hsol; clear hsol
        have hDc : (D : Int) ≤ ((D : Int) + W) := by omega
        have hDc2 : (D : Int) ≤ (cs : Int) := by omega
        have hDc3 : (D : Int) + (W : Int) ≤ (cs : Int) := by omega
        -- the tail, whatever its pointer
        have htl : ∃ (A' : Option Addr) (cd : Nat), (if cs = D then A' = some ⟨gs, 0, none⟩ ∧ cd = 0 else A' = some ⟨gs, D, none⟩ ∧ cd = cs - D) ∧ (kS kU).R w3 (fun b => b < w3.heap.size) [.slice A' W cd] (xs.drop D) := by
          refine ⟨if cs = D then some ⟨gs, 0, none⟩ else some ⟨gs, D, none⟩, cs - D, by split <;> simp <;> omega, ?_⟩
          refine rdU_mk (by rw [List.length_drop, hxl]; omega) ⟨by omega, by omega⟩ fun j hj => ?_
          rw [if_neg (by omega)]
          have ha := (hO.atU (D + j) (by omega)).1
          have hl := (hO.atU (D + j) (by omega)).2.2
          have e : (xs.drop D).getD j 0 = xs.getD (D + j) 0 := by simp only [List.getD_eq_getElem?_getD, List.getElem?_drop]
          have e2 : Addr.add ⟨gs, D, none⟩ j = ⟨gs, D + j, none⟩ := by unfold Addr.add; split <;> simp_all
          rw [e]
          exact ⟨_, rfl, hgs2, by rw [e2]; exact ha, hl⟩
        obtain ⟨A', cd, hA', htl⟩ := htl
        have HO := hide hO; clear hO
        have HXL := hide hxl; clear hxl
        have HTL := hide htl; clear htl hrd
        have HQ := hide hq; clear hq
        have hdl : (xs.drop D).length = W := by rw [List.length_drop, HXL.out]; omega
        have HDL := hide hdl; clear hdl
        have hd3 : Bl w3 w3.drew := Bl.dr (Below.refl _ _) (Dr.one (Dr.refl _))
        have hal : ∀ {x : World} L, Bl w3 x → Bl w3 (x.alloc L) := fun L h => h.alloc h.size L
        have hTR : ∀ {x : World} {g n c : Nat}, Bl w3 x → w3.heap.size ≤ g → (kS kU).R x (Ne (Value.slice (some ⟨g, 0, none⟩) n c).ownBlock) [.slice A' W cd] (xs.drop D) := fun {x g n c} h hg =>
          (kS kU).sub ((kS kU).bl HTL.out h) fun b _ hb e => by injection e with e; subst e; omega
        have h0W : (0 + W) * 8 ≤ 140737488355328 := by omega
        have h1W : (W + 1) * 8 ≤ 140737488355328 := by omega
        have hLa : Ow kU (w3.alloc (.cells #[] 22)).drew w3.heap.size 22 (.slice (some ⟨w3.heap.size, 0, none⟩) 0 0) [] := (Ow.lit0 kU w3 w3.heap.size _ (Nat.le_refl _)).dr (Dr.one (Dr.refl _))
        have hLb : Ow kU ((w3.alloc (.cells #[.int .u64 1] 22)).alloc (.cells #[] 22)).drew w3.heap.size 22 (.slice (some ⟨w3.heap.size + 1, 0, none⟩) 0 0) [] := by
          have h := (Ow.lit0 kU (w3.alloc (.cells #[.int .u64 1] 22)) w3.heap.size 22 (by rw [Dr.alloc_heap, Array.size_push]; omega)).dr (Dr.one (Dr.refl _))
          rwa [show (w3.alloc (.cells #[.int .u64 1] 22)).heap.size = w3.heap.size + 1 by rw [Dr.alloc_heap, Array.size_push]] at h
        have hLc : Ow kU ((w3.alloc (.cells #[] 22)).alloc (.cells #[.int .u64 1] 22)).drew w3.heap.size 22 (.slice (some ⟨w3.heap.size, 0, none⟩) 0 0) [] :=
          ((Ow.lit0 kU w3 w3.heap.size 22 (Nat.le_refl _)).bl ((Below.refl _ _).alloc (Nat.le_refl _) _)).dr (Dr.one (Dr.refl _))
        have hBa : Bl w3 (w3.alloc (.cells #[] 22)).drew := Bl.dr (hal _ (Below.refl _ _)) (Dr.one (Dr.refl _))
        have hBb : Bl w3 ((w3.alloc (.cells #[.int .u64 1] 22)).alloc (.cells #[] 22)).drew := Bl.dr (hal _ (hal _ (Below.refl _ _))) (Dr.one (Dr.refl _))
        have hBc : Bl w3 ((w3.alloc (.cells #[] 22)).alloc (.cells #[.int .u64 1] 22)).drew := Bl.dr (hal _ (hal _ (Below.refl _ _))) (Dr.one (Dr.refl _))
        have hXb : (kS kU).R ((w3.alloc (.cells #[.int .u64 1] 22)).alloc (.cells #[] 22)).drew (fun b => b = w3.heap.size) [.slice (some ⟨w3.heap.size, 0, none⟩) 1 1] [1] :=
          (kS kU).kp ((kS kU).kp (lit1 w3 22 1 (by omega)) (Bl.kp ((Below.refl _ _).alloc (Nat.le_refl _) _) _)) (Dr.kp (Dr.one (Dr.refl _)) _)
        have hXc : (kS kU).R ((w3.alloc (.cells #[] 22)).alloc (.cells #[.int .u64 1] 22)).drew (fun b => b = w3.heap.size + 1) [.slice (some ⟨w3.heap.size + 1, 0, none⟩) 1 1] [1] := by
          have h := (kS kU).kp (lit1 (w3.alloc (.cells #[] 22)) 22 1 (by omega)) (Dr.kp (Dr.one (Dr.refl _)) _)
          rwa [show (w3.alloc (.cells #[] 22)).heap.size = w3.heap.size + 1 by rw [Dr.alloc_heap, Array.size_push]] at h
        -- the literal 1 behind the append
        have hYa : ∀ {x : World} {v : Value} {ys : List Nat}, Ow kU x w3.heap.size 22 v ys → (kS kU).R (x.alloc (.cells #[.int .u64 1] 22)) (Ne v.ownBlock) [.slice (some ⟨x.heap.size, 0, none⟩) 1 1] [1] := fun {x v ys} h =>
          (kS kU).sub (lit1 x 22 1 (by omega)) fun b _ hb e => by have := (h.base _ e.symm).2; omega
        have hYb : ∀ {x x' : World} {v : Value} {g g' n c : Nat}, (kS kU).R x (fun b => b = g') [.slice (some ⟨g', 0, none⟩) 1 1] [1] → g' ≠ g → g' < x.heap.size → x.grownBy x' (Value.slice (some ⟨g, 0, none⟩) n c).ownBlock →
            (v.ownBlock = (Value.slice (some ⟨g, 0, none⟩) n c).ownBlock ∨ ∃ b, v.ownBlock = some b ∧ x.heap.size ≤ b) → (kS kU).R x' (Ne v.ownBlock) [.slice (some ⟨g', 0, none⟩) 1 1] [1] := fun {x x' v g g' n c} h h1 h2 h3 h4 =>
          (kS kU).sub ((kS kU).kp h (Kp.grown h3 fun b hb e => by have e : some b = some g := e; injection e with e; omega)) fun b _ hb e => by
            rcases h4 with h4 | ⟨b', h4, h5⟩
            · rw [h4] at e; have e : some b = some g := e; injection e with e; omega
            · rw [h4] at e; injection e with e; omega
        have hsa : w3.heap.size < ((w3.alloc (.cells #[.int .u64 1] 22)).alloc (.cells #[] 22)).drew.heap.size := by
          show _ < (World.alloc _ _).heap.size
          rw [Dr.alloc_heap, Array.size_push, Dr.alloc_heap, Array.size_push]; omega
        have hsb : w3.heap.size + 1 < ((w3.alloc (.cells #[] 22)).alloc (.cells #[.int .u64 1] 22)).drew.heap.size := by
          show _ < (World.alloc _ _).heap.size
          rw [Dr.alloc_heap, Array.size_push, Dr.alloc_heap, Array.size_push]; omega
        have hFin : ∀ {w9 : World} {A9 : Option Addr} {c9 : Nat}, Ow kU w9 w3.heap.size 22 (.slice A9 (W + 1) c9) (xs.drop D ++ [1]) → Bl w3 w9 →
            Bl w w9 ∧ ∃ vq ve ok, Ending.returned (.tuple #[.slice (some ⟨gs, 0, none⟩) D cs, .slice A9 (W + 1) c9, .bool true]) = Ending.returned (.tuple #[vq, ve, .bool ok]) ∧ Tried p W k D pts w9 vq ve ok := fun {w9 A9 c9} hO9 hB9 => by
          have hlo := hp.lo
          refine ⟨Bl.then HB3.out HB3.out.size hB9, _, _, _, rfl, .inr ⟨rfl, xs.take D, xs.drop D ++ [1], (kS kU).any ((kS kU).bl HQ.out hB9), hO9.reads, ?_, ?_, ?_, ?_, ?_, ?_⟩⟩
          · rw [List.length_take, HXL.out]; omega
          · rw [List.length_append, HDL.out]; rfl
          · rw [List.getD_eq_getElem?_getD, List.getElem?_append_right (by rw [HDL.out]; omega), HDL.out]; simp
          · exact fun c hc => HXP.out c (List.mem_of_mem_take hc)
          · intro c hc
            rcases List.mem_append.1 hc with h | h
            · exact HXP.out c (List.mem_of_mem_drop h)
            · simp at h; omega
          · intro hz i hi
            have := HSL.out.out hz i hi
            rw [HBI.out i hi] at this
            refine dec_sol (by omega) D W _ _ (HY.out i hi) xs HXL.out ?_
            rw [← this]
            exact sm_congr fun j _ => by rw [HMI.out i hi]
        have HFIN : Hid (∀ {w9 : World} {A9 : Option Addr} {c9 : Nat}, Ow kU w9 w3.heap.size 22 (.slice A9 (W + 1) c9) (xs.drop D ++ [1]) → Bl w3 w9 →
            Bl w w9 ∧ ∃ vq ve ok, Ending.returned (.tuple #[.slice (some ⟨gs, 0, none⟩) D cs, .slice A9 (W + 1) c9, .bool true]) = Ending.returned (.tuple #[vq, ve, .bool ok]) ∧ Tried p W k D pts w9 vq ve ok) := @hFin
        clear hFin
        go_wp2_with fail
        clear hDi
        by_cases hcD : cs = D
        · rw [if_pos hcD] at hA'
          obtain ⟨rfl, rfl⟩ := hA'
          obtain rfl : W = 0 := by omega
          subst hcD
          go_region_held3 (fun w' => True) (first | (go_keep; done) | trivial)
            (first
              | (refine Ow.append_step kU (w0 := w3) w3.heap.size rfl (.tmp 84) (.tmp 87) 30 22 (.int .u64 0) 8 rfl Tryd.underlying30 cu64info rfl _ _ [] (xs.drop cs) rfl rfl hLa hBa hBa.size (hTR hBa (Nat.le_refl _)) (by rw [HDL.out]; exact h0W) (by decide) ?_; intro v8 w8 hO8 hB8 hg8 hat8; simp only [List.nil_append] at hO8; obtain ⟨A8, c8, h8e, _, _⟩ := hO8.slice; rw [HDL.out] at h8e; subst h8e)
              | (refine Ow.append_step kU (w0 := w3) w3.heap.size rfl (.tmp 84) (.tmp 87) 30 22 (.int .u64 0) 8 rfl Tryd.underlying30 cu64info rfl _ _ [] (xs.drop cs) rfl rfl hLb hBb hBb.size (hTR hBb (Nat.le_succ _)) (by rw [HDL.out]; exact h0W) (by decide) ?_; intro v8 w8 hO8 hB8 hg8 hat8; simp only [List.nil_append] at hO8; obtain ⟨A8, c8, h8e, _, _⟩ := hO8.slice; rw [HDL.out] at h8e; subst h8e; have hL8 := hYb hXb (by omega) hsa hg8 hat8)
              | (refine Ow.append_step kU (w0 := w3) w3.heap.size rfl (.tmp 84) (.tmp 87) 30 22 (.int .u64 0) 8 rfl Tryd.underlying30 cu64info rfl _ _ [] (xs.drop cs) rfl rfl hLc hBc hBc.size (hTR hBc (Nat.le_refl _)) (by rw [HDL.out]; exact h0W) (by decide) ?_; intro v8 w8 hO8 hB8 hg8 hat8; simp only [List.nil_append] at hO8; obtain ⟨A8, c8, h8e, _, _⟩ := hO8.slice; rw [HDL.out] at h8e; subst h8e; have hL8 := hYb hXc (by omega) hsb hg8 hat8)
              | (refine Ow.append_step kU (w0 := w3) w3.heap.size rfl (.tmp 88) (.tmp 89) 30 22 (.int .u64 0) 8 rfl Tryd.underlying30 cu64info rfl (.slice A8 0 c8) _ (xs.drop cs) [1] rfl rfl hO8 hB8 hB8.size hL8 (by rw [HDL.out]; exact h1W) (by decide) ?_; intro v9 w9 hO9 hB9 hg9 hat9; obtain ⟨A9, c9, h9e, _, _⟩ := hO9.slice; simp only [List.length_append, List.length_cons, List.length_nil, Nat.zero_add, HDL.out] at h9e; subst h9e)
              | (refine Ow.append_step kU (w0 := w3) w3.heap.size rfl (.tmp 88) (.tmp 89) 30 22 (.int .u64 0) 8 rfl Tryd.underlying30 cu64info rfl (.slice A8 0 c8) _ (xs.drop cs) [1] rfl rfl (hO8.bl ((Below.refl _ _).alloc (Nat.le_refl _) _)) (hal _ hB8) (hal _ hB8).size (hYa hO8) (by rw [HDL.out]; exact h1W) (by decide) ?_; intro v9 w9 hO9 hB9 hg9 hat9; obtain ⟨A9, c9, h9e, _, _⟩ := hO9.slice; simp only [List.length_append, List.length_cons, List.length_nil, Nat.zero_add, HDL.out] at h9e; subst h9e))
          all_goals go_wp2_with fail
          all_goals go_ret3
          all_goals exact HFIN.out hO9 hB9
        · rw [if_neg hcD] at hA'
          obtain ⟨rfl, rfl⟩ := hA'
          have hcDi : ¬ ((cs : Int) = (D : Int)) := by omega
          go_region_held3 (fun w' => True) (first | (go_keep; done) | trivial)
            (first
              | (refine Ow.append_step kU (w0 := w3) w3.heap.size rfl (.tmp 84) (.tmp 87) 30 22 (.int .u64 0) 8 rfl Tryd.underlying30 cu64info rfl _ _ [] (xs.drop D) rfl rfl hLa hBa hBa.size (hTR hBa (Nat.le_refl _)) (by rw [HDL.out]; exact h0W) (by decide) ?_; intro v8 w8 hO8 hB8 hg8 hat8; simp only [List.nil_append] at hO8; obtain ⟨A8, c8, h8e, _, _⟩ := hO8.slice; rw [HDL.out] at h8e; subst h8e)
              | (refine Ow.append_step kU (w0 := w3) w3.heap.size rfl (.tmp 84) (.tmp 87) 30 22 (.int .u64 0) 8 rfl Tryd.underlying30 cu64info rfl _ _ [] (xs.drop D) rfl rfl hLb hBb hBb.size (hTR hBb (Nat.le_succ _)) (by rw [HDL.out]; exact h0W) (by decide) ?_; intro v8 w8 hO8 hB8 hg8 hat8; simp only [List.nil_append] at hO8; obtain ⟨A8, c8, h8e, _, _⟩ := hO8.slice; rw [HDL.out] at h8e; subst h8e; have hL8 := hYb hXb (by omega) hsa hg8 hat8)
              | (refine Ow.append_step kU (w0 := w3) w3.heap.size rfl (.tmp 84) (.tmp 87) 30 22 (.int .u64 0) 8 rfl Tryd.underlying30 cu64info rfl _ _ [] (xs.drop D) rfl rfl hLc hBc hBc.size (hTR hBc (Nat.le_refl _)) (by rw [HDL.out]; exact h0W) (by decide) ?_; intro v8 w8 hO8 hB8 hg8 hat8; simp only [List.nil_append] at hO8; obtain ⟨A8, c8, h8e, _, _⟩ := hO8.slice; rw [HDL.out] at h8e; subst h8e; have hL8 := hYb hXc (by omega) hsb hg8 hat8)
              | (refine Ow.append_step kU (w0 := w3) w3.heap.size rfl (.tmp 88) (.tmp 89) 30 22 (.int .u64 0) 8 rfl Tryd.underlying30 cu64info rfl (.slice A8 W c8) _ (xs.drop D) [1] rfl rfl hO8 hB8 hB8.size hL8 (by rw [HDL.out]; exact h1W) (by decide) ?_; intro v9 w9 hO9 hB9 hg9 hat9; obtain ⟨A9, c9, h9e, _, _⟩ := hO9.slice; simp only [List.length_append, List.length_cons, List.length_nil, Nat.zero_add, HDL.out] at h9e; subst h9e)
              | (refine Ow.append_step kU (w0 := w3) w3.heap.size rfl (.tmp 88) (.tmp 89) 30 22 (.int .u64 0) 8 rfl Tryd.underlying30 cu64info rfl (.slice A8 W c8) _ (xs.drop D) [1] rfl rfl (hO8.bl ((Below.refl _ _).alloc (Nat.le_refl _) _)) (hal _ hB8) (hal _ hB8).size (hYa hO8) (by rw [HDL.out]; exact h1W) (by decide) ?_; intro v9 w9 hO9 hB9 hg9 hat9; obtain ⟨A9, c9, h9e, _, _⟩ := hO9.slice; simp only [List.length_append, List.length_cons, List.length_nil, Nat.zero_add, HDL.out] at h9e; subst h9e))
          all_goals go_wp2_with fail
          all_goals go_ret3
          all_goals exact HFIN.out hO9 hB9
end Pv

set_option linter.unusedVariables false
set_option linter.unusedSimpArgs false
namespace Pv
open Go Go.RowKit Go.Proofs
open Go.Maps

theorem mbool_inv {H : Type} {P : Program} {e : TypeId} (he : P.underlying e = some .bool) {v : Value} {b : Bool} {ps : List MemPlace} (h : plainElem (H := H) P e v = some (.lit (.bool b), ps)) : v = .bool b := by
  unfold plainElem at h
  rw [he] at h
  cases v <;> simp at h
  rw [h.1]
theorem mzero (w : World) : (zeroValue 4).run Tryd.prog w = .ok (.bool false) w := by kernel_rfl

/-- whether the points may be decoded -/
def MayR (deg W R : Nat) (pts : List (Nat × Nat)) (b : Bool) : Prop :=
  b = true ↔ deg + 1 + 2 * W ≤ R ∧ ∀ i j, i < R → j < R → (pts.getD i (0, 0)).1 = (pts.getD j (0, 0)).1 → i = j
def MayP (deg W R : Nat) (pts : List (Nat × Nat)) (w : World) (e : Ending) (w' : World) : Prop := ∃ b, e = .returned (.bool b) ∧ Bl w w' ∧ MayR deg W R pts b
set_option maxHeartbeats 4000000 in
set_option maxRecDepth 100000 in
theorem may_any (deg W R : Nat) (v : Value) (pts : List (Nat × Nat)) (S : Nat → Prop) (w : World) (hr : (kS (kP kU kU)).R w S [v] pts) (hR : pts.length = R) (hR1 : R ≤ 1000) (hD1 : deg ≤ 1000) (hW1 : W ≤ 1000) :
    Calls Tryd.prog 64 #[v, .int .i64 deg, .int .i64 W] w fun e w' => MayP deg W R pts w e w' := by
  obtain ⟨A, c, rfl, ⟨hn2, hc2⟩, hc⟩ := rdP hr
  rw [hR] at hn2 hc ⊢
  have HC := hide hc; clear hc hr hR
  have g1 : ¬ ((deg : Int) < 0) := by omega
  have g2 : ¬ ((W : Int) < 0) := by omega
  by_cases hall : deg + 1 + 2 * W ≤ R
  · have g3 : ¬ ((R : Int) < (W : Int)) := by omega
    have g4 : ¬ ((R : Int) < (deg : Int)) := by omega
    have g5 : ¬ ((R : Int) < (deg : Int) + 1 + 2 * (W : Int)) := by omega
    have hmk := fun W => run_makeMap (P := Tryd.prog) 143 W
    have hmade := World.ownsMap_made (H := Unit) w Tryd.prog 22 (plainElem Tryd.prog 4)
    have hB0 : Bl w (w.alloc (.map #[] 0)) := (Below.refl _ _).alloc (Nat.le_refl _) _
    go_enter Tryd.func64, Tryd.ntmps64
    have HMADE := hide hmade; clear hmade
    have HB0 := hide hB0; clear hB0
    go_wp2_with fail
    obtain ⟨W0, hW0⟩ : ∃ W0, W0 = w.alloc (.map #[] 0) := ⟨_, rfl⟩
    have hM0 := HMADE.out
    have hB0 := HB0.out
    rw [← hW0] at hM0 hB0 ⊢
    clear HMADE HB0 hmk hW0
    obtain ⟨bm, hbm⟩ : ∃ bm, bm = w.heap.size := ⟨_, rfl⟩
    rw [← hbm] at hM0 ⊢
    have HBM := hide hbm; clear hbm
    go_loopw [41] (fun i wr => ∃ k : Nat, k ≤ R ∧ i = .int .i64 k ∧ Bl w wr ∧ (∀ i j, i < k → j < k → (pts.getD i (0, 0)).1 = (pts.getD j (0, 0)).1 → i = j) ∧
      ∃ D : DataW Unit, wr.ownsMap Tryd.prog 22 (plainElem Tryd.prog 4) bm k D ∧ IsMap D ∧ ∀ x : Nat, D.atKey (.int .u64 (x : Int)) (.lit (.bool false)) = .lit (.bool (decide (∃ j, j < k ∧ (pts.getD j (0, 0)).1 = x)))) (fun i _ => R - (intOf i).toNat)
    case atStart =>
      refine ⟨0, by omega, rfl, hB0, fun i j h => by omega, .map [], hM0, ⟨[], rfl⟩, fun x => ?_⟩
      simp only [Nat.not_lt_zero, false_and, exists_false, decide_false]
      rfl
    case round => as_aux_lemma =>
      obtain ⟨k, hk, rfl, hB, hd, D, hM, hI, hat⟩ := hrel
      by_cases hkR : k < R
      · obtain ⟨ad, rfl, _, h1, h2, hx64, _⟩ := HC.out k hkR
        have h1w := cell_bl hB h1
        have h2w := cell_bl hB h2
        rw [add_succ] at h2w
        have hki : (k : Int) < (R : Int) := by omega
        have hk0 : (0 : Int) ≤ (k : Int) := by omega
        have HHB := hide hB; clear hB
        have hxd : (∃ j, j < k + 1 ∧ (pts.getD j (0, 0)).1 = (pts.getD k (0, 0)).1) := ⟨k, by omega, rfl⟩
        obtain ⟨x, hx⟩ : ∃ x, x = (pts.getD k (0, 0)).1 := ⟨_, rfl⟩
        obtain ⟨y, hy⟩ : ∃ y, y = (pts.getD k (0, 0)).2 := ⟨_, rfl⟩
        rw [← hx] at h1w hx64
        rw [← hy] at h2w
        have HX := hide hx; clear hx hy h1 h2 hxd
        have hwf : (Lit.int .u64 (x : Int)).wf = true := WalkArith.wf_u64 ⟨by omega, by omega⟩
        have hkey : keyOf Tryd.prog 22 (.int .u64 (x : Int)) = some (.int .u64 (x : Int)) := keyOf_int_mk Tryd.underlying22 hwf
        have hM1 := hM.alloc (.cells #[.int .u64 (x : Int), .int .u64 (y : Int)] 87)
        obtain ⟨vv, ps, hrun, hv⟩ := hM1.lookup (int_keyed Tryd.underlying22) Tryd.underlying143 (mzero _) (plainElem_bool Tryd.underlying4 false) hkey
        rw [hat x] at hv
        have hvb := mbool_inv Tryd.underlying4 hv
        subst hvb
        have HAT := hide hat; clear hat hv
        have HI := hide hI; clear hI hM
        have HD := hide hd; clear hd
        have HM1 := hide hM1; clear hM1
        have HKEY := hide hkey; clear hkey
        have hsz := HHB.out.size
        by_cases hsn : ∃ j, j < k ∧ (pts.getD j (0, 0)).1 = x
        · rw [decide_eq_true hsn] at hrun
          have hno : MayR deg W R pts false := by
            simp only [MayR, Bool.false_eq_true, false_iff]
            intro h
            obtain ⟨j, hj, hjx⟩ := hsn
            have := h.2 j k (by omega) hkR (by rw [hjx, HX.out])
            omega
          have HNO := hide hno; clear hno hsn
          go_wp2_with fail
          go_ret
          exact ⟨_, rfl, HHB.out.alloc hsz _, HNO.out⟩
        · rw [decide_eq_false hsn] at hrun
          have HSN := hide hsn; clear hsn
          go_wp2_with (at_mapUpdate; refine wpList_mapUpdate_own _ rfl _ _ _ 143 rfl 22 4 (int_keyed Tryd.underlying22) Tryd.underlying143 (plainElem Tryd.prog 4) bm k D rfl HM1.out (by simp only [maxLen]; omega) _ _ (.int .u64 (x : Int)) rfl rfl HKEY.out (.lit (.bool true)) [] (plainElem_bool Tryd.underlying4 true) ?_)
          intro w5 hM5 hg5
          have hB5 : Bl w w5 := (HHB.out.alloc hsz _).grown hg5 (Nat.le_trans hsz (by rw [Dr.alloc_heap, Array.size_push]; omega)) (fun g hg => by injection hg with hg; have := HBM.out; omega)
          have HM5 := hide hM5; clear hM5
          have HB5 := hide hB5; clear hB5 hg5
          go_wp2_with fail
          go_round
          case measure => simp [intOf]; omega
          case rel =>
            refine ⟨k + 1, by omega, by go_num, HB5.out, fun i j hi hj e => ?_, _, HM5.out, HI.out.put _ _, fun z => ?_⟩
            · by_cases e1 : i = k
              · by_cases e2 : j = k
                · omega
                · exact absurd ⟨j, by omega, by rw [HX.out, ← e, e1]⟩ HSN.out
              · by_cases e2 : j = k
                · exact absurd ⟨i, by omega, by rw [HX.out, e, e2]⟩ HSN.out
                · exact HD.out i j (by omega) (by omega) e
            · by_cases e : z = x
              · subst e
                rw [atKey_put_same HI.out (by trivial), decide_eq_true ⟨k, by omega, HX.out.symm⟩]
              · rw [atKey_put_other (by intro h; injection h with _ h; omega), HAT.out z]
                congr 3
                refine propext ⟨fun ⟨j, h1, h2⟩ => ⟨j, by omega, h2⟩, fun ⟨j, h1, h2⟩ => ⟨j, ?_, h2⟩⟩
                rcases Nat.lt_or_ge j k with h | h
                · exact h
                · obtain rfl : j = k := by omega
                  exact absurd (h2.symm.trans HX.out.symm) e
      · obtain rfl : k = R := by omega
        have hyes : MayR deg W k pts true := by simp only [MayR, true_iff]; exact ⟨hall, hd⟩
        have HD := hide hd; clear hd hat
        have HB := hide hB; clear hB
        have HM := hide hM; clear hM hI
        have HY := hide hyes; clear hyes
        go_wp2_with fail
        go_ret
        exact ⟨_, rfl, HB.out, HY.out⟩
  · have hno : MayR deg W R pts false := by simp only [MayR, Bool.false_eq_true, false_iff]; exact fun h => hall h.1
    have HNO := hide hno; clear hno
    by_cases g3 : (R : Int) < (W : Int)
    · go_enter Tryd.func64, Tryd.ntmps64
      go_wp2_with fail
      go_ret
      exact ⟨_, rfl, Below.refl _ _, HNO.out⟩
    · by_cases g4 : (R : Int) < (deg : Int)
      · go_enter Tryd.func64, Tryd.ntmps64
        go_wp2_with fail
        go_ret
        exact ⟨_, rfl, Below.refl _ _, HNO.out⟩
      · have g5 : (R : Int) < (deg : Int) + 1 + 2 * (W : Int) := by omega
        go_enter Tryd.func64, Tryd.ntmps64
        go_wp2_with fail
        go_ret
        exact ⟨_, rfl, Below.refl _ _, HNO.out⟩
end Pv

set_option linter.unusedVariables false
set_option linter.unusedSimpArgs false
namespace Pv
open Go Go.RowKit Go.Proofs

set_option maxHeartbeats 4000000 in
set_option maxRecDepth 100000 in
theorem errpos_any (p R : Nat) (vf v : Value) (f : List Nat) (pts : List (Nat × Nat)) (S S' : Nat → Prop) (w : World) (hp : IsP p) (hf : (kS kU).R w S' [vf] f) (hfp : ∀ c, c ∈ f → c < p) (hr : (kS (kP kU kU)).R w S [v] pts) (hR : pts.length = R) (hR1 : R ≤ 1000)
    (hx : ∀ i, i < R → (pts.getD i (0, 0)).1 < p) (hy : ∀ i, i < R → (pts.getD i (0, 0)).2 < p) :
    Calls Tryd.prog 68 #[.int .u64 p, vf, v] w fun e w' => Bl w w' ∧ ∃ v', e = .returned v' ∧
      Ow kI w' w.heap.size 3 v' ((errs p f R (fun i => (pts.getD i (0, 0)).1) (fun i => (pts.getD i (0, 0)).2)).map fun i : Nat => (i : Int)) := by
  obtain ⟨A, c, rfl, ⟨hn2, hc2⟩, hc⟩ := rdP hr
  rw [hR] at hn2 hc ⊢
  have hlf := (kS kU).low hf
  have hev := fun x W (hx : x < p) (h : Bl w W) => eval_any p x vf f _ W hp hx ((kS kU).bl hlf h) hfp
  have HEV := hide hev; clear hev hlf hf
  have HC := hide hc; clear hc hr
  have HX := hide hx; clear hx
  have HY := hide hy; clear hy
  clear hR hfp
  go_enter Tryd.func68, Tryd.ntmps68
  go_wp2_with fail
  go_loopw [7, 12] (fun vm i wr => ∃ k : Nat, k ≤ R ∧ i = .int .i64 k ∧ Ow kI wr w.heap.size 3 vm ((errs p f k (fun i => (pts.getD i (0, 0)).1) (fun i => (pts.getD i (0, 0)).2)).map fun i : Nat => (i : Int)) ∧ Bl w wr) (fun _ i _ => R - (intOf i).toNat)
  case atStart => exact ⟨0, by omega, rfl, by simpa [errs] using Ow.nil _ _ _ _, Below.refl _ _⟩
  case round => as_aux_lemma =>
    obtain ⟨k, hk, rfl, hO, hB⟩ := hrel
    by_cases hkR : k < R
    · obtain ⟨ad, rfl, _, h1, h2, _⟩ := HC.out k hkR
      have h1w := cell_bl hB h1
      have h2w := cell_bl hB h2
      rw [add_succ] at h2w
      have hki : (k : Int) < (R : Int) := by omega
      have hk0 : (0 : Int) ≤ (k : Int) := by omega
      have hxk := HX.out k hkR
      have hyk := HY.out k hkR
      have hes : errs p f (k + 1) (fun i => (pts.getD i (0, 0)).1) (fun i => (pts.getD i (0, 0)).2) = errs p f k (fun i => (pts.getD i (0, 0)).1) (fun i => (pts.getD i (0, 0)).2) ++ (if hor p f (pts.getD k (0, 0)).1 = (pts.getD k (0, 0)).2 then [] else [k]) := by
        unfold errs
        rw [List.range_succ, List.filter_append]
        congr 1
        rw [List.filter_cons, List.filter_nil]
        show (if (hor p f (pts.getD k (0, 0)).1 != (pts.getD k (0, 0)).2) = true then [k] else []) = _
        by_cases e : hor p f (pts.getD k (0, 0)).1 = (pts.getD k (0, 0)).2
        · rw [if_pos e, if_neg (by rw [e, bne_self_eq_false]; simp)]
        · rw [if_neg e, if_pos (bne_iff_ne.2 e)]
      have hel : (errs p f k (fun i => (pts.getD i (0, 0)).1) (fun i => (pts.getD i (0, 0)).2)).length ≤ k := by
        unfold errs; exact Nat.le_trans (List.length_filter_le _ _) (by simp)
      clear h1 h2
      generalize pts.getD k (0, 0) = pt at hes hxk hyk h1w h2w
      obtain ⟨x, y⟩ := pt
      simp only at hxk hyk h1w h2w hes
      generalize errs p f k (fun i => (pts.getD i (0, 0)).1) (fun i => (pts.getD i (0, 0)).2) = es at hes hel hO
      have HES := hide hes; clear hes
      obtain ⟨Av, cv, rfl, _, _⟩ := hO.slice
      simp only [List.length_map] at hO ⊢
      have HO := hide hO; clear hO
      have HB := hide hB; clear hB
      have hhl := hor_lt p x (by have := hp.lo; omega) f
      have hevx := fun W h => HEV.out x W hxk h
      obtain ⟨h0, hh0⟩ : ∃ h0, h0 = hor p f x := ⟨_, rfl⟩
      rw [← hh0] at HES hhl
      simp only [← hh0] at hevx
      have HEVX := hide hevx; clear hevx hh0
      go_wp2_with fail
      obtain ⟨W1, hW1⟩ : ∃ W1, W1 = wr.alloc (.cells #[.int .u64 (x : Int), .int .u64 (y : Int)] 87) := ⟨_, rfl⟩
      rw [← hW1]
      have hB1 : Bl wr W1 := by rw [hW1]; exact (Below.refl _ _).alloc (Nat.le_refl _) _
      have hcx : W1.cell? ⟨wr.heap.size, 0, none⟩ = some (.int .u64 (x : Int)) := by rw [hW1, World.cell?_alloc_at _ _ _ _ rfl]; rfl
      have hcy : W1.cell? ⟨wr.heap.size, 1, none⟩ = some (.int .u64 (y : Int)) := by rw [hW1, World.cell?_alloc_at _ _ _ _ rfl]; rfl
      have HB1 := hide hB1; clear hB1 hW1 h1w h2w
      obtain ⟨b1, hb1⟩ : ∃ b1, b1 = wr.heap.size := ⟨_, rfl⟩
      rw [← hb1] at hcx hcy ⊢
      have HBB := hide hb1; clear hb1
      have hBw : ∀ n, Bl w (W1.drewN n) := fun n => Bl.drewN (Bl.then HB.out HB.out.size HB1.out) n
      have HBW := hide hBw; clear hBw
      go_quiet ((first | (go_at_call 45; exact Dr.quiet (HEVX.out _ (HBW.out _)))))
      obtain ⟨W2, hW2⟩ : ∃ W2, W2 = W1.drewN nq := ⟨_, rfl⟩
      rw [← hW2]
      have hB2 : Bl wr W2 := by rw [hW2]; exact Bl.drewN HB1.out nq
      have HB2 := hide hB2; clear hB2 hW2 hcx hcy
      by_cases hhy : h0 = y
      · have hb1 : (((h0 : Nat) : Int) != ((y : Nat) : Int)) = false := by subst hhy; simp
        rw [hb1]
        have HHY := hide hhy; clear hhy hb1
        go_wp2_with fail
        go_round
        case rel => exact ⟨k + 1, by omega, by go_num, by rw [HES.out, if_pos HHY.out, List.append_nil]; exact HO.out.bl HB2.out, Bl.then HB.out HB.out.size HB2.out⟩
        case measure => simp [intOf]; omega
      · have hb1 : (((h0 : Nat) : Int) != ((y : Nat) : Int)) = true := by simp; omega
        rw [hb1]
        have HHY := hide hhy; clear hhy hb1
        have HO2 := hide (HO.out.bl HB2.out)
        have HBb := hide (Bl.then HB.out HB.out.size HB2.out)
        have hszz := HBb.out.size
        have hl8 : ((es.map fun i : Nat => (i : Int)).length + 1) * 8 ≤ 140737488355328 := by rw [List.length_map]; omega
        go_wp2_with (at_builtin; refine Ow.append kI (w0 := w) w.heap.size rfl (.tmp 25) (.tmp 27) 25 3 (.int .i64 0) 8 rfl Tryd.underlying25 i64info rfl (.slice Av es.length cv) (es.map fun i : Nat => (i : Int)) [.int .i64 k] (k : Int) rfl rfl HO2.out HBb.out hszz ⟨rfl, by omega, by omega⟩ hl8 (by decide) ?_)
        intro v8 w8 hO8 hB8 hg8 hat8
        have HO8 := hide hO8; clear hO8
        have HB8 := hide hB8; clear hB8 hg8 hat8
        go_wp2_with fail
        go_round
        case rel => exact ⟨k + 1, by omega, by go_num, by rw [HES.out, if_neg HHY.out, List.map_append]; exact HO8.out, HB8.out⟩
        case measure => simp [intOf]; omega
    · obtain rfl : k = R := by omega
      have HO := hide hO; clear hO
      have HB := hide hB; clear hB
      go_wp2_with fail
      go_ret
      exact ⟨HB.out, _, rfl, HO.out⟩
end Pv

set_option linter.unusedVariables false
set_option linter.unusedSimpArgs false
namespace Pv
open Go Go.RowKit Go.Proofs

/-- the points may be decoded -/
def MayD (deg W R : Nat) (x : Nat → Nat) : Prop := deg + 1 + 2 * W ≤ R ∧ ∀ i j, i < R → j < R → x i = x j → i = j
/-- what Decode answers -/
def DecR (p deg W R : Nat) (x y : Nat → Nat) (base : Nat) (w' : World) (vf vp : Value) (code : Nat) : Prop :=
  (code = 1 ∧ vf = .slice none 0 0 ∧ vp = .slice none 0 0 ∧ ¬ MayD deg W R x) ∨
  (code = 9 ∧ vf = .slice none 0 0 ∧ vp = .slice none 0 0 ∧ MayD deg W R x ∧ ∀ g : List Nat, g.length ≤ deg + 1 → (∀ c, c ∈ g → c < p) → W < (errs p g R x y).length) ∨
  (code = 0 ∧ MayD deg W R x ∧ ∃ f, Ow kU w' base 22 vf f ∧ Ow kI w' base 3 vp ((errs p f R x y).map fun i : Nat => (i : Int)) ∧ f.length ≤ deg + 1 ∧ (∀ c, c ∈ f → c < p) ∧ trm f = f ∧ (errs p f R x y).length ≤ W)
def DecP (p deg W R : Nat) (x y : Nat → Nat) (w : World) (e : Ending) (w' : World) : Prop :=
  Bl w w' ∧ ∃ vf vp code, e = .returned (.tuple #[vf, vp, .int .i64 (code : Nat)]) ∧ DecR p deg W R x y w.heap.size w' vf vp code

theorem hor_trm (p : Nat) (hp : IsP p) (f : List Nat) (x : Nat) : hor p (trm f) x = hor p f x := by
  have hlo := hp.lo
  haveI : NeZero p := ⟨by omega⟩
  have h1 := E_hor (p := p) (trm f) x
  have h2 := E_hor (p := p) f x
  rw [E_trm, ← h2] at h1
  exact K_inj (hor_lt p x (by omega) _) (hor_lt p x (by omega) _) h1
theorem errs_trm (p : Nat) (hp : IsP p) {f g : List Nat} (h : trm f = trm g) (R : Nat) (x y : Nat → Nat) : errs p (trm f) R x y = errs p g R x y := by
  unfold errs
  congr 1
  funext i
  rw [h, hor_trm p hp]

set_option maxHeartbeats 4000000 in
set_option maxRecDepth 100000 in
theorem decode_any (p deg W R : Nat) (v : Value) (pts : List (Nat × Nat)) (S : Nat → Prop) (w : World) (hp : IsP p) (hr : (kS (kP kU kU)).R w S [v] pts) (hR : pts.length = R) (hR1 : R ≤ 15) (hD1 : deg ≤ 1000) (hW1 : W ≤ 1000)
    (hx : ∀ i, i < R → (pts.getD i (0, 0)).1 < p) (hy : ∀ i, i < R → (pts.getD i (0, 0)).2 < p) :
    Calls Tryd.prog 48 #[.int .u64 p, v, .int .i64 deg, .int .i64 W] w fun e w' => DecP p deg W R (fun i => (pts.getD i (0, 0)).1) (fun i => (pts.getD i (0, 0)).2) w e w' := by
  have hlow := (kS (kP kU kU)).low hr
  have hmay := may_any deg W R v pts S w hr hR (by omega) hD1 hW1
  have HMAY := hide hmay; clear hmay
  have HLOW := hide hlow; clear hlow
  have HX := hide hx; clear hx
  have HY := hide hy; clear hy
  go_enter Tryd.func48, Tryd.ntmps48
  go_wp2_with fail
  refine HMAY.out.mono ?_
  rintro e w1 ⟨b, rfl, hB1, hb⟩
  have HB1 := hide hB1; clear hB1
  cases b with
  | false =>
    have hno : ¬ MayD deg W R (fun i => (pts.getD i (0, 0)).1) := fun h => by have := hb.2 h; simp at this
    have HNO := hide hno; clear hno hb
    go_wp2_with fail
    go_ret3
    exact ⟨HB1.out, _, _, _, rfl, .inl ⟨rfl, rfl, rfl, HNO.out⟩⟩
  | true =>
    have hmd : MayD deg W R (fun i => (pts.getD i (0, 0)).1) := hb.1 rfl
    have HMD := hide hmd
    have hle := hmd.1
    clear hmd hb
    have htry := dtry_any p deg W R v pts _ w1 hp ((kS (kP kU kU)).bl HLOW.out HB1.out) hR (by omega) (by omega) hD1 hW1 HX.out HY.out
    have HTRY := hide htry; clear htry
    go_wp2_with fail
    refine HTRY.out.mono ?_
    rintro e w2 ⟨hB2, vq, ve, ok, rfl, ht⟩
    have HB2 := hide (Bl.then HB1.out HB1.out.size hB2); clear hB2
    rcases ht with ⟨rfl, hno⟩ | ⟨rfl, q, e, hq, he, hql, hel, he1, hqp, hep, hqe⟩
    · have hno' := fun g hg => dec_no (by have := hp.lo; omega) (show deg + W + 1 = deg + 1 + W by omega) HY.out hno g hg
      have HNO := hide hno'; clear hno hno'
      go_wp2_with fail
      go_ret3
      exact ⟨HB2.out, _, _, _, rfl, .inr (.inl ⟨rfl, rfl, rfl, HMD.out, fun g hg _ => HNO.out g hg⟩)⟩
    · have htre : trm e = e := trm_fix fun _ => by rw [hel, show W + 1 - 1 = W by omega, he1]; omega
      have hdiv := divmod_any p vq ve q e Any w2 hp hq he hqp hep (by rw [htre]; omega) (by omega) (by omega)
      rw [htre] at hdiv
      have HDIV := hide hdiv; clear hdiv
      have HQE : Hid (∀ (_ : NeZero p), ∀ i, i < R → (E q (K (pts.getD i (0, 0)).1) : Fin p) = K (pts.getD i (0, 0)).2 * E e (K (pts.getD i (0, 0)).1)) := fun hz => @hqe hz
      clear hqe hq he hqp hep htre
      go_wp2_with fail
      refine HDIV.out.mono ?_
      rintro e' w3 ⟨vqq, vr, qq, r, rfl, hOq, hOr, hB3, hDI, hrl⟩
      have hlo := hp.lo
      have hU : ∀ g : List Nat, g.length ≤ deg + 1 → (∀ c, c ∈ g → c < p) → (errs p g R (fun i => (pts.getD i (0, 0)).1) (fun i => (pts.getD i (0, 0)).2)).length ≤ W → r = [] ∧ trm qq = trm g := fun g h1 h2 h3 =>
        dec_uniq hp (show deg + W + 1 = deg + 1 + W by omega) (by omega) (by omega) HX.out HY.out HMD.out.2 (Nat.le_of_eq hql) hel he1 (fun {hz} => HQE.out hz) (fun {hz} => @DInv.eq p q e qq r hDI hz) (by omega) (by have := hDI.al; omega) hDI.hq hDI.ha hDI.tr g h1 h2 h3
      have HU := hide hU; clear hU
      have hql2 : (trm qq).length ≤ 4000 := by have := trm_len qq; have := hDI.al; omega
      have hqq := hDI.hq
      have HQQ := hide hqq; clear hqq hDI HQE
      have HB3 := hide (Bl.then HB2.out HB2.out.size hB3); clear hB3
      have HW3 := HB2.out.size
      obtain ⟨Ar, cr, rfl, _, _⟩ := hOr.slice
      have HOQ := hide (hOq.mono HB2.out.size); clear hOq hOr
      by_cases hr0 : r.length = 0
      · have hr0i : ¬ ((r.length : Int) > 0) := by omega
        have hr0j : ¬ ((0 : Int) < (r.length : Int)) := by omega
        have hdeg := degree_any vqq (trm qq) Any w3 HOQ.out.reads
        rw [trm_fix (trm_last qq)] at hdeg
        have HDEG := hide hdeg; clear hdeg
        go_wp2_with fail
        refine HDEG.out.mono ?_
        rintro e w4 ⟨rfl, rfl⟩
        by_cases hdg : (trm qq).length ≤ deg + 1
        · have hdgi : ¬ ((deg : Int) < ((trm qq).length : Int) - 1) := by omega
          have hep := errpos_any p R vqq v (trm qq) pts _ Any w4 hp HOQ.out.reads (fun c hc => HQQ.out c (trm_mem qq c hc)) ((kS (kP kU kU)).bl HLOW.out HB3.out) hR (by omega) HX.out HY.out
          have HEP := hide hep; clear hep
          have HB4 := HB3.out.size
          go_wp2_with fail
          refine HEP.out.mono ?_
          rintro e w5 ⟨hB5, vpp, rfl, hOp⟩
          have HB5 := hide (Bl.then HB3.out HB4 hB5)
          have HOQ5 := hide (HOQ.out.bl hB5)
          have HOP := hide (hOp.mono HB4)
          clear hB5 hOp
          obtain ⟨App, cpp, rfl, _, _⟩ := HOP.out.slice
          have hel15 : (errs p (trm qq) R (fun i => (pts.getD i (0, 0)).1) (fun i => (pts.getD i (0, 0)).2)).length ≤ R := by
            unfold errs; exact Nat.le_trans (List.length_filter_le _ _) (by simp)
          obtain ⟨es, hes⟩ : ∃ es, es = errs p (trm qq) R (fun i => (pts.getD i (0, 0)).1) (fun i => (pts.getD i (0, 0)).2) := ⟨_, rfl⟩
          rw [← hes] at HOP hel15 ⊢
          have HES := hide hes; clear hes
          simp only [List.length_map] at HOP ⊢
          by_cases hcnt : es.length ≤ W
          · have hci : ¬ ((W : Int) < (es.length : Int)) := by omega
            go_wp2_with fail
            go_ret3
            refine ⟨HB5.out, _, _, _, rfl, .inr (.inr ⟨rfl, HMD.out, trm qq, HOQ5.out, ?_, hdg, fun c hc => HQQ.out c (trm_mem qq c hc), trm_fix (trm_last qq), ?_⟩)⟩
            · exact (congrArg (fun l : List Nat => Ow kI w5 w.heap.size 3 (.slice App es.length cpp) (l.map fun i : Nat => (i : Int))) HES.out).mp HOP.out
            · have h := hcnt; rw [HES.out] at h; exact h
          · have hci : ((W : Int) < (es.length : Int)) := by omega
            have hno : ∀ g : List Nat, g.length ≤ deg + 1 → (∀ c, c ∈ g → c < p) → W < (errs p g R (fun i => (pts.getD i (0, 0)).1) (fun i => (pts.getD i (0, 0)).2)).length := fun g h1 h2 => by
              rcases Nat.lt_or_ge W (errs p g R (fun i => (pts.getD i (0, 0)).1) (fun i => (pts.getD i (0, 0)).2)).length with h | h
              · exact h
              · have := (HU.out g h1 h2 h).2
                rw [HES.out, errs_trm p hp this] at hcnt; omega
            have HNO := hide hno; clear hno
            go_wp2_with fail
            go_ret3
            exact ⟨HB5.out, _, _, _, rfl, .inr (.inl ⟨rfl, rfl, rfl, HMD.out, HNO.out⟩)⟩
        · have hdgi : ((deg : Int) < ((trm qq).length : Int) - 1) := by omega
          have hno : ∀ g : List Nat, g.length ≤ deg + 1 → (∀ c, c ∈ g → c < p) → W < (errs p g R (fun i => (pts.getD i (0, 0)).1) (fun i => (pts.getD i (0, 0)).2)).length := fun g h1 h2 => by
            rcases Nat.lt_or_ge W (errs p g R (fun i => (pts.getD i (0, 0)).1) (fun i => (pts.getD i (0, 0)).2)).length with h | h
            · exact h
            · have := (HU.out g h1 h2 h).2
              have h4 := trm_len g
              rw [this] at hdg; omega
          have HNO := hide hno; clear hno
          go_wp2_with fail
          go_ret3
          exact ⟨HB3.out, _, _, _, rfl, .inr (.inl ⟨rfl, rfl, rfl, HMD.out, HNO.out⟩)⟩
      · have hr0i : ((r.length : Int) > 0) := by omega
        have hr0j : ((0 : Int) < (r.length : Int)) := by omega
        have hno : ∀ g : List Nat, g.length ≤ deg + 1 → (∀ c, c ∈ g → c < p) → W < (errs p g R (fun i => (pts.getD i (0, 0)).1) (fun i => (pts.getD i (0, 0)).2)).length := fun g h1 h2 => by
          rcases Nat.lt_or_ge W (errs p g R (fun i => (pts.getD i (0, 0)).1) (fun i => (pts.getD i (0, 0)).2)).length with h | h
          · exact h
          · have := (HU.out g h1 h2 h).1
            rw [this] at hr0; simp at hr0
        have HNO := hide hno; clear hno
        go_wp2_with fail
        go_ret3
        exact ⟨HB3.out, _, _, _, rfl, .inr (.inl ⟨rfl, rfl, rfl, HMD.out, HNO.out⟩)⟩
end Pv
