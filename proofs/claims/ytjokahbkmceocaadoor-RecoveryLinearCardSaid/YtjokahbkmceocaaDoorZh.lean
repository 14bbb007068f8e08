import Derived.Test.YtjokahbkmceocaaDoorZc
import Derived.Test.YtjokahbkmceocaaDoorZd
import Derived.StillTailTactics
import Derived.Deep.DeepCutAuto
import Derived.Deep.CutBlock
import Derived.Deep.RegionHeld3
set_option linter.unusedVariables false
set_option linter.unusedSimpArgs false
namespace Pv
open Go Go.RowKit Go.Proofs

theorem i64info : (Tryd.prog.info? 3).map (fun i => (i.zero, i.size, i.bytes)) = some (some (.int .i64 0), 1, 8) := by kernel_rfl
/-- the state of the outer loop -/
def RL (w wr : World) (b0 g0 R L c0 p n c : Nat) (m0 : Nat → Nat → Nat) : Prop :=
  ∃ rb cp M vp pv det, RS w wr w.heap.size b0 g0 R L c0 p rb cp M vp (pv.map fun x : Nat => (x : Int)) det ∧ RD p R n c m0 M pv

set_option maxHeartbeats 4000000 in
set_option maxRecDepth 100000 in
theorem mreduce_any (p : Nat) (v : Value) (m : List (List Nat)) (n R L : Nat) (S : Nat → Prop) (w : World) (hp : IsP p) (hr : (kS (kS kU)).R w S [v] m) (hmR : m.length = R) (hm0 : 0 < R) (hm : R * 24 ≤ 140737488355328)
    (hL : ∀ i, i < R → (m.getD i []).length = L) (hL0 : 0 < L) (hL8 : L * 8 ≤ 140737488355328) (hlt : ∀ i j, i < R → j < L → (m.getD i []).getD j 0 < p) (hn : n < L) :
    Calls Tryd.prog 107 #[.int .u64 p, v, .int .i64 n] w fun e w' => ∃ b0 g0 c0, e = .returned (.pointer (some ⟨b0, 0, none⟩)) ∧ (R ≤ c0 ∧ c0 ≤ 9223372036854775807) ∧ RL w w' b0 g0 R L c0 p n n (fun i j => (m.getD i []).getD j 0) := by
  go_enter Tryd.func107, Tryd.ntmps107
  go_wp2_with fail
  refine (clone_rows v m S w hr (by rw [hmR]; exact hm)).mono ?_
  rintro e w1 ⟨vm, rfl, hO, hB⟩
  obtain ⟨g0, c0, rfl, hg0, hg1⟩ := hO.form (by rw [hmR]; exact hm0)
  have hc0 : R ≤ c0 ∧ c0 ≤ 9223372036854775807 := by
    obtain ⟨_, c', hc', h1, h2⟩ := hO.slice
    injection hc' with _ _ hc'
    subst hc'
    rw [hmR] at h1
    exact ⟨h1, h2⟩
  have HC0 := hide hc0; clear hc0
  have hR : R ≤ 9223372036854775807 := by omega
  clear hr
  rw [hmR] at hO ⊢
  obtain ⟨hd, hd1, hd2⟩ := hO.heads
  have hbase : w.heap.size ≤ w1.heap.size := hB.size
  have hlo := hp.lo
  have hI : R1 w w1 (w1.alloc (.cells #[.int .u64 p, .slice (some ⟨g0, 0, none⟩) R c0, .slice none 0 0, .int .u64 1] 161)) g0 R L c0 0 p (fun _ => 0) (fun _ => 0) hd m := R1.start hg0 hg1 hd1 hB
  have HD2 := hide hd2; clear hd2
  have HD1 := hide hd1; clear hd1
  have HLT := hide hlt; clear hlt
  have HL := hide hL; clear hL
  have HMR := hide hmR; clear hmR
  have HO := hide hO; clear hO
  go_wp2_with fail
  generalize w1.alloc _ = w2 at *
  go_loopw [33] (fun i wr => ∃ k : Nat, ∃ rb cp, k ≤ R ∧ i = .int .i64 k ∧ R1 w w1 wr g0 R L c0 k p rb cp hd m) (fun i _ => R - (intOf i).toNat)
  case atStart => exact ⟨0, _, _, by omega, rfl, hI⟩
  case round => as_aux_lemma =>
    clear hI
    obtain ⟨k, rb, cp, hk, rfl, hI⟩ := hrel
    have hbx : wr.cell? ⟨w1.heap.size, 1, none⟩ = some (.slice (some ⟨g0, 0, none⟩) R c0) := by simp [World.cell?, hI.box]
    by_cases hkR : k < R
    · have hcell := hI.out.cell hkR
      have hfree := hI.out.free k
      simp only [Nat.lt_irrefl, if_false] at hcell
      have hrd : (kS kU).R wr (Ne (some g0)) [hd k] (m.getD k []) := hI.rd (HD2.out k hkR)
      obtain ⟨row, hrow⟩ : ∃ row, row = m.getD k [] := ⟨_, rfl⟩
      have hrl : row.length = L := by rw [hrow]; exact HL.out k hkR
      rw [← hrow] at hrd
      have HROW := hide hrow; clear hrow
      have hcl := fun W => clone_u64 (hd k) row (Ne (some g0)) W
      have hki0 : (0 : Int) ≤ (k : Int) := by omega
      have hki1 : (k : Int) < (R : Int) := by omega
      have hne : g0 < wr.heap.size := hI.out.lt
      have HI := hide hI; clear hI
      have HRD := hide hrd; clear hrd
      have HCL := hide hcl; clear hcl
      generalize hd k = hk1 at *
      go_wp2_with fail
      have hp1 := peek_of hcell
      clear hcell
      go_region_held3 (fun w' => w'.cell? ⟨w1.heap.size, 1, none⟩ = some (.slice (some ⟨g0, 0, none⟩) R c0) ∧ w'.cell? ⟨g0, k, none⟩ = some (peek w' ⟨g0, k, none⟩) ∧ w'.frozen? ⟨g0, k, none⟩ = false)
        (first
          | (go_keep; done)
          | ((try go_split_ands); (repeat' apply And.intro) <;> first
              | assumption
              | (exact cell_bl hBc (by assumption))
              | (exact peek_bl hBc (by assumption))
              | (rw [hBc.frozen hne]; assumption)
              | (exact cell_set_ne _ (fun e => by simp at e; omega) (by assumption))
              | (exact peek_set _ (by assumption))
              | (exact free_set _ (by assumption))))
        (first
          | (go_at_call 103; refine (HCL.out _ ((kS kU).kp HRD.out ((Dr.one (Dr.refl _)).kp _)) (by rw [hrl]; exact hL8)).mono ?_; rintro e wc ⟨vc, rfl, hOc, hBc⟩; obtain ⟨gc, cc, rfl, hgc1, hgc2⟩ := hOc.form (by rw [hrl]; exact hL0)))
      have hI1 := R1.step (gc := gc) (cc := cc) HI.out hkR hBc (by rw [hrl] at hOc; rw [← HROW.out]; exact hOc) hgc1
      go_wp2_with fail
      go_round
      case rel => exact ⟨k + 1, _, _, by omega, by go_num, hI1⟩
      case measure => simp [intOf]; omega
    · obtain rfl : k = R := by omega
      have hS := hI.done hbase (by omega) HLT.out
      have hRD : RL w wr w1.heap.size g0 k L c0 p n 0 (fun i j => (m.getD i []).getD j 0) := ⟨_, _, _, _, [], _, hS, RD.init _ _ _ _⟩
      have HI := hide hI; clear hI
      obtain ⟨m0, hm0'⟩ : ∃ m0 : Nat → Nat → Nat, m0 = fun i j => (m.getD i []).getD j 0 := ⟨_, rfl⟩
      rw [← hm0'] at hRD
      have HM0 := hide hm0'; clear hm0'
      clear hS HI hbx HD2 HD1 HLT
      go_wp2_with fail
      generalize w1.heap.size = b0 at *
      go_loopw [48] (fun i wr => ∃ c : Nat, c ≤ n ∧ i = .int .i64 c ∧ RL w wr b0 g0 k L c0 p n c m0) (fun i _ => n - (intOf i).toNat)
      case atStart => exact ⟨0, by omega, rfl, hRD⟩
      case round => as_aux_lemma =>
        clear hRD
        obtain ⟨c, hc, rfl, hRD⟩ := hrel
        by_cases hcn : c < n
        · obtain ⟨rb, cp, M, vp, pv, det, hS, hD⟩ := hRD
          have hrR := hD.len (by omega)
          obtain ⟨Ap, cap, rfl, hpl⟩ := hS.piv.slice
          simp only [List.length_map] at hpl hS
          have hbx1 : wr.cell? ⟨b0, 1, none⟩ = some (.slice (some ⟨g0, 0, none⟩) k c0) := by simp [World.cell?, hS.box]
          have hbx2 : wr.cell? ⟨b0, 2, none⟩ = some (.slice Ap pv.length cap) := by simp [World.cell?, hS.box]
          have HS := hide hS; clear hS
          have HD := hide hD; clear hD
          obtain ⟨r, hr⟩ : ∃ r, r = pv.length := ⟨_, rfl⟩
          rw [← hr] at hbx2 hrR
          have HR := hide hr; clear hr
          go_upto_block 4 with fail
          go_cut [12, 13] (fun s12 s13 wx => wx = wr ∧ ((s12 = .int .i64 (-1) ∧ ∀ i, r ≤ i → i < k → M i c = 0) ∨ ∃ a : Nat, r ≤ a ∧ a < k ∧ M a c ≠ 0 ∧ s12 = .int .i64 a))
          case first => as_aux_lemma =>
            go_wp2_with fail
            go_loopw [12, 13] (fun s12 s13 wx => wx = wr ∧ ∃ x : Nat, r ≤ x ∧ x ≤ k ∧ s13 = .int .i64 x ∧ ((s12 = .int .i64 (-1) ∧ ∀ i, r ≤ i → i < x → M i c = 0) ∨ ∃ a : Nat, r ≤ a ∧ a < k ∧ M a c ≠ 0 ∧ s12 = .int .i64 a)) (fun s12 s13 _ => k - (intOf s13).toNat)
            case atStart => exact ⟨rfl, r, by omega, hrR, rfl, .inl ⟨rfl, fun i h1 h2 => by omega⟩⟩
            case round => as_aux_lemma =>
              obtain ⟨rfl, x, hx1, hx2, rfl, hfd⟩ := hrel
              by_cases hxk : x < k
              · have hxi : (x : Int) < (k : Int) := by omega
                have hx0 : (0 : Int) ≤ (x : Int) := by omega
                rcases hfd with ⟨rfl, hz⟩ | ⟨a, ha1, ha2, ha3, rfl⟩
                · have hrow := (HS.out.out.cell hxk)
                  have hcell := ((HS.out.row x hxk).cell (show c < L by omega))
                  have hz' := hide hz; clear hz
                  have hcL : (c : Int) < (L : Int) := by omega
                  have hc0 : (0 : Int) ≤ (c : Int) := by omega
                  by_cases h0 : M x c = 0
                  · have h0b : ((M x c : Nat) : Int) = 0 := by omega
                    rw [h0b] at hcell
                    go_wp2_with fail
                    go_round
                    case rel => exact ⟨by first | trivial | rfl, x + 1, by omega, by omega, by go_num, .inl ⟨rfl, fun i h1 h2 => by
                      by_cases e : i = x
                      · rw [e]; exact h0
                      · exact hz'.out i h1 (by omega)⟩⟩
                    case measure => simp [intOf]; omega
                  · have h0b : (((M x c : Nat) : Int) == 0) = false := by simp; omega
                    have h0c : (((M x c : Nat) : Int) != 0) = true := by simp; omega
                    have H0 := hide h0; clear h0
                    go_wp2_with fail
                    go_round
                    case rel => exact ⟨by first | trivial | rfl, x + 1, by omega, by omega, by go_num, .inr ⟨x, hx1, hxk, H0.out, rfl⟩⟩
                    case measure => simp [intOf]; omega
                · have ha0 : ¬ ((a : Int) < 0) := by omega
                  have H3 := hide ha3; clear ha3
                  go_wp2_with fail
                  go_meet
                  exact ⟨rfl, .inr ⟨a, ha1, ha2, H3.out, rfl⟩⟩
              · have hxi : ¬ ((x : Int) < (k : Int)) := by omega
                have HF := hide hfd; clear hfd
                go_wp2_with fail
                go_meet
                refine ⟨rfl, ?_⟩
                rcases HF.out with ⟨rfl, hz⟩ | h
                · exact .inl ⟨rfl, fun i h1 h2 => hz i h1 (by omega)⟩
                · exact .inr h
          case rest => as_aux_lemma =>
            obtain ⟨rfl, hcut⟩ := hcut
            rcases hcut with ⟨rfl, hz⟩ | ⟨a, ha1, ha2, ha3, rfl⟩
            · have hm1 : ((-1 : Int) < 0) := by omega
              have hD' := HD.out.skip hcn (by rw [← HR.out]; exact hz)
              have HN : RL w _ b0 g0 k L c0 p n (c + 1) m0 := ⟨_, _, _, _, pv, _, HS.out, hD'⟩
              clear hz hD'
              go_wp2_with fail
              go_round
              case rel => exact ⟨c + 1, by omega, by go_num, HN⟩
              case measure => simp [intOf]; omega
            · have ha0 : ¬ ((a : Int) < 0) := by omega
              have H3 := hide ha3; clear ha3
              go_upto_if 86 with fail
              go_cut [] (fun wy => ∃ rb cp det, RS w wy w.heap.size b0 g0 k L c0 p rb cp (mswp M a r) (.slice Ap pv.length cap) (pv.map fun x : Nat => (x : Int)) det)
              case first => as_aux_lemma =>
                by_cases har : a = r
                · subst har
                  go_wp2_with fail
                  go_meet
                  rw [mswp_self]
                  exact ⟨_, _, _, HS.out⟩
                · have har1 : ((a : Int) != (r : Int)) = true := by simp; omega
                  have har2 : ((a : Int) == (r : Int)) = false := by simp; omega
                  have hca := HS.out.out.cell ha2
                  have hcr := HS.out.out.cell (show r < k by omega)
                  have hfa := HS.out.out.free a
                  have hfr := HS.out.out.free r
                  have hai : (a : Int) < (k : Int) := by omega
                  have hri : (r : Int) < (k : Int) := by omega
                  go_wp2_with fail
                  have hg0b : g0 ≠ b0 := HS.out.sep0.1
                  have hbf1 : wc.frozen? ⟨b0, 3, none⟩ = false := by simp [World.frozen?, HS.out.box]
                  go_wp2_with fail
                  go_cut [] (fun wy => ∃ rb cp, RS w wy w.heap.size b0 g0 k L c0 p rb cp (mswp M a r) (.slice Ap pv.length cap) (pv.map fun x : Nat => (x : Int)) det)
                  case first => as_aux_lemma =>
                    have hsw := (HS.out.swap a r ha2 (by omega)).dr (Dr.one (Dr.refl _))
                    have hsw2 := hsw.congr (M' := mswp M a r) fun i j _ _ => by
                      unfold mswp
                      by_cases e1 : i = r
                      · rw [if_pos e1]
                        by_cases e2 : i = a
                        · rw [if_pos e2, ← e1, e2]
                        · rw [if_neg e2, if_pos e1]
                      · rw [if_neg e1]
                        by_cases e2 : i = a
                        · rw [if_pos e2, if_pos e2]
                        · rw [if_neg e2, if_neg e2, if_neg e1]
                    have HSW := hide hsw2; clear hsw hsw2
                    go_region
                    go_wp2_with fail
                    go_meet
                    exact ⟨_, _, HSW.out⟩
                  case rest => as_aux_lemma =>
                    obtain ⟨rb1, cp1, hS1⟩ := hcut
                    have hbx3 : wc.cell? ⟨b0, 3, none⟩ = some (.int .u64 (det : Int)) := by simp [World.cell?, hS1.box]
                    have hbf3 : wc.frozen? ⟨b0, 3, none⟩ = false := by simp [World.frozen?, hS1.box]
                    have hng := fun W => neg_any p det W hp.hi hS1.dt
                    have hdl := fneg_lt (show 0 < p by omega) det
                    have HNG := hide hng; clear hng
                    generalize fneg p det = dn at *
                    have HS1 := hide hS1; clear hS1
                    go_wp2_with fail
                    refine (HNG.out _).mono ?_
                    rintro e wn ⟨rfl, rfl⟩
                    go_wp2_with fail
                    go_meet
                    exact ⟨_, _, _, HS1.out.setDet dn hdl⟩
              case rest => as_aux_lemma =>
                obtain ⟨rb1, cp1, det1, hS1⟩ := hcut
                have hrk : r < k := by omega
                have hM1 : mswp M a r r c = M a c := by unfold mswp; by_cases e : r = a <;> simp [e]
                have hx0 : mswp M a r r c ≠ 0 := by rw [hM1]; exact H3.out
                obtain ⟨M1, hM1'⟩ : ∃ M1, M1 = mswp M a r := ⟨_, rfl⟩
                rw [← hM1'] at hS1 hx0
                have HM1 := hide hM1'; clear hM1' hM1
                have hbx1 : wc.cell? ⟨b0, 1, none⟩ = some (.slice (some ⟨g0, 0, none⟩) k c0) := by simp [World.cell?, hS1.box]
                have hbx3 : wc.cell? ⟨b0, 3, none⟩ = some (.int .u64 (det1 : Int)) := by simp [World.cell?, hS1.box]
                have hbf3 : wc.frozen? ⟨b0, 3, none⟩ = false := by simp [World.frozen?, hS1.box]
                have hrow := hS1.out.cell hrk
                have hcell := (hS1.row r hrk).cell (show c < L by omega)
                have hxl := hS1.lt r c hrk (by omega)
                have hiv := fun W => inverse_any p (M1 r c) W hp hxl hx0
                have hml := fun W => mul_any p det1 (M1 r c) W hp hS1.dt hxl
                have hdl := fmul_lt (show 0 < p by omega) det1 (M1 r c)
                have hil := finv_lt (show 0 < p by omega) (M1 r c)
                have HML := hide hml; clear hml
                generalize fmul p det1 (M1 r c) = d2 at *
                obtain ⟨iv, hivv⟩ : ∃ iv, iv = finv p (M1 r c) := ⟨_, rfl⟩
                rw [← hivv] at hil
                simp only [← hivv] at hiv
                have HIV := hide hiv; clear hiv
                have HIVV := hide hivv; clear hivv
                have HX0 := hide hx0; clear hx0
                have HS1 := hide hS1; clear hS1
                have hrki : (r : Int) < (k : Int) := by omega
                have hcL : (c : Int) < (L : Int) := by omega
                obtain ⟨x, hx⟩ : ∃ x, x = M1 r c := ⟨_, rfl⟩
                rw [← hx] at hcell HML HIV
                have HX := hide hx; clear hx
                go_wp2_with fail
                go_cut [] (fun wy => RS w wy w.heap.size b0 g0 k L c0 p rb1 cp1 M1 (.slice Ap pv.length cap) (pv.map fun x : Nat => (x : Int)) d2)
                case first => as_aux_lemma =>
                  refine wp_region_still_tail 19 (by kernel_rfl) (by kernel_rfl) ?_
                  simp only [List.take_succ_cons, List.take_zero, List.drop_succ_cons, List.drop_zero]
                  repeat still_step
                  still_call (HML.out _)
                  repeat still_step
                  refine wpStill_nil ?_
                  change wpList _ _ _ _ _ (World.drew _)
                  go_wp2
                  go_meet
                  exact (HS1.out.dr (Dr.one (Dr.refl _))).setDet d2 hdl
                case rest => as_aux_lemma =>
                  clear HS1 hbx1 hbx3 hbf3 hrow hcell
                  have hS1 := hcut; clear hcut
                  have hbx1 : wc.cell? ⟨b0, 1, none⟩ = some (.slice (some ⟨g0, 0, none⟩) k c0) := by simp [World.cell?, hS1.box]
                  have hrow := hS1.out.cell hrk
                  have hcell := (hS1.row r hrk).cell (show c < L by omega)
                  rw [← HX.out] at hcell
                  have hSc := hS1.scl0 (r := r) (iv := iv)
                  clear hS1
                  have HSC := hide hSc; clear hSc
                  go_wp2_with fail
                  refine (HIV.out _).mono ?_
                  rintro e wn ⟨rfl, rfl⟩
                  go_wp2_with fail
                  go_loopw [164] (fun i wx => ∃ j : Nat, j ≤ L ∧ i = .int .i64 j ∧ RS w wx w.heap.size b0 g0 k L c0 p rb1 cp1 (mscl1 p M1 r iv j) (.slice Ap pv.length cap) (pv.map fun x : Nat => (x : Int)) d2) (fun i _ => L - (intOf i).toNat)
                  case atStart => exact ⟨0, by omega, rfl, HSC.out⟩
                  case round => as_aux_lemma =>
                    clear HSC hbx1 hrow hcell
                    obtain ⟨j, hj, rfl, hS⟩ := hrel
                    have hbx1 : wr.cell? ⟨b0, 1, none⟩ = some (.slice (some ⟨g0, 0, none⟩) k c0) := by simp [World.cell?, hS.box]
                    have hrow := hS.out.cell hrk
                    by_cases hjL : j < L
                    · have hcell := (hS.row r hrk).cell hjL
                      have hfree := (hS.row r hrk).free j
                      have hmj : mscl1 p M1 r iv j r j = M1 r j := by simp [mscl1]
                      rw [hmj] at hcell
                      have hyl : M1 r j < p := by rw [← hmj]; exact hS.lt r j hrk hjL
                      have hml := fun W => mul_any p iv (M1 r j) W hp hil hyl
                      have hS2 := (hS.dr (Dr.one (Dr.refl _))).scl1 (by omega) hrk hjL
                      have HS2 := hide hS2; clear hS2 hS hmj
                      have HML := hide hml; clear hml
                      generalize fmul p iv (M1 r j) = z at *
                      generalize M1 r j = y at *
                      have hjLi : (j : Int) < (L : Int) := by omega
                      go_wp2_with fail
                      refine wp_region_still_tail 13 (by kernel_rfl) (by kernel_rfl) ?_
                      simp only [List.take_succ_cons, List.take_zero, List.drop_succ_cons, List.drop_zero]
                      repeat still_step
                      still_call (HML.out _)
                      repeat still_step
                      refine wpStill_nil ?_
                      change wpList _ _ _ _ _ (World.drew _)
                      go_wp2
                      go_roundw
                      case rel => exact ⟨j + 1, by omega, by go_num, HS2.out⟩
                      case measure => simp [intOf]; omega
                    · obtain rfl : j = L := by omega
                      have hS2 := hS.sclL
                      obtain ⟨M2, hM2'⟩ : ∃ M2, M2 = mscl p M1 r iv := ⟨_, rfl⟩
                      rw [← hM2'] at hS2
                      have HM2 := hide hM2'
                      clear hM2' hS hrow
                      have hE := hS2.el0 (r := r) (c := c)
                      have HS2 := hide hS2; clear hS2
                      have HE := hide hE; clear hE
                      go_wp2_with fail
                      go_loopw [188] (fun i wx => ∃ i' : Nat, i' ≤ k ∧ i = .int .i64 i' ∧ RS w wx w.heap.size b0 g0 k j c0 p rb1 cp1 (melim1 p M2 r c i') (.slice Ap pv.length cap) (pv.map fun x : Nat => (x : Int)) d2) (fun i _ => k - (intOf i).toNat)
                      case atStart => exact ⟨0, by omega, rfl, HE.out⟩
                      case round => as_aux_lemma =>
                        clear HE hbx1
                        have HJ2 : ∀ jj, jj < j → M2 r jj < p := by
                          intro jj hjj
                          exact HS2.out.lt r jj hrk hjj
                        have HJ := hide HJ2
                        clear HS2 HJ2
                        obtain ⟨i, hi, rfl, hS⟩ := hrel
                        have hbx1 : wr.cell? ⟨b0, 1, none⟩ = some (.slice (some ⟨g0, 0, none⟩) k c0) := by simp [World.cell?, hS.box]
                        by_cases hik : i < k
                        · have hrowi := hS.out.cell hik
                          have hcelli := (hS.row i hik).cell (show c < j by omega)
                          have hmi : ∀ jj, melim1 p M2 r c i i jj = M2 i jj := by intro jj; simp [melim1]
                          have hmr : ∀ jj, melim1 p M2 r c i r jj = M2 r jj := by intro jj; unfold melim1; split <;> simp [melim]
                          rw [hmi] at hcelli
                          have hil2 : ∀ jj, jj < j → M2 i jj < p := fun jj hjj => by rw [← hmi]; exact hS.lt i jj hik hjj
                          have HIL := hide hil2; clear hil2 hmi
                          have hiki : (i : Int) < (k : Int) := by omega
                          have hrowr := hS.out.cell hrk
                          have HS := hide hS; clear hS
                          by_cases hir : i = r
                          · have hir1 : ((i : Int) == (r : Int)) = true := by simp; omega
                            have HIR := hide hir; clear hir
                            go_wp2_with fail
                            go_round
                            case rel => exact ⟨i + 1, by omega, by go_num, HS.out.elskip (.inl HIR.out)⟩
                            case measure => simp [intOf]; omega
                          · have hir1 : ((i : Int) == (r : Int)) = false := by simp; omega
                            by_cases h0 : M2 i c = 0
                            · have h0b : ((M2 i c : Nat) : Int) = 0 := by omega
                              rw [h0b] at hcelli
                              have H0 := hide h0; clear h0 h0b
                              have HIR := hide hir; clear hir
                              go_wp2_with fail
                              go_round
                              case rel => exact ⟨i + 1, by omega, by go_num, HS.out.elskip (.inr H0.out)⟩
                              case measure => simp [intOf]; omega
                            · have hf := HIL.out c (by omega)
                              obtain ⟨f, hff⟩ : ∃ f, f = M2 i c := ⟨_, rfl⟩
                              rw [← hff] at hcelli hf
                              have h0c : ((f : Int) == 0) = false := by simp; omega
                              have H0 := hide h0; clear h0
                              have HF := hide hff; clear hff
                              have HE := hide (HS.out.el2_0 (f := f)); clear HS
                              have HIR := hide hir; clear hir
                              go_wp2_with fail
                              go_loopw [215] (fun q wx => ∃ q' : Nat, q' ≤ j ∧ q = .int .i64 q' ∧ RS w wx w.heap.size b0 g0 k j c0 p rb1 cp1 (melim2 p M2 r c i f q') (.slice Ap pv.length cap) (pv.map fun x : Nat => (x : Int)) d2) (fun q _ => j - (intOf q).toNat)
                              case atStart => exact ⟨0, by omega, rfl, HE.out⟩
                              case round => as_aux_lemma =>
                                clear HE hbx1 hrowi hcelli hrowr
                                obtain ⟨q, hq, rfl, hS⟩ := hrel
                                by_cases hqj : q < j
                                · have hc1 := (hS.row r hrk).cell hqj
                                  have hc2 := (hS.row i hik).cell hqj
                                  have hfree := (hS.row i hik).free q
                                  have hm1 : melim2 p M2 r c i f q r q = M2 r q := by
                                    have := HIR.out
                                    unfold melim2; split
                                    · simp [melim]
                                    · rw [if_neg (by omega)]
                                  have hm2 : melim2 p M2 r c i f q i q = M2 i q := by simp [melim2]
                                  rw [hm1] at hc1
                                  rw [hm2] at hc2
                                  have hyl := HJ.out q hqj
                                  have hzl := HIL.out q hqj
                                  have hml := fun W => mul_any p f (M2 r q) W hp hf hyl
                                  have hfl := fmul_lt (show 0 < p by omega) f (M2 r q)
                                  have hsb := fun W => sub_any p (M2 i q) (fmul p f (M2 r q)) W hp hzl hfl
                                  have hS2 := (hS.dr (Dr.one (Dr.refl _))).el2_1 (by omega) hik hqj
                                  have HS2 := hide hS2; clear hS2 hS hm1 hm2
                                  have HML := hide hml; clear hml
                                  have HSB := hide hsb; clear hsb
                                  generalize fsub p (M2 i q) (fmul p f (M2 r q)) = z at HS2 HSB
                                  generalize fmul p f (M2 r q) = y at HML HSB hfl
                                  generalize M2 r q = y1 at hc1 hyl HML
                                  generalize M2 i q = y2 at hc2 hzl HSB
                                  have hqji : (q : Int) < (j : Int) := by omega
                                  go_wp2_with fail
                                  refine wp_region_still_tail 13 (by kernel_rfl) (by kernel_rfl) ?_
                                  simp only [List.take_succ_cons, List.take_zero, List.drop_succ_cons, List.drop_zero]
                                  repeat still_step
                                  still_call (HML.out _)
                                  repeat still_step
                                  still_call (HSB.out _)
                                  repeat still_step
                                  refine wpStill_nil ?_
                                  change wpList _ _ _ _ _ (World.drew _)
                                  go_wp2
                                  go_roundw
                                  case rel => exact ⟨q + 1, by omega, by go_num, HS2.out⟩
                                  case measure => simp [intOf]; omega
                                · obtain rfl : q = j := by omega
                                  have hS2 : RS w wr w.heap.size b0 g0 k q c0 p rb1 cp1 (melim1 p M2 r c (i + 1)) (.slice Ap pv.length cap) (pv.map fun x : Nat => (x : Int)) d2 := by
                                    rw [HF.out] at hS
                                    exact hS.el2_L HIR.out H0.out
                                  have HS2 := hide hS2; clear hS2 hS
                                  go_wp2_with fail
                                  go_round
                                  case rel => exact ⟨i + 1, by omega, by go_num, HS2.out⟩
                                  case measure => simp [intOf]; omega
                        · obtain rfl : i = k := by omega
                          have hS2 := hS.elR
                          have hbx2 : wr.cell? ⟨b0, 2, none⟩ = some (.slice Ap pv.length cap) := by simp [World.cell?, hS.box]
                          have hbf2 : wr.frozen? ⟨b0, 2, none⟩ = false := by simp [World.frozen?, hS.box]
                          have hD2 := HD.out.step hp hcn (by rw [← HR.out]; exact ha1) ha2 (by have := HS.out.lt a c ha2 (by omega); exact this) H3.out iv (by rw [HIVV.out, HM1.out]; unfold mswp; by_cases e : r = a <;> simp [e])
                          rw [← HR.out, ← HM1.out, ← HM2.out] at hD2
                          have HD2 := hide hD2; clear hD2
                          clear hS
                          have hpvl : ((pv.map fun x : Nat => (x : Int)).length + 1) * 8 ≤ 140737488355328 := by have := HR.out; rw [List.length_map]; omega
                          have hO := hS2.piv
                          have hBe := hS2.bel
                          have hB0 := hS2.bel.size
                          have HS2 := hide hS2; clear hS2
                          have HO := hide hO; clear hO
                          have HBE := hide hBe; clear hBe
                          go_wp2_with (at_builtin; refine Ow.append kI (w0 := w) w.heap.size rfl (.tmp 239) (.tmp 241) 25 3 (.int .i64 0) 8 rfl Tryd.underlying25 i64info rfl (.slice Ap pv.length cap) (pv.map fun x : Nat => (x : Int)) [.int .i64 c] (c : Int) rfl rfl HO.out HBE.out hB0 ⟨rfl, by omega, by omega⟩ hpvl (by decide) ?_)
                          intro v1 w3 hO1 hB1 hg1 hat1
                          have hS3 := HS2.out.push hO1 hB1 hg1 hat1
                          have hN : RL w (w3.setCell ⟨b0, 2, none⟩ v1) b0 g0 i _ c0 p n (c + 1) m0 := ⟨_, _, _, _, pv ++ [c], _, by simpa using hS3, HD2.out⟩
                          have hb2 : w3.heap[b0]? = wr.heap[b0]? := hg1.block b0 (Array.getElem?_eq_some_iff.1 HS2.out.box).1 fun e => (HS2.out.psep _ e.symm).2.1 rfl
                          have hbx2' : w3.cell? ⟨b0, 2, none⟩ = some (.slice Ap pv.length cap) := by rw [World.cell?_of_block hb2]; exact hbx2
                          have hbf2' : w3.frozen? ⟨b0, 2, none⟩ = false := by
                            have hb := hb2.trans HS2.out.box
                            simp [World.frozen?, hb]
                          obtain ⟨A1, c1, rfl, _, _⟩ := hO1.slice
                          simp only [List.length_append, List.length_map, List.length_cons, List.length_nil, Nat.zero_add] at hN
                          have HN := hide hN; clear hN hS3 hbx2 hbf2 hb2 hat1 hO1 hB1 hg1
                          go_wp2_with fail
                          go_round
                          case rel => exact ⟨c + 1, by omega, by go_num, HN.out⟩
                          case measure => simp [intOf]; omega
        · obtain rfl : c = n := by omega
          have HN := hide hRD; clear hRD
          go_wp2_with fail
          go_ret
          exact ⟨_, _, _, rfl, HC0.out, by rw [← HM0.out]; exact HN.out⟩
end Pv
