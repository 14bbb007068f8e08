import Derived.Test.YtjokahbkmceocaaDoorZd
import Derived.Test.YtjokahbkmceocaaDoorZb
import Derived.StillTailTactics
import Derived.Test.YtjokahbkmceocaaDoorZa
set_option linter.unusedVariables false
set_option linter.unusedSimpArgs false
namespace Pv
open Go Go.RowKit Go.Proofs

structure DW (p : Nat) (w wr : World) (B : Nat) (e : TypeId) (vb vq vr : Value) (a bl quot rest : List Nat) : Prop where
  ob : Ow kU wr B e vb bl
  oq : Ow kU wr B e vq quot
  or_ : Ow kU wr B e vr rest
  bq : Ap vb vq
  br : Ap vb vr
  rq : Ap vr vq
  bel : Below B w wr
  inv : DInv p a bl quot rest

structure DW2 (p k at_ j : Nat) (w wr : World) (B : Nat) (e : TypeId) (vb vq vr : Value) (bl quot rest : List Nat) : Prop where
  ob : Ow kU wr B e vb bl
  oq : Ow kU wr B e vq quot
  or_ : Ow kU wr B e vr (subN p k at_ bl j rest)
  bel : Below B w wr

set_option maxHeartbeats 1000000 in
set_option maxRecDepth 100000 in
theorem divmod_any (p : Nat) (va vb : Value) (a b : List Nat) (S : Nat → Prop) (w : World) (hp : IsP p) (ha : (kS kU).R w S [va] a) (hb : (kS kU).R w S [vb] b)
    (hap : ∀ y, y ∈ a → y < p) (hbp : ∀ y, y ∈ b → y < p) (hb0 : 0 < (trm b).length) (hal : (a.length + 1) * 8 ≤ 140737488355328) (hbl : b.length * 8 ≤ 140737488355328) :
    Calls Tryd.prog 66 #[.int .u64 p, va, vb] w fun e w' => ∃ vq vr q r, e = .returned (.tuple #[vq, vr, .int .i64 0]) ∧ Ow kU w' w.heap.size 22 vq (trm q) ∧ Ow kU w' w.heap.size 22 vr r ∧
      Bl w w' ∧ DInv p a (trm b) q r ∧ r.length < (trm b).length := by
  obtain ⟨Aa, ca, rfl, ha1, ha2⟩ := kS_len ha
  obtain ⟨Ab, cb, rfl, hb1, hb2⟩ := kS_len hb
  have hlo := hp.lo
  have hbp1 : ∀ y, y ∈ trm b → y < p := fun y hy => hbp y (trm_mem b y hy)
  have hlast := trm_last b hb0
  have hle := trm_len b
  obtain ⟨bl, hbb⟩ : ∃ bl, bl = trm b := ⟨_, rfl⟩
  rw [← hbb] at hbp1 hlast hle hb0
  rw [← hbb]
  have HBB := (show Hid _ from hbb); clear hbb
  go_enter Tryd.func66, Tryd.ntmps66
  go_wp2_with fail
  refine (trim_any _ b S w hb hbl).mono ?_
  rintro e w1 ⟨vb1, rfl, hOb, hB1⟩
  have ha' := (kS kU).kp ha (hB1.kp S)
  clear hb ha hb1 hb2
  rw [← HBB.out] at hOb
  obtain ⟨gb, cb1, rfl, hgb, hgb2⟩ := hOb.form hb0
  obtain ⟨hcb, _, hbz⟩ := hOb.atU (bl.length - 1) (by omega)
  have hbl1 : bl.getD (bl.length - 1) 0 < p := getD_lt hbp1 (by omega)
  have h0 : ((bl.length : Int) == 0) = false := by simp; intro h; simp [h] at hb0
  have hinv := inverse_any p (bl.getD (bl.length - 1) 0) w1 hp hbl1 hlast
  have hfl := finv_lt (show 0 < p by omega) (bl.getD (bl.length - 1) 0)
  have HL := (show Hid _ from hlast); clear hlast
  obtain ⟨y, hy⟩ : ∃ y, y = bl.getD (bl.length - 1) 0 := ⟨_, rfl⟩
  obtain ⟨iv, hz⟩ : ∃ iv, iv = finv p (bl.getD (bl.length - 1) 0) := ⟨_, rfl⟩
  rw [← hz, ← hy] at hinv
  rw [← hz] at hfl
  rw [← hy] at hcb hbl1 hbz
  have HZ := (show Hid _ from hz); clear hz
  have HY := (show Hid _ from hy); clear hy
  go_wp2_with fail
  refine hinv.mono ?_
  clear hinv
  rintro e w1' ⟨rfl, rfl⟩
  go_wp2_with fail
  refine (trim_any _ a S _ ha' (by omega)).mono ?_
  rintro e w2 ⟨vr0, rfl, hOr, hB2⟩
  have hD := DInv.init (show 0 < p by omega) a bl (by omega) hap
  obtain ⟨r0, hrr⟩ : ∃ r0, r0 = trm a := ⟨_, rfl⟩
  rw [← hrr] at hOr hD
  have hrl : r0.length ≤ a.length := by rw [hrr]; exact trm_len a
  have HRR := (show Hid _ from hrr); clear hrr
  obtain ⟨nq, hnq⟩ : ∃ nq, nq = r0.length + 1 - bl.length := ⟨_, rfl⟩
  have HBP := hide hbp1
  clear hap hbp ha' hbp1
  obtain ⟨Ar, cr, rfl, hr1, hr2⟩ := hOr.slice
  rw [← hnq] at hD
  have hcase : ((r0.length : Int) - bl.length + 1 = (nq : Int) ∧ bl.length ≤ r0.length) ∨ (nq = 0 ∧ r0.length + 1 ≤ bl.length) := by omega
  have hnl : nq ≤ a.length := by omega
  have HNQ := (show Hid _ from hnq); clear hnq
  have hgr : Ap (.slice (some ⟨gb, 0, none⟩) bl.length cb1) (.slice Ar r0.length cr) := hOb.ap hOr (Nat.le_refl _)
  have hBw : Below w.heap.size w w2 := Bl.then hB1 hB1.size hB2
  have hOb2 : Ow kU w2 w.heap.size 22 (.slice (some ⟨gb, 0, none⟩) bl.length cb1) bl := hOb.bl hB2
  have hOr2 : Ow kU w2 w.heap.size 22 (.slice Ar r0.length cr) r0 := hOr.mono hB1.size
  clear hOr hcb hOb
  have hbase : w.heap.size ≤ w2.heap.size := hBw.size
  rcases hcase with ⟨hq1, hq2⟩ | ⟨rfl, hq2⟩
  · go_wp2_with (at_make; refine Ow.make kU (w0 := w) w.heap.size rfl _ _ 30 22 (.int .u64 0) 8 rfl Tryd.underlying30 u64info rfl rfl nq rfl rfl (by omega) (by decide) 0 (fun _ _ => ⟨rfl, by omega⟩) hBw hbase ?_)
    intro w3 hOq hB3 hB23
    have hOb3 := hOb2.bl hB23
    have hOr3 := hOr2.bl hB23
    have hbq := hOb2.ap_new 0 none
    have hrq := hOr2.ap_new 0 none
    clear hOb2 hOr2 hB23
    have hDW : DW p w w3 w.heap.size 22 (.slice (some ⟨gb, 0, none⟩) bl.length cb1) (.slice (some ⟨w2.heap.size, 0, none⟩) _ _) (.slice Ar r0.length cr) a bl _ r0 := ⟨hOb3, hOq, hOr3, hbq _ _, hgr, hrq _ _, hB3, hD⟩
    clear hOb3 hOq hOr3 hbq hrq hgr hD hB3
    go_wp2_with fail
    go_loopw [11] (fun vr wr => ∃ quot rest, DW p w wr w.heap.size 22 (.slice (some ⟨gb, 0, none⟩) bl.length cb1) (.slice (some ⟨w2.heap.size, 0, none⟩) _ _) vr a bl quot rest) (fun vr _ => lenV vr)
    case atStart => exact ⟨_, r0, hDW⟩
    case round =>
      clear hDW
      obtain ⟨quot, rest, h⟩ := hrel
      obtain ⟨Ar1, cr1, rfl, hr3, hr4⟩ := h.or_.slice
      by_cases hlt : rest.length < bl.length
      · have hql := h.inv.al
        have hqs : quot.length * 8 ≤ 140737488355328 := by omega
        have hb4 := h.bel
        have hge : ¬ ((bl.length : Int) ≤ rest.length) := by omega
        have H := hide h; clear h
        go_wp2_with fail
        refine (trim_any _ quot Any wr H.out.oq.reads hqs).mono ?_
        rintro e w4 ⟨vq4, rfl, hOq4, hB4⟩
        go_wp2_with fail
        go_ret3
        exact ⟨vq4, _, quot, rest, rfl, hOq4.mono hb4.size, H.out.or_.bl hB4, Bl.then H.out.bel hb4.size hB4, H.out.inv, hlt⟩
      · have hge : (bl.length : Int) ≤ rest.length := by omega
        obtain ⟨at_, hat⟩ : ∃ at_, at_ = rest.length - bl.length := ⟨_, rfl⟩
        have hat2 : (rest.length : Int) - bl.length = (at_ : Int) := by omega
        have hqa : at_ < quot.length := by have := h.inv.ql; omega
        have hqn := h.oq.len_eq
        have hqa2 : at_ < _ := Nat.lt_of_lt_of_eq hqa hqn
        have HQN := hide hqn; clear hqn
        obtain ⟨gr, cr2, hvr, hgr, hgr2⟩ := h.or_.form (by omega)
        injection hvr with hvr1 hvr2 hvr3
        subst hvr1; subst hvr3
        obtain ⟨hc1, _, _⟩ := h.or_.atU (rest.length - 1) (by omega)
        obtain ⟨hc2, hf2, _⟩ := h.oq.atU at_ hqa
        have hlp : rest.getD (rest.length - 1) 0 < p := getD_lt h.inv.ha (by omega)
        obtain ⟨k, hk⟩ : ∃ k, k = fmul p (rest.getD (rest.length - 1) 0) iv := ⟨_, rfl⟩
        have hkp : k < p := by rw [hk]; exact fmul_lt (by omega) _ _
        have hmul := mul_any p (rest.getD (rest.length - 1) 0) iv wr hp hlp hfl
        rw [← hk] at hmul
        have hst := h.oq.storedU at_ hqa k (by have := hp.hi; omega)
        obtain ⟨w4, hw4⟩ : ∃ w4, w4 = wr.setCell ⟨w2.heap.size, at_, none⟩ (.int .u64 (k : Int)) := ⟨_, rfl⟩
        rw [← hw4] at hst
        have hw4' := hw4.symm
        have H := hide h; clear h
        have HK := hide hk; clear hk
        have HAT := hide hat; clear hat
        have HST := hide hst; clear hst
        clear hw4
        generalize hlst : rest.getD (rest.length - 1) 0 = lst at *
        have HLST := hide hlst; clear hlst
        go_wp2_with fail
        refine hmul.mono ?_
        clear hmul
        rintro e w1'' ⟨rfl, rfl⟩
        go_wp2_with fail
        have hI : DW2 p k at_ 0 w w4 w.heap.size 22 (.slice (some ⟨gb, 0, none⟩) bl.length cb1) (.slice (some ⟨w2.heap.size, 0, none⟩) _ _) (.slice (some ⟨gr, 0, none⟩) rest.length cr1) bl (quot.set at_ k) rest :=
          ⟨H.out.ob.keepU HST.out.2 H.out.bq.ne', HST.out.1, H.out.or_.keepU HST.out.2 H.out.rq.ne', H.out.bel.grown HST.out.2 H.out.bel.size (fun g hg => by injection hg with hg; subst hg; exact hbase)⟩
        clear HST hw4'
        go_loopw [68] (fun i wi => ∃ j : Nat, j ≤ bl.length ∧ i = .int .i64 j ∧ DW2 p k at_ j w wi w.heap.size 22 (.slice (some ⟨gb, 0, none⟩) bl.length cb1) (.slice (some ⟨w2.heap.size, 0, none⟩) _ _) (.slice (some ⟨gr, 0, none⟩) rest.length cr1) bl (quot.set at_ k) rest) (fun i _ => bl.length - (intOf i).toNat)
        case atStart => exact ⟨0, by omega, rfl, hI⟩
        case round =>
          clear hI
          obtain ⟨j, hj, rfl, hI⟩ := hrel
          by_cases hjl : j < bl.length
          · obtain ⟨hcb, _, _⟩ := hI.ob.atU j hjl
            obtain ⟨hcr, hfr, _⟩ := hI.or_.atU (at_ + j) (by rw [subN_length]; have := HAT.out; omega)
            have hbj : bl.getD j 0 < p := getD_lt HBP.out hjl
            have hrj : (subN p k at_ bl j rest).getD (at_ + j) 0 < p := getD_lt (subN_lt (by omega) _ _ _ _ H.out.inv.ha j) (by rw [subN_length]; have := HAT.out; omega)
            have hkj := fmul_lt (show 0 < p by omega) k (bl.getD j 0)
            have haj : at_ + j < rest.length := by have := HAT.out; omega
            obtain ⟨nv, hnv⟩ : ∃ nv, nv = fsub p ((subN p k at_ bl j rest).getD (at_ + j) 0) (fmul p k (bl.getD j 0)) := ⟨_, rfl⟩
            have hst := hI.or_.storedU (at_ + j) (by rw [subN_length]; exact haj) nv (by have := fsub_lt (show 0 < p by omega) ((subN p k at_ bl j rest).getD (at_ + j) 0) (fmul p k (bl.getD j 0)); have := hp.hi; omega)
            have hsub := fun W => sub_any p ((subN p k at_ bl j rest).getD (at_ + j) 0) (fmul p k (bl.getD j 0)) W hp hrj hkj
            have hmul := fun W => mul_any p k (bl.getD j 0) W hp hkp hbj
            rw [← hnv] at hsub
            have HI := hide hI; clear hI
            have HST := hide hst; clear hst
            have HNV := hide hnv; clear hnv
            have HSUB := hide hsub; clear hsub
            have HMUL := hide hmul; clear hmul
            generalize hxx : (subN p k at_ bl j rest).getD (at_ + j) 0 = x at *
            have HXX := hide hxx; clear hxx
            have e1 : IntKind.i64.wrap ((at_ : Int) + j) = ((at_ + j : Nat) : Int) := by rw [IntWalk.i64_in _ (by omega)]; omega
            have e2 : (0 : Int) ≤ ((at_ + j : Nat) : Int) := by omega
            have e3 : ((at_ + j : Nat) : Int) < (rest.length : Int) := by omega
            have HAJ := hide haj; clear haj
            generalize haj2 : at_ + j = aj at *
            have HAJ2 := hide haj2; clear haj2
            generalize hzz : bl.getD j 0 = z at *
            have HZZ := hide hzz; clear hzz
            generalize hkz : fmul p k z = kz at *
            have HKZ := hide hkz; clear hkz
            go_wp2_with fail
            refine wp_region_still_tail 17 (by kernel_rfl) (by kernel_rfl) ?_
            simp only [List.take_succ_cons, List.take_zero, List.drop_succ_cons, List.drop_zero]
            repeat still_step
            still_call (HMUL.out _)
            repeat still_step
            still_call (HSUB.out _)
            repeat still_step
            refine wpStill_nil ?_
            change wpList _ _ _ _ _ (World.drew _)
            go_wp2
            go_roundw
            case rel =>
              refine ⟨j + 1, by omega, by go_num, ?_⟩
              have hs : subN p k at_ bl (j + 1) rest = (subN p k at_ bl j rest).set aj nv := by
                rw [subN, HNV.out, HAJ2.out, HXX.out, HZZ.out, HKZ.out]
              have d := Dr.one (Dr.refl (World.setCell wr ⟨gr, aj, none⟩ (.int .u64 (nv : Int))))
              exact ⟨(HI.out.ob.keepU HST.out.2 H.out.br.ne').dr d, (HI.out.oq.keepU HST.out.2 H.out.rq.symm.ne').dr d, by rw [hs]; exact HST.out.1.dr d, Bl.dr (HI.out.bel.grown HST.out.2 HI.out.bel.size (fun g hg => by injection hg with hg; subst hg; exact hgr)) d⟩
            case measure => simp [intOf]; omega
          · have hje : ¬ (j : Int) < bl.length := by omega
            obtain rfl : j = bl.length := by omega
            have HI := hide hI; clear hI
            go_wp2_with fail
            refine (trim_any _ _ Any _ HI.out.or_.reads (by rw [subN_length]; omega)).mono ?_
            rintro e w5 ⟨vr5, rfl, hOr5, hB5⟩
            go_wp2_with fail
            have hD := H.out.inv.step hp hb0 HBP.out HL.out (by omega) k (by rw [HK.out, ← HZ.out, HLST.out])
            rw [← HAT.out] at hD
            go_roundw
            case rel =>
              exact ⟨quot.set at_ k, _, HI.out.ob.bl hB5, HI.out.oq.bl hB5, hOr5.mono HI.out.bel.size, H.out.bq, HI.out.ob.ap hOr5 (Nat.le_refl _), (HI.out.oq.ap hOr5 (Nat.le_refl _)).symm, Bl.then HI.out.bel HI.out.bel.size hB5, hD.1⟩
            case measure =>
              have h1 := hOr5.slice
              obtain ⟨A5, c5, rfl, _⟩ := h1
              exact hD.2
  · go_wp2_with (at_make; refine Ow.make kU (w0 := w) w.heap.size rfl _ _ 30 22 (.int .u64 0) 8 rfl Tryd.underlying30 u64info rfl rfl 0 rfl rfl (by omega) (by decide) 0 (fun _ _ => ⟨rfl, by omega⟩) hBw hbase ?_)
    intro w3 hOq hB3 hB23
    have hOb3 := hOb2.bl hB23
    have hOr3 := hOr2.bl hB23
    have hbq := hOb2.ap_new 0 none
    have hrq := hOr2.ap_new 0 none
    clear hOb2 hOr2 hB23
    have hDW : DW p w w3 w.heap.size 22 (.slice (some ⟨gb, 0, none⟩) bl.length cb1) (.slice (some ⟨w2.heap.size, 0, none⟩) _ _) (.slice Ar r0.length cr) a bl _ r0 := ⟨hOb3, hOq, hOr3, hbq _ _, hgr, hrq _ _, hB3, hD⟩
    clear hOb3 hOq hOr3 hbq hrq hgr hD hB3
    go_wp2_with fail
    go_loopw [11] (fun vr wr => ∃ quot rest, DW p w wr w.heap.size 22 (.slice (some ⟨gb, 0, none⟩) bl.length cb1) (.slice (some ⟨w2.heap.size, 0, none⟩) _ _) vr a bl quot rest) (fun vr _ => lenV vr)
    case atStart => exact ⟨_, r0, hDW⟩
    case round =>
      clear hDW
      obtain ⟨quot, rest, h⟩ := hrel
      obtain ⟨Ar1, cr1, rfl, hr3, hr4⟩ := h.or_.slice
      by_cases hlt : rest.length < bl.length
      · have hql := h.inv.al
        have hqs : quot.length * 8 ≤ 140737488355328 := by omega
        have hb4 := h.bel
        have hge : ¬ ((bl.length : Int) ≤ rest.length) := by omega
        have H := hide h; clear h
        go_wp2_with fail
        refine (trim_any _ quot Any wr H.out.oq.reads hqs).mono ?_
        rintro e w4 ⟨vq4, rfl, hOq4, hB4⟩
        go_wp2_with fail
        go_ret3
        exact ⟨vq4, _, quot, rest, rfl, hOq4.mono hb4.size, H.out.or_.bl hB4, Bl.then H.out.bel hb4.size hB4, H.out.inv, hlt⟩
      · exfalso
        have hqn := h.oq.len_eq
        have hql := h.inv.ql
        omega
end Pv

set_option linter.unusedVariables false
set_option linter.unusedSimpArgs false
namespace Pv
open Go Go.RowKit Go.Proofs

/-! slices.IndexFunc and ContainsFunc at each closure; J: what each call of the closure keeps -/

set_option maxHeartbeats 400000 in
theorem indexf_rect (cp : Value) (J : World → Prop) (pred : List Nat → Bool) (S : Nat → Prop) (v : Value) (xs : List (List Nat)) (w : World) (hw : J w)
    (hr : ∀ w', J w' → (kS (kS kU)).R w' S [v] xs)
    (hc : ∀ w' u x, J w' → x ∈ xs → (kS kU).R w' S [u] x → Calls Tryd.prog 113 #[u, cp] w' fun e w'' => e = .returned (.bool (pred x)) ∧ J w'') :
    Calls Tryd.prog 97 #[v, .func (.func 113) #[] #[cp]] w fun e w' => ∃ i : Int, e = .returned (.int .i64 i) ∧ ((0 ≤ i) ↔ xs.any pred = true) ∧ J w' := by
  obtain ⟨A, c, hv, ⟨hn2, hc2⟩, _⟩ := rd_open rfl (hr w hw)
  subst hv
  have HR := hide hr; clear hr
  have HC := hide hc; clear hc
  have HW := hide hw; clear hw
  go_enter Tryd.func97, Tryd.ntmps97
  go_wp2_with fail
  go_loopw [8] (fun i wr => J wr ∧ ∃ k : Nat, k ≤ xs.length ∧ i = .int .i64 k ∧ (xs.take k).any pred = false) (fun i _ => xs.length - (intOf i).toNat)
  case atStart => exact ⟨HW.out, 0, by omega, rfl, by simp⟩
  case round =>
    obtain ⟨hJ, k, hk, rfl, hno⟩ := hrel
    by_cases hlt : k < xs.length
    · obtain ⟨_, _, e, _, hcell⟩ := rd_open rfl (HR.out wr hJ)
      obtain ⟨ad, u, hA, _, hu, hcell⟩ := hcell k xs[k] (List.getElem?_eq_getElem hlt)
      injection e with e1 e2 e3
      subst e3
      subst e1
      subst hA
      clear e2
      have hcall := HC.out wr u xs[k] hJ (List.getElem_mem hlt) hu
      have hts : (xs.take (k + 1)).any pred = ((xs.take k).any pred || pred xs[k]) := by
        rw [List.take_succ_eq_append_getElem hlt, List.any_append]; simp
      have HTS := hide hts; clear hts
      have HNO := hide hno; clear hno
      have HM : Hid (xs[k] ∈ xs) := List.getElem_mem hlt
      have HU := hide hu; clear hu
      have HJ := hide hJ; clear hJ
      generalize xs[k] = x at *
      cases hp : pred x with
      | true =>
        rw [hp] at hcall
        have HCALL := hide hcall; clear hcall
        go_wp2_with fail
        refine HCALL.out.mono ?_
        rintro e w' ⟨rfl, hJ'⟩
        go_wp2_with fail
        go_ret
        refine ⟨(k : Int), rfl, ?_, hJ'⟩
        constructor
        · intro _; exact List.any_eq_true.2 ⟨x, HM.out, hp⟩
        · intro _; omega
      | false =>
        rw [hp] at hcall
        have HCALL := hide hcall; clear hcall
        go_wp2_with fail
        refine HCALL.out.mono ?_
        rintro e w' ⟨rfl, hJ'⟩
        have HJ' := hide hJ'; clear hJ'
        go_wp2_with fail
        go_roundw
        case rel => exact ⟨HJ'.out, k + 1, by omega, by go_num, by rw [HTS.out, HNO.out, hp]; rfl⟩
        case measure => simp [intOf]; omega
    · have hk2 : k = xs.length := by omega
      subst hk2
      rw [List.take_length] at hno
      have HNO := hide hno; clear hno
      have HJ := hide hJ; clear hJ
      go_wp2_with fail
      go_ret
      refine ⟨-1, rfl, ?_, HJ.out⟩
      rw [HNO.out]; simp

set_option maxHeartbeats 400000 in
theorem containsf_rect (cp : Value) (J : World → Prop) (pred : List Nat → Bool) (S : Nat → Prop) (v : Value) (xs : List (List Nat)) (w : World) (hw : J w)
    (hr : ∀ w', J w' → (kS (kS kU)).R w' S [v] xs)
    (hc : ∀ w' u x, J w' → x ∈ xs → (kS kU).R w' S [u] x → Calls Tryd.prog 113 #[u, cp] w' fun e w'' => e = .returned (.bool (pred x)) ∧ J w'') :
    Calls Tryd.prog 80 #[v, .func (.func 113) #[] #[cp]] w fun e w' => e = .returned (.bool (xs.any pred)) ∧ J w' := by
  have hx := indexf_rect cp J pred S v xs w hw hr hc
  generalize xs.any pred = b at *
  clear hr hc hw
  go_enter Tryd.func80, Tryd.ntmps80
  go_wp2_with fail
  refine hx.mono ?_
  clear hx
  rintro e w' ⟨i, rfl, hi, hJ'⟩
  have HJ' := hide hJ'; clear hJ'
  have HI : decide ((0 : Int) ≤ i) = b := by
    cases b <;> simp_all
  clear hi
  go_wp2_with fail
  go_ret
  exact ⟨rfl, HJ'.out⟩

set_option maxHeartbeats 400000 in
theorem indexf_tape (cp : Value) (J : World → Prop) (pred : List Nat → Bool) (S : Nat → Prop) (v : Value) (xs : List (List Nat)) (w : World) (hw : J w)
    (hr : ∀ w', J w' → (kS (kS kU)).R w' S [v] xs)
    (hc : ∀ w' u x, J w' → x ∈ xs → (kS kU).R w' S [u] x → Calls Tryd.prog 81 #[u, cp] w' fun e w'' => e = .returned (.bool (pred x)) ∧ J w'') :
    Calls Tryd.prog 97 #[v, .func (.func 81) #[] #[cp]] w fun e w' => ∃ i : Int, e = .returned (.int .i64 i) ∧ ((0 ≤ i) ↔ xs.any pred = true) ∧ J w' := by
  obtain ⟨A, c, hv, ⟨hn2, hc2⟩, _⟩ := rd_open rfl (hr w hw)
  subst hv
  have HR := hide hr; clear hr
  have HC := hide hc; clear hc
  have HW := hide hw; clear hw
  go_enter Tryd.func97, Tryd.ntmps97
  go_wp2_with fail
  go_loopw [8] (fun i wr => J wr ∧ ∃ k : Nat, k ≤ xs.length ∧ i = .int .i64 k ∧ (xs.take k).any pred = false) (fun i _ => xs.length - (intOf i).toNat)
  case atStart => exact ⟨HW.out, 0, by omega, rfl, by simp⟩
  case round =>
    obtain ⟨hJ, k, hk, rfl, hno⟩ := hrel
    by_cases hlt : k < xs.length
    · obtain ⟨_, _, e, _, hcell⟩ := rd_open rfl (HR.out wr hJ)
      obtain ⟨ad, u, hA, _, hu, hcell⟩ := hcell k xs[k] (List.getElem?_eq_getElem hlt)
      injection e with e1 e2 e3
      subst e3
      subst e1
      subst hA
      clear e2
      have hcall := HC.out wr u xs[k] hJ (List.getElem_mem hlt) hu
      have hts : (xs.take (k + 1)).any pred = ((xs.take k).any pred || pred xs[k]) := by
        rw [List.take_succ_eq_append_getElem hlt, List.any_append]; simp
      have HTS := hide hts; clear hts
      have HNO := hide hno; clear hno
      have HM : Hid (xs[k] ∈ xs) := List.getElem_mem hlt
      have HU := hide hu; clear hu
      have HJ := hide hJ; clear hJ
      generalize xs[k] = x at *
      cases hp : pred x with
      | true =>
        rw [hp] at hcall
        have HCALL := hide hcall; clear hcall
        go_wp2_with fail
        refine HCALL.out.mono ?_
        rintro e w' ⟨rfl, hJ'⟩
        go_wp2_with fail
        go_ret
        refine ⟨(k : Int), rfl, ?_, hJ'⟩
        constructor
        · intro _; exact List.any_eq_true.2 ⟨x, HM.out, hp⟩
        · intro _; omega
      | false =>
        rw [hp] at hcall
        have HCALL := hide hcall; clear hcall
        go_wp2_with fail
        refine HCALL.out.mono ?_
        rintro e w' ⟨rfl, hJ'⟩
        have HJ' := hide hJ'; clear hJ'
        go_wp2_with fail
        go_roundw
        case rel => exact ⟨HJ'.out, k + 1, by omega, by go_num, by rw [HTS.out, HNO.out, hp]; rfl⟩
        case measure => simp [intOf]; omega
    · have hk2 : k = xs.length := by omega
      subst hk2
      rw [List.take_length] at hno
      have HNO := hide hno; clear hno
      have HJ := hide hJ; clear hJ
      go_wp2_with fail
      go_ret
      refine ⟨-1, rfl, ?_, HJ.out⟩
      rw [HNO.out]; simp

set_option maxHeartbeats 400000 in
theorem containsf_tape (cp : Value) (J : World → Prop) (pred : List Nat → Bool) (S : Nat → Prop) (v : Value) (xs : List (List Nat)) (w : World) (hw : J w)
    (hr : ∀ w', J w' → (kS (kS kU)).R w' S [v] xs)
    (hc : ∀ w' u x, J w' → x ∈ xs → (kS kU).R w' S [u] x → Calls Tryd.prog 81 #[u, cp] w' fun e w'' => e = .returned (.bool (pred x)) ∧ J w'') :
    Calls Tryd.prog 80 #[v, .func (.func 81) #[] #[cp]] w fun e w' => e = .returned (.bool (xs.any pred)) ∧ J w' := by
  have hx := indexf_tape cp J pred S v xs w hw hr hc
  generalize xs.any pred = b at *
  clear hr hc hw
  go_enter Tryd.func80, Tryd.ntmps80
  go_wp2_with fail
  refine hx.mono ?_
  clear hx
  rintro e w' ⟨i, rfl, hi, hJ'⟩
  have HJ' := hide hJ'; clear hJ'
  have HI : decide ((0 : Int) ≤ i) = b := by
    cases b <;> simp_all
  clear hi
  go_wp2_with fail
  go_ret
  exact ⟨rfl, HJ'.out⟩

set_option maxHeartbeats 400000 in
theorem indexf_word (cp : Value) (J : World → Prop) (pred : Nat → Bool) (S : Nat → Prop) (v : Value) (xs : List (Nat)) (w : World) (hw : J w)
    (hr : ∀ w', J w' → (kS (kU)).R w' S [v] xs)
    (hc : ∀ w' u x, J w' → x ∈ xs → (kU).R w' S [u] x → Calls Tryd.prog 83 #[u, cp] w' fun e w'' => e = .returned (.bool (pred x)) ∧ J w'') :
    Calls Tryd.prog 98 #[v, .func (.func 83) #[] #[cp]] w fun e w' => ∃ i : Int, e = .returned (.int .i64 i) ∧ ((0 ≤ i) ↔ xs.any pred = true) ∧ J w' := by
  obtain ⟨A, c, hv, ⟨hn2, hc2⟩, _⟩ := rd_open rfl (hr w hw)
  subst hv
  have HR := hide hr; clear hr
  have HC := hide hc; clear hc
  have HW := hide hw; clear hw
  go_enter Tryd.func98, Tryd.ntmps98
  go_wp2_with fail
  go_loopw [8] (fun i wr => J wr ∧ ∃ k : Nat, k ≤ xs.length ∧ i = .int .i64 k ∧ (xs.take k).any pred = false) (fun i _ => xs.length - (intOf i).toNat)
  case atStart => exact ⟨HW.out, 0, by omega, rfl, by simp⟩
  case round =>
    obtain ⟨hJ, k, hk, rfl, hno⟩ := hrel
    by_cases hlt : k < xs.length
    · obtain ⟨_, _, e, _, hcell⟩ := rd_open rfl (HR.out wr hJ)
      obtain ⟨ad, u, hA, _, hu, hcell⟩ := hcell k xs[k] (List.getElem?_eq_getElem hlt)
      injection e with e1 e2 e3
      subst e3
      subst e1
      subst hA
      clear e2
      have hcall := HC.out wr u xs[k] hJ (List.getElem_mem hlt) hu
      have hts : (xs.take (k + 1)).any pred = ((xs.take k).any pred || pred xs[k]) := by
        rw [List.take_succ_eq_append_getElem hlt, List.any_append]; simp
      have HTS := hide hts; clear hts
      have HNO := hide hno; clear hno
      have HM : Hid (xs[k] ∈ xs) := List.getElem_mem hlt
      have HU := hide hu; clear hu
      have HJ := hide hJ; clear hJ
      generalize xs[k] = x at *
      cases hp : pred x with
      | true =>
        rw [hp] at hcall
        have HCALL := hide hcall; clear hcall
        go_wp2_with fail
        refine HCALL.out.mono ?_
        rintro e w' ⟨rfl, hJ'⟩
        go_wp2_with fail
        go_ret
        refine ⟨(k : Int), rfl, ?_, hJ'⟩
        constructor
        · intro _; exact List.any_eq_true.2 ⟨x, HM.out, hp⟩
        · intro _; omega
      | false =>
        rw [hp] at hcall
        have HCALL := hide hcall; clear hcall
        go_wp2_with fail
        refine HCALL.out.mono ?_
        rintro e w' ⟨rfl, hJ'⟩
        have HJ' := hide hJ'; clear hJ'
        go_wp2_with fail
        go_roundw
        case rel => exact ⟨HJ'.out, k + 1, by omega, by go_num, by rw [HTS.out, HNO.out, hp]; rfl⟩
        case measure => simp [intOf]; omega
    · have hk2 : k = xs.length := by omega
      subst hk2
      rw [List.take_length] at hno
      have HNO := hide hno; clear hno
      have HJ := hide hJ; clear hJ
      go_wp2_with fail
      go_ret
      refine ⟨-1, rfl, ?_, HJ.out⟩
      rw [HNO.out]; simp

set_option maxHeartbeats 400000 in
theorem containsf_word (cp : Value) (J : World → Prop) (pred : Nat → Bool) (S : Nat → Prop) (v : Value) (xs : List (Nat)) (w : World) (hw : J w)
    (hr : ∀ w', J w' → (kS (kU)).R w' S [v] xs)
    (hc : ∀ w' u x, J w' → x ∈ xs → (kU).R w' S [u] x → Calls Tryd.prog 83 #[u, cp] w' fun e w'' => e = .returned (.bool (pred x)) ∧ J w'') :
    Calls Tryd.prog 82 #[v, .func (.func 83) #[] #[cp]] w fun e w' => e = .returned (.bool (xs.any pred)) ∧ J w' := by
  have hx := indexf_word cp J pred S v xs w hw hr hc
  generalize xs.any pred = b at *
  clear hr hc hw
  go_enter Tryd.func82, Tryd.ntmps82
  go_wp2_with fail
  refine hx.mono ?_
  clear hx
  rintro e w' ⟨i, rfl, hi, hJ'⟩
  have HJ' := hide hJ'; clear hJ'
  have HI : decide ((0 : Int) ≤ i) = b := by
    cases b <;> simp_all
  clear hi
  go_wp2_with fail
  go_ret
  exact ⟨rfl, HJ'.out⟩
end Pv

set_option linter.unusedVariables false
set_option linter.unusedSimpArgs false
namespace Pv
open Go Go.RowKit Go.Proofs

def isRect (m : List (List Nat)) : Bool := !(m.any fun r => r.length != (m.headD []).length)

set_option maxHeartbeats 400000 in
theorem rect1_any (cp : Addr) (v u : Value) (m : List (List Nat)) (r : List Nat) (S S' : Nat → Prop) (w : World) (hr : (kS (kS kU)).R w S [v] m) (hm : 0 < m.length) (hcp : w.cell? cp = some v) (hu : (kS kU).R w S' [u] r) :
    Calls Tryd.prog 113 #[u, .pointer (some cp)] w fun e w' => e = .returned (.bool (r.length != (m.headD []).length)) ∧ w' = w := by
  obtain ⟨A, c, rfl, ⟨hn2, hc2⟩, hcell⟩ := rd_open rfl hr
  obtain ⟨ad, u0, rfl, _, hu0, hcell⟩ := hcell 0 m[0] (List.getElem?_eq_getElem hm)
  obtain ⟨A0, c0, rfl, hn0, _⟩ := kS_len hu0
  replace hcell : w.cell? ad = some _ := hcell
  obtain ⟨Ar, cr, rfl, hnr, _⟩ := kS_len hu
  have hh : m.headD [] = m[0] := by cases m with | nil => simp at hm | cons x m => rfl
  rw [hh]
  clear hu hu0 hr
  have e1 : ((r.length : Int) != (m[0].length : Int)) = (r.length != m[0].length) := by
    rw [Bool.eq_iff_iff, bne_iff_ne, bne_iff_ne]; omega
  generalize m[0].length = l0 at *
  generalize r.length = lr at *
  generalize hb : (lr != l0) = b at *
  clear hb
  go_enter Tryd.func113, Tryd.ntmps113
  go_wp2
  go_ret
  exact ⟨by first | rfl | (rw [← e1]; rfl), rfl⟩

set_option maxHeartbeats 400000 in
theorem rect_any (v : Value) (m : List (List Nat)) (S : Nat → Prop) (w : World) (hr : (kS (kS kU)).R w S [v] m) :
    Calls Tryd.prog 105 #[v] w fun e w' => e = .returned (.bool (isRect m)) ∧ Bl w w' := by
  have hlow := (kS (kS kU)).low hr
  have hcell : (w.alloc (.cells #[v] 27)).cell? ⟨w.heap.size, 0, none⟩ = some v := by
    rw [World.cell?_alloc_at _ _ _ _ rfl]; rfl
  have hb0 : Bl w (w.alloc (.cells #[v] 27)) := (Below.refl _ _).alloc (Nat.le_refl _) _
  have hcf := containsf_rect (.pointer (some ⟨w.heap.size, 0, none⟩)) (fun w' => Bl w w' ∧ w'.cell? ⟨w.heap.size, 0, none⟩ = some v) (fun r => r.length != (m.headD []).length) (fun b => b < w.heap.size) v m (w.alloc (.cells #[v] 27)) ⟨hb0, hcell⟩
    (fun w' h => (kS (kS kU)).bl hlow h.1)
    (fun w' u x h hx hu => (rect1_any ⟨w.heap.size, 0, none⟩ v u m x _ _ w' ((kS (kS kU)).bl hlow h.1) (List.length_pos_of_mem hx) h.2 hu).mono fun e w'' ⟨h1, h2⟩ => ⟨h1, by rw [h2]; exact h⟩)
  obtain ⟨A, c, rfl, hn2, hc2⟩ := kS_len hr
  have hv : isRect m = !(m.any fun r => r.length != (m.headD []).length) := rfl
  generalize (m.any fun r => r.length != (m.headD []).length) = b at *
  have HCF := hide hcf; clear hcf hlow hr
  rw [hv]
  clear hv
  go_enter Tryd.func105, Tryd.ntmps105
  go_wp2_with fail
  refine HCF.out.mono ?_
  rintro e w' ⟨rfl, hB, _⟩
  go_wp2_with fail
  go_ret
  exact ⟨rfl, hB⟩

set_option maxHeartbeats 400000 in
theorem cols_any (v : Value) (m : List (List Nat)) (S : Nat → Prop) (w : World) (hr : (kS (kS kU)).R w S [v] m) (hm : 0 < m.length) :
    Calls Tryd.prog 106 #[v] w fun e w' => e = .returned (.int .i64 ((m.headD []).length : Nat)) ∧ w' = w := by
  obtain ⟨A, c, rfl, ⟨hn2, hc2⟩, hcell⟩ := rd_open rfl hr
  obtain ⟨ad, u0, rfl, _, hu0, hcell⟩ := hcell 0 m[0] (List.getElem?_eq_getElem hm)
  obtain ⟨A0, c0, rfl, hn0, _⟩ := kS_len hu0
  replace hcell : w.cell? ad = some _ := hcell
  have hh : m.headD [] = m[0] := by cases m with | nil => simp at hm | cons x m => rfl
  rw [hh]
  clear hu0 hr
  have h0 : ((m.length : Int) == 0) = false := by simp; intro h; simp [h] at hm
  generalize m[0].length = l0 at *
  go_enter Tryd.func106, Tryd.ntmps106
  go_wp2
  go_ret
  exact ⟨rfl, rfl⟩
end Pv
