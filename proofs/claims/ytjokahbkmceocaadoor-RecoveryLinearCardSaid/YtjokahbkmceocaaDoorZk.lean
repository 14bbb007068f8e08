import Derived.Test.YtjokahbkmceocaaDoorZh
import Derived.Test.YtjokahbkmceocaaDoorZb
import Derived.Test.YtjokahbkmceocaaDoorZf
import Derived.Test.YtjokahbkmceocaaDoorZa
set_option linter.unusedVariables false
set_option linter.unusedSimpArgs false
namespace Pv
open Go Go.RowKit Go.Proofs

/-- a literal of one word reads as it -/
theorem lit1 (W : World) (t : TypeId) (x : Nat) (hx : x < 18446744073709551616) : (kS kU).R (W.alloc (.cells #[.int .u64 (x : Int)] t)) (fun b => b = W.heap.size) [.slice (some ⟨W.heap.size, 0, none⟩) 1 1] [x] := by
  refine rdU_mk (xs := [x]) rfl ⟨by omega, by omega⟩ fun j hj => ?_
  obtain rfl : j = 0 := by omega
  refine ⟨_, rfl, rfl, ?_, hx⟩
  show (W.alloc _).cell? ⟨W.heap.size, 0, none⟩ = _
  rw [World.cell?_alloc_at _ _ _ _ rfl]; rfl

/-- what Solve answers -/
def Slv (p n R : Nat) (m : List (List Nat)) (b : List Nat) (v : Value) (xs : List Nat) (code : Nat) (base : Nat) (w' : World) : Prop :=
  (code = 6 ∧ v = .slice none 0 0 ∧ NoSol p n R (fun i j => (m.getD i []).getD j 0) (fun i => b.getD i 0)) ∨
  (code = 0 ∧ Ow kU w' base 22 v xs ∧ xs.length = n ∧ (∀ x, x ∈ xs → x < p) ∧ IsSol p n R (fun i j => (m.getD i []).getD j 0) (fun i => b.getD i 0) (fun j => xs.getD j 0))

set_option maxHeartbeats 4000000 in
set_option maxRecDepth 100000 in
theorem solve_any (p n R : Nat) (va vb : Value) (m : List (List Nat)) (b : List Nat) (S S' : Nat → Prop) (w : World) (hp : IsP p) (hm : (kS (kS kU)).R w S [va] m) (hb : (kS kU).R w S' [vb] b) (hmR : m.length = R) (hbR : b.length = R) (hR0 : 0 < R) (hR : R * 24 ≤ 140737488355328)
    (hn : ∀ i, i < R → (m.getD i []).length = n) (hn8 : (n + 1) * 8 ≤ 140737488355328) (hml : ∀ i j, i < R → j < n → (m.getD i []).getD j 0 < p) (hbl : ∀ i, i < R → b.getD i 0 < p) :
    Calls Tryd.prog 90 #[.int .u64 p, va, vb] w fun e w' => Bl w w' ∧ ∃ v xs code, e = .returned (.tuple #[v, .int .i64 (code : Nat)]) ∧ Slv p n R m b v xs code w.heap.size w' := by
  obtain ⟨A, c, rfl, ⟨hn2, hc2⟩, hrows⟩ := rd_open rfl hm
  obtain ⟨Ab, cb, rfl, ⟨hbn2, hbc2⟩, hbc⟩ := rdU hb
  have hhd : (m.headD []).length = n := by
    have := hn 0 hR0
    cases m with
    | nil => simp at hmR; omega
    | cons x m => simpa using this
  have hrect : isRect m = true := by
    unfold isRect
    rw [Bool.not_eq_true', List.any_eq_false]
    intro x hx
    obtain ⟨i, hi, rfl⟩ := List.getElem_of_mem hx
    have := hn i (by omega)
    rw [List.getD_eq_getElem?_getD, List.getElem?_eq_getElem hi] at this
    have this : (m[i]).length = n := this
    rw [this, hhd]; simp
  have hlm := (kS (kS kU)).low hm
  have hlb := (kS kU).low hb
  have hrc := fun W (h : Bl w W) => rect_any _ m _ W ((kS (kS kU)).bl hlm h)
  have hcl := fun W (h : Bl w W) => cols_any _ m _ W ((kS (kS kU)).bl hlm h) (by omega)
  rw [hrect] at hrc
  rw [hhd] at hcl
  rw [hmR] at hrc hcl hlm hn2 ⊢
  rw [hbR] at hlb hbc hbn2 ⊢
  have HRC := hide hrc; clear hrc
  have HCL := hide hcl; clear hcl
  have HROWS := hide hrows; clear hrows
  have HBC := hide hbc; clear hbc
  have HLM := hide hlm; clear hlm
  have HLB := hide hlb; clear hlb
  have HN := hide hn; clear hn
  have HML := hide hml; clear hml
  have HBL := hide hbl; clear hbl
  have HMR := hide hmR; clear hmR
  have HBR := hide hbR; clear hbR
  clear hm hb hrect hhd
  go_enter Tryd.func90, Tryd.ntmps90
  go_wp2_with fail
  refine (HRC.out _ (Below.refl _ _)).mono ?_
  rintro e w1 ⟨rfl, hB1⟩
  have HB1 := hide hB1; clear hB1
  go_wp2_with fail
  refine (HCL.out _ HB1.out).mono ?_
  rintro e w2 ⟨rfl, rfl⟩
  go_wp2_with fail
  go_loopw [9, 32] (fun vm i wr => ∃ k : Nat, k ≤ R ∧ i = .int .i64 k ∧ Ow (kS kU) wr w.heap.size 30 vm ((aug m b).take k) ∧ Bl w wr) (fun vm i _ => R - (intOf i).toNat)
  case atStart => exact ⟨0, by omega, rfl, Ow.nil _ _ _ _, HB1.out⟩
  case round =>
    obtain ⟨k, hk, rfl, hO, hB⟩ := hrel
    by_cases hkR : k < R
    · obtain ⟨ad, u, rfl, _, hu, hcell⟩ := HROWS.out k _ (List.getElem?_eq_getElem (by rw [HMR.out]; exact hkR))
      obtain ⟨ab, rfl, _, hbk, hby⟩ := HBC.out k hkR
      have hcw : wr.cell? (ad.add k) = some u := cell_bl hB hcell
      have hbw : wr.cell? (ab.add k) = some (.int .u64 (b.getD k 0 : Nat)) := cell_bl hB hbk
      have hrow : m[k]'(by rw [HMR.out]; exact hkR) = m.getD k [] := by rw [List.getD_eq_getElem?_getD, List.getElem?_eq_getElem]; rfl
      rw [hrow] at hu
      have hrl := HN.out k hkR
      have htk := aug_take (by rw [HMR.out, HBR.out]) (show k < m.length by rw [HMR.out]; exact hkR)
      have htl : ((aug m b).take k).length + 1 ≤ R := by rw [List.length_take]; omega
      have hcl := fun W (h : Bl w W) => clone_u64 u (m.getD k []) _ W ((kS kU).bl ((kS kU).low hu) h) (by omega)
      have HCL2 := hide hcl; clear hcl hu hrow hcell
      generalize m.getD k [] = row at htk hrl HCL2
      generalize b.getD k 0 = y at htk hbw hby hbk
      have hki : (k : Int) < (R : Int) := by omega
      have hk0 : (0 : Int) ≤ (k : Int) := by omega
      have HTK := hide htk; clear htk
      have HO := hide hO; clear hO
      have HB := hide hB; clear hB
      generalize (aug m b).take k = done at htl HO HTK
      obtain ⟨Av, cv, rfl, hv1, hv2⟩ := HO.out.slice
      go_wp2_with fail
      have HBW := hide hbw
      have HBK := hide hbk; clear hbk
      have hbd : Bl wr wr.drew := Bl.dr (Below.refl _ _) (Dr.one (Dr.refl _))
      have hbl : ∀ L, Bl wr (wr.drew.alloc L) := fun L => hbd.alloc (Nat.le_refl _) L
      have hwd : Bl w wr.drew := Bl.dr HB.out (Dr.one (Dr.refl _))
      have hsz : w.heap.size ≤ wr.heap.size := HB.out.size
      have hob : ∀ g, (Value.slice Av done.length cv).ownBlock = some g → g < wr.heap.size := fun g hg => (HO.out.base g hg).2
      have HOB := hide hob; clear hob
      have hrl8 : (row.length + 1) * 8 ≤ 140737488355328 := by omega
      have HRL := hide hrl; clear hrl
      have hd24 : (done.length + 1) * 24 ≤ 140737488355328 := by omega
      have hls : ∀ W L, W.heap.size ≤ (World.alloc W L).heap.size := fun W L => by rw [Dr.alloc_heap, Array.size_push]; omega
      have hapL : ∀ {W : World} {v : Value} {xs : List Nat} (h : Ow kU W wr.heap.size 22 v xs), (kS kU).R (W.alloc (.cells #[.int .u64 (y : Int)] 22)) (Ne v.ownBlock) [.slice (some ⟨W.heap.size, 0, none⟩) 1 1] [y] := fun {W v xs} h =>
        (kS kU).sub (litK (W := W) (S := fun _ => False) (us := [.int .u64 (y : Int)]) (K := kU) ⟨rfl, hby⟩ _) fun b _ hb e => by
          rcases hb with hb | rfl
          · exact hb.1
          · have := (h.base _ e.symm).2; omega
      have hapC : ∀ {W : World} {v : Value} {xs : List Nat} (hB : Bl (wr.drew.alloc (.cells #[.int .u64 (y : Int)] 22)) W) (h : Ow kU W (wr.drew.alloc (.cells #[.int .u64 (y : Int)] 22)).heap.size 22 v xs),
          (kS kU).R W (Ne v.ownBlock) [.slice (some ⟨wr.drew.heap.size, 0, none⟩) 1 1] [y] := fun {W v xs} hB h =>
        (kS kU).sub ((kS kU).kp (litK (W := wr.drew) (S := fun _ => False) (us := [.int .u64 (y : Int)]) (K := kU) ⟨rfl, hby⟩ 22) (Bl.kp hB _)) fun b _ hb e => by
          rcases hb with hb | rfl
          · exact hb.1
          · have := (h.base _ e.symm).1
            rw [Dr.alloc_heap, Array.size_push] at this; omega
      have hapO : ∀ {W : World} {A5 : Option Addr} {n5 c5 : Nat} {xs : List Nat} (h : Ow kU W wr.heap.size 22 (.slice A5 n5 c5) xs) (h1 : wr.heap.size ≤ W.heap.size), (kS (kS kU)).R (W.alloc (.cells #[.slice A5 n5 c5] 30)) (Ne (Value.slice Av done.length cv).ownBlock) [.slice (some ⟨W.heap.size, 0, none⟩) 1 1] [xs] := fun {W A5 n5 c5 xs} h h1 =>
        (kS (kS kU)).sub (litK (W := W) (S := fun b => wr.heap.size ≤ b) (us := [.slice A5 n5 c5]) (K := kS kU) (h.readsU _ fun b hb => (h.base b hb).1) _) fun b _ hb e => by
          have hl := HOB.out b e.symm
          rcases hb with hb | rfl
          · have := hb.1; omega
          · omega
      go_region_held3 (fun w' => w'.cell? (ab.add k) = some (.int .u64 (y : Int)))
        (first
          | (go_keep; done)
          | (exact cell_bl hB7 HBK.out)
          | (exact cell_bl hB5 HBW.out)
          | (exact cell_bl (hbd.trans hBc) HBW.out)
          | (exact cell_bl (Bl.then (hbl _) (hls _ _) hBc) HBW.out))
        (first
          | (go_at_call 103; refine (HCL2.out _ (by first | exact hwd | exact hwd.alloc hsz _)).mono ?_; rintro e wc ⟨vc, rfl, hOc, hBc⟩; obtain ⟨Ac, cc, rfl, hc1, hc2⟩ := hOc.slice)
          | (refine Ow.append_step kU (w0 := wr) wr.heap.size rfl (.tmp 39) (.tmp 44) 30 22 (.int .u64 0) 8 rfl Tryd.underlying30 cu64info rfl (.slice Ac row.length cc) _ row [y] rfl rfl ((hOc.bl ((Below.refl _ _).alloc (Nat.le_refl _) _)).mono (Nat.le_refl _)) ((hbd.trans hBc).alloc (hbd.trans hBc).size _) (Nat.le_trans (hbd.trans hBc).size (hls _ _)) (hapL (hOc.mono (Nat.le_refl _))) hrl8 (by decide) ?_; intro v5 w5 hO5 hB5 hg5 hat5; obtain ⟨A5, c5, rfl, hc5, _⟩ := hO5.slice; simp only [List.length_append, List.length_cons, List.length_nil, Nat.zero_add] at hO5)
          | (refine Ow.append_step kU (w0 := wr) wr.heap.size rfl (.tmp 39) (.tmp 44) 30 22 (.int .u64 0) 8 rfl Tryd.underlying30 cu64info rfl (.slice Ac row.length cc) _ row [y] rfl rfl (hOc.mono (hls _ _)) (Bl.then (hbl _) (hls _ _) hBc) (Bl.then (hbl _) (hls _ _) hBc).size (hapC hBc hOc) hrl8 (by decide) ?_; intro v5 w5 hO5 hB5 hg5 hat5; obtain ⟨A5, c5, rfl, hc5, _⟩ := hO5.slice; simp only [List.length_append, List.length_cons, List.length_nil, Nat.zero_add] at hO5)
          | (refine Ow.append_step (kS kU) (w0 := w) w.heap.size rfl (.tmp 37) (.tmp 46) 27 30 (.slice none 0 0) 24 rfl Tryd.underlying27 crowinfo rfl (.slice Av done.length cv) _ done [row ++ [y]] rfl rfl (HO.out.bl (hB5.alloc hB5.size _)) (Bl.then HB.out hsz (hB5.alloc hB5.size _)) (Nat.le_trans hsz (hB5.alloc hB5.size _).size) (hapO hO5 hB5.size) hd24 (by decide) ?_; intro v7 w7 hO7 hB7 hg7 hat7; obtain ⟨A7, c7, rfl, hc7, _⟩ := hO7.slice; simp only [List.length_append, List.length_cons, List.length_nil, Nat.zero_add] at hO7))
      all_goals go_wp2_with fail
      all_goals go_round
      case rel => exact ⟨k + 1, by omega, by go_num, by rw [HTK.out]; exact hO7, hB7⟩
      case rel => exact ⟨k + 1, by omega, by go_num, by rw [HTK.out]; exact hO7, hB7⟩
      all_goals (simp [intOf]; omega)
    · obtain rfl : k = R := by omega
      have hal : (aug m b).length = k := by rw [aug_len (by rw [HMR.out, HBR.out]), HMR.out]
      rw [List.take_of_length_le (by omega)] at hO
      have hbm : b.length = m.length := by rw [HMR.out, HBR.out]
      have hmlen : m.length = k := HMR.out
      obtain ⟨Av, cv, hvm, _⟩ := hO.slice
      rw [hal] at hvm
      subst hvm
      have hred := mreduce_any p (.slice Av k cv) (aug m b) n k (n + 1) Any wr hp hO.reads hal hR0 hR
        (fun i hi => by rw [aug_at hbm (by omega), List.length_append, HN.out i hi]; rfl) (by omega) hn8
        (fun i j hi hj => by
          by_cases e : j < n
          · rw [aug_lo hbm (by omega) (HN.out i hi) e]; exact HML.out i j hi e
          · obtain rfl : j = n := by omega
            rw [aug_hi hbm (by omega) (HN.out i hi)]; exact HBL.out i hi) (by omega)
      have HRED := hide hred; clear hred
      have HO := hide hO; clear hO
      have HB := hide hB; clear hB
      go_wp2_with fail
      refine HRED.out.mono ?_
      rintro e w3 ⟨b0, g0, c0, rfl, hc0, hRL⟩
      obtain ⟨rb, cp, M, vp, pv, det, hS, hD⟩ := hRL
      have hrR := hD.len (by have := hp.lo; omega)
      obtain ⟨Ap, cap, rfl, hpl⟩ := hS.piv.slice
      simp only [List.length_map] at hpl hS
      have hbx1 : w3.cell? ⟨b0, 1, none⟩ = some (.slice (some ⟨g0, 0, none⟩) k c0) := by simp [World.cell?, hS.box]
      have hbx2 : w3.cell? ⟨b0, 2, none⟩ = some (.slice Ap pv.length cap) := by simp [World.cell?, hS.box]
      have hwb : Bl w w3 := Bl.then HB.out HB.out.size hS.bel
      have HS := hide hS; clear hS
      have HD := hide hD; clear hD
      have HWB := hide hwb; clear hwb
      obtain ⟨r, hr⟩ : ∃ r, r = pv.length := ⟨_, rfl⟩
      rw [← hr] at hbx2 hrR
      have HR := hide hr; clear hr
      have hrki : (r : Int) ≤ (k : Int) := by omega
      have hkc0 : (k : Int) ≤ (c0 : Int) := by omega
      go_wp2_with fail
      go_cut [62, 63, 64] (fun s62 s63 s64 wx => ∃ A' c', s62 = .slice A' (k - r) c' ∧ (r < k → A' = some ⟨g0, r, none⟩) ∧ s63 = .int .i64 ((k - r : Nat) : Int) ∧ s64 = .int .i64 0 ∧ Dr w3 wx)
      case first =>
        go_quiet (fail)
        all_goals go_wp2_with fail
        all_goals go_meet
        · exact ⟨_, _, rfl, fun h => by omega, rfl, rfl, ⟨⟨_, rfl⟩⟩⟩
        · exact ⟨_, _, rfl, fun h => rfl, rfl, rfl, ⟨⟨_, rfl⟩⟩⟩
      case rest => as_aux_lemma =>
        obtain ⟨A', c', rfl, hA', rfl, rfl, hdr⟩ := hcut
        have hbw : Bl w3 wc := hdr.below _
        have HBW3 := hide hbw; clear hbw hbx1 hbx2
        have HDR := hide hdr; clear hdr
        go_wp2_with fail
        go_loopw [64] (fun s64 wx => wx = wc ∧ ∃ t : Nat, t ≤ k - r ∧ s64 = .int .i64 t ∧ ∀ t', t' < t → M (r + t') n = 0) (fun s64 _ => k - r - (intOf s64).toNat)
        case atStart => exact ⟨rfl, 0, by omega, rfl, fun t' h => by omega⟩
        case round => as_aux_lemma =>
          obtain ⟨hwr, t, ht, rfl, hz⟩ := hrel
          subst wr
          by_cases htk : t < k - r
          · have hA := hA' (by omega)
            subst hA
            have hrow := HS.out.out.cell (show r + t < k by omega)
            have hcell := (HS.out.row (r + t) (by omega)).cell (show n < n + 1 by omega)
            rw [← HDR.out.cell] at hrow hcell
            have hrow' : wc.cell? (Addr.add ⟨g0, r, none⟩ t) = some (.slice (some ⟨rb (r + t), 0, none⟩) (n + 1) (cp (r + t))) := by
              have e : Addr.add ⟨g0, r, none⟩ t = ⟨g0, r + t, none⟩ := by unfold Addr.add; split <;> simp_all
              rw [e]; exact hrow
            have hti : (t : Int) < ((k - r : Nat) : Int) := by omega
            have ht0 : (0 : Int) ≤ (t : Int) := by omega
            have hni : (n : Int) < ((n : Int) + 1) := by omega
            have hn0 : (0 : Int) ≤ (n : Int) := by omega
            have HZ := hide hz; clear hz
            by_cases h0 : M (r + t) n = 0
            · have h0b : ((M (r + t) n : Nat) : Int) = 0 := by omega
              rw [h0b] at hcell
              have H0 := hide h0; clear h0 h0b
              go_wp2_with fail
              go_round
              case rel => exact ⟨by first | trivial | rfl, t + 1, by omega, by go_num, fun t' h1 => by
                by_cases e : t' = t
                · rw [e]; exact H0.out
                · exact HZ.out t' (by omega)⟩
              case measure => simp [intOf]; omega
            · have h0b : (((M (r + t) n : Nat) : Int) == 0) = false := by simp; omega
              have h0c : (((M (r + t) n : Nat) : Int) != 0) = true := by simp; omega
              have H0 := hide h0; clear h0
              go_wp2_with fail
              go_ret2
              refine ⟨Bl.then HWB.out HWB.out.size HBW3.out, _, [], 6, rfl, .inl ⟨rfl, rfl, ?_⟩⟩
              have hlt := HS.out.lt (r + t) n (by omega) (by omega)
              refine (HD.out.none (i := r + t) (by rw [← HR.out]; omega) (by omega) H0.out hlt).congr (fun i j hi hj => ?_) fun i hi => ?_
              · exact aug_lo hbm (by omega) (HN.out i hi) hj
              · exact aug_hi hbm (by omega) (HN.out i hi)
          · obtain rfl : t = k - r := by omega
            have HZ := hide hz; clear hz
            have hwbc : Bl w wc := Bl.then HWB.out HWB.out.size HBW3.out
            have hws : wc.heap.size ≤ wc.heap.size := Nat.le_refl _
            go_wp2_with (at_make; refine Ow.make kU (w0 := wc) wc.heap.size rfl _ _ 30 22 (.int .u64 0) 8 rfl Tryd.underlying30 cu64info rfl rfl n rfl rfl (by omega) (by decide) 0 (fun _ _ => ⟨rfl, by omega⟩) (Below.refl _ _) hws ?_)
            intro w4 hO4 hB4
            have hB4' := hide hB4; clear hB4
            have hbx1 : w4.cell? ⟨b0, 1, none⟩ = some (.slice (some ⟨g0, 0, none⟩) k c0) := cell_bl hB4'.out (by rw [HDR.out.cell]; simp [World.cell?, HS.out.box])
            have hbx2 : wc.cell? ⟨b0, 2, none⟩ = some (.slice Ap r cap) := by rw [HDR.out.cell, HR.out]; simp [World.cell?, HS.out.box]
            have hbx2' : w4.cell? ⟨b0, 2, none⟩ = some (.slice Ap r cap) := cell_bl hB4'.out hbx2
            clear hbx2
            have hI : Ow kU w4 wc.heap.size 22 (.slice (some ⟨wc.heap.size, 0, none⟩) n n) (List.replicate n 0) ∧ Bl wc w4 ∧ (∀ j, j < n → (List.replicate n 0).getD j 0 = rdoff M n pv 0 j) ∧ ∀ x, x ∈ List.replicate n 0 → x < p := by
              have hlo := hp.lo
              refine ⟨hO4, hB4'.out, fun j hj => ?_, fun x hx => ?_⟩
              · simp [rdoff, List.getD_eq_getElem?_getD, List.getElem?_replicate, hj]
              · rw [(List.mem_replicate.1 hx).2]; omega
            clear hO4
            have HI := hide hI; clear hI
            go_wp2_with fail
            go_loopw [81] (fun s81 wx => ∃ i' : Nat, i' ≤ r ∧ s81 = .int .i64 i' ∧ ∃ xs, Ow kU wx wc.heap.size 22 (.slice (some ⟨wc.heap.size, 0, none⟩) n n) xs ∧ Bl wc wx ∧ (∀ j, j < n → xs.getD j 0 = rdoff M n pv i' j) ∧ ∀ x, x ∈ xs → x < p) (fun s81 _ => r - (intOf s81).toNat)
            case atStart => exact ⟨0, by omega, rfl, _, HI.out⟩
            case round => as_aux_lemma =>
              clear HI hbx1 hbx2'
              obtain ⟨i, hi, rfl, xs, hO, hB, hxs, hxl⟩ := hrel
              have hlen : xs.length = n := hO.len_eq
              by_cases hir : i < r
              · have hbx1 : wr.cell? ⟨b0, 1, none⟩ = some (.slice (some ⟨g0, 0, none⟩) k c0) := cell_bl hB (by rw [HDR.out.cell]; simp [World.cell?, HS.out.box])
                have hik : i < k := by omega
                have hrow := HS.out.out.cell hik
                have hcell := (HS.out.row i hik).cell (show n < n + 1 by omega)
                rw [← HDR.out.cell] at hrow hcell
                have hrow := cell_bl hB hrow
                have hcell := cell_bl hB hcell
                obtain ⟨A9, c9, h9, _, hpc⟩ := rd_open rfl HS.out.piv.reads
                injection h9 with h91 h92 h93
                subst h91; subst h93
                have hpvl : i < pv.length := by rw [← HR.out]; exact hir
                obtain ⟨ap, u, rfl, _, hu, hpc⟩ := hpc i _ (List.getElem?_eq_getElem (by rw [List.length_map]; exact hpvl))
                have hu := hu.1
                simp only [List.cons.injEq, and_true, List.getElem_map] at hu
                subst hu
                have hpn := HD.out.piv_lt (by have := hp.lo; omega) hpvl
                have hgd : pv[i] = pv.getD i 0 := by rw [List.getD_eq_getElem?_getD, List.getElem?_eq_getElem hpvl]; rfl
                rw [hgd, ← HDR.out.cell] at hpc
                have hpc := cell_bl hB hpc
                have hml := HS.out.lt i n hik (by omega)
                have hp64 := hp.hi
                have hst := hO.storedU (pv.getD i 0) (by omega) (M i n) (by omega)
                have hfr := (hO.atU (pv.getD i 0) (by omega)).2.1
                have hcx := (hO.atU (pv.getD i 0) (by omega)).1
                have hB2 := hB.setCell (p := ⟨wc.heap.size, pv.getD i 0, none⟩) (Nat.le_refl _) (.int .u64 (M i n : Nat))
                have hxs2 : ∀ j, j < n → (xs.set (pv.getD i 0) (M i n)).getD j 0 = rdoff M n pv (i + 1) j := fun j hj => by
                  rw [rdoff, List.getD_eq_getElem?_getD, List.getElem?_set]
                  by_cases e : pv.getD i 0 = j
                  · rw [if_pos e, if_pos e.symm, if_pos (by omega)]; rfl
                  · rw [if_neg e, if_neg (fun e' => e e'.symm), ← hxs j hj, List.getD_eq_getElem?_getD]
                have hxl2 : ∀ x, x ∈ xs.set (pv.getD i 0) (M i n) → x < p := fun x hx => by
                  rcases List.mem_or_eq_of_mem_set hx with h | rfl
                  · exact hxl x h
                  · exact hml
                have HST := hide hst.1; clear hst
                have HB2 := hide hB2; clear hB2 hB
                have HXS2 := hide hxs2; clear hxs2 hxs
                have HXL2 := hide hxl2; clear hxl2 hxl hO hgd hlen
                obtain ⟨q, hq⟩ : ∃ q, q = pv.getD i 0 := ⟨_, rfl⟩
                rw [← hq] at hpc hpn hfr hcx HST HB2
                have HQ := hide hq; clear hq
                obtain ⟨z, hz'⟩ : ∃ z, z = M i n := ⟨_, rfl⟩
                rw [← hz'] at hcell hml HST HB2
                have HZ' := hide hz'; clear hz'
                have hqn : (q : Int) < (n : Int) := by omega
                have hq0 : (0 : Int) ≤ (q : Int) := by omega
                have hri : (i : Int) < (r : Int) := by omega
                have hi0 : (0 : Int) ≤ (i : Int) := by omega
                have hki : (i : Int) < (k : Int) := by omega
                have hni : (n : Int) < ((n : Int) + 1) := by omega
                go_wp2_with fail
                go_round
                case rel => exact ⟨i + 1, by omega, by go_num, _, HST.out, HB2.out, by rw [HQ.out, HZ'.out]; exact HXS2.out, by rw [HQ.out, HZ'.out]; exact HXL2.out⟩
                case measure => simp [intOf]; omega
              · obtain rfl : i = r := by omega
                have HO := hide hO; clear hO
                have HB := hide hB; clear hB
                have HXS := hide hxs; clear hxs
                have HXL := hide hxl; clear hxl
                have HLEN := hide hlen; clear hlen
                go_wp2_with fail
                go_ret2
                refine ⟨Bl.then hwbc hwbc.size HB.out, _, xs, 0, rfl, .inr ⟨rfl, HO.out.mono hwbc.size, HLEN.out, HXL.out, ?_⟩⟩
                have hlo := hp.lo
                refine (HD.out.some (by omega) (fun i' h1 h2 => ?_)).congr (fun i' j hi' hj => ?_) (fun i' hi' => ?_) fun j hj => ?_
                · have := HZ.out (i' - i) (by rw [← HR.out] at h1; omega)
                  rw [← HR.out] at h1
                  rwa [show i + (i' - i) = i' by omega] at this
                · exact aug_lo hbm (by omega) (HN.out i' hi') hj
                · exact aug_hi hbm (by omega) (HN.out i' hi')
                · rw [← HR.out]; exact (HXS.out j hj).symm
end Pv
