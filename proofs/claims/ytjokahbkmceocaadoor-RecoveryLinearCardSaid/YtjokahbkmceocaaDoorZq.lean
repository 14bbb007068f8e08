import Derived.Test.YtjokahbkmceocaaDoorZp
import Derived.Test.YtjokahbkmceocaaDoorZe
set_option linter.unusedVariables false
set_option linter.unusedSimpArgs false
namespace Pv
open Go Go.RowKit Go.Proofs

def NsP (p N T secret : Nat) (words : List Nat) (w : World) (e : Ending) (w' : World) : Prop :=
  Bl w w' ∧ ∃ v', e = .returned v' ∧ Ow (kT (kS kU) (fun b => w.heap.size ≤ b)) w' w.heap.size 30 v' ((List.range N).map fun i => rowB p (T + 1) (nsM p T secret words) (i + 1))
theorem share_pre : ∀ T : Nat, T ≤ 5 → ∃ z R M : Nat, wrap64 ((T : Int) * ((T : Int) + 1)) = (z : Int) ∧ Int.tdiv (z : Int) 2 = (R : Int) ∧ wrap64 (R : Int) = (R : Int) ∧ (T : Int) + (R : Int) = (M : Int) ∧ R = T * (T + 1) / 2 ∧ M = T + R ∧ R ≤ 15
  | 0, _ => ⟨0, 0, 0, by unfold wrap64; omega, rfl, by unfold wrap64; omega, rfl, rfl, rfl, by decide⟩
  | 1, _ => ⟨2, 1, 2, by unfold wrap64; omega, rfl, by unfold wrap64; omega, rfl, rfl, rfl, by decide⟩
  | 2, _ => ⟨6, 3, 5, by unfold wrap64; omega, rfl, by unfold wrap64; omega, rfl, rfl, rfl, by decide⟩
  | 3, _ => ⟨12, 6, 9, by unfold wrap64; omega, rfl, by unfold wrap64; omega, rfl, rfl, rfl, by decide⟩
  | 4, _ => ⟨20, 10, 14, by unfold wrap64; omega, rfl, by unfold wrap64; omega, rfl, rfl, rfl, by decide⟩
  | 5, _ => ⟨30, 15, 20, by unfold wrap64; omega, rfl, by unfold wrap64; omega, rfl, rfl, rfl, by decide⟩
  | T + 6, h => absurd h (by omega)
set_option maxHeartbeats 4000000 in
set_option maxRecDepth 100000 in
theorem nshare_any (p N T secret : Nat) (vw : Value) (words : List Nat) (S : Nat → Prop) (w : World) (hp : IsP p) (hT : T ≤ 5) (hN : N ≤ 100) (hNp : N < p) (hs : secret < 18446744073709551616) (hr : (kS kU).R w S [vw] words) :
    Calls Tryd.prog 23 #[.agg #[.int .u64 p, .int .i64 N, .int .i64 T], .int .u64 secret, vw] w fun e w' => NsP p N T secret words w e w' := by
  obtain ⟨Aw, cw, rfl, ⟨hl1, hl2⟩, hcw⟩ := rdU ((kS kU).low hr)
  obtain ⟨m, hm⟩ : ∃ m, m = words.length := ⟨_, rfl⟩
  rw [← hm] at hl1 hcw ⊢
  have hlo := hp.lo
  have hhi := hp.hi
  have hpz : ¬ (p : Int) = 0 := by omega
  have hp0 : 0 < p := by omega
  obtain ⟨z, R, M, e0', e1', e2, e3, hR, hM, hR15⟩ := share_pre T hT
  have e0 : ∀ [Nonempty Unit], wrap64 ((T : Int) * ((T : Int) + 1)) = (z : Int) := e0'
  have e1 : ∀ [Nonempty Unit], Int.tdiv (z : Int) 2 = (R : Int) := e1'
  clear e0' e1'
  have hHR := hide hR; have HM := hide hM; have HMM := hide hm; have HCW := hide hcw
  have hs1 : (secret : Int).tmod (p : Int) = ((secret % p : Nat) : Int) := rfl
  have hs2 : secret % p < p := Nat.mod_lt _ (by omega)
  obtain ⟨z0, hz0⟩ : ∃ z0, z0 = secret % p := ⟨_, rfl⟩
  rw [← hz0] at hs1 hs2
  have HZ0 := hide hz0
  clear hR hM hm hcw hr hz0
  go_enter Tryd.func23, Tryd.ntmps23
  go_wp2_with fail
  obtain ⟨b3, hb3⟩ : ∃ b3, b3 = w.heap.size := ⟨_, rfl⟩
  obtain ⟨W0, hW0⟩ : ∃ W0, W0 = (((w.alloc (.cells #[.int .u64 p, .int .i64 N, .int .i64 T] 24)).alloc (.cells #[.int .u64 z0] 22)).alloc (.cells #[] 22)) := ⟨_, rfl⟩
  rw [← hW0, ← hb3]
  have hs0 : (w.alloc (.cells #[.int .u64 p, .int .i64 N, .int .i64 T] 24)).heap.size = b3 + 1 := by rw [Dr.alloc_heap, Array.size_push, hb3]
  have hs01 : ((w.alloc (.cells #[.int .u64 p, .int .i64 N, .int .i64 T] 24)).alloc (.cells #[.int .u64 z0] 22)).heap.size = b3 + 2 := by rw [Dr.alloc_heap, Array.size_push, hs0]
  have hsz : W0.heap.size = b3 + 3 := by rw [hW0, Dr.alloc_heap, Array.size_push, hs01]
  have h7 : Ow kU W0 (b3 + 1) 22 (.slice (some ⟨b3 + 1, 0, none⟩) 1 1) (nsFirst p T secret words 0) := by
    have e : nsFirst p T secret words 0 = [z0] := by unfold nsFirst; rw [← HZ0.out]; simp
    rw [e]
    refine row_mk rfl (fun x hx => by simp at hx; subst hx; omega) ?_ (by simp [maxLen]) (Nat.le_refl _)
    rw [hW0, Below.heap_alloc _ _ _ (by rw [hs01]; omega), Dr.alloc_heap, Array.getElem?_push, if_pos (by rw [hs0])]
    rfl
  have h8 : Ow kU W0 (b3 + 1) 22 (.slice (some ⟨b3 + 2, 0, none⟩) 0 0) (nsRest p T words 0) := by
    have e : nsRest p T words 0 = [] := by unfold nsRest; simp
    rw [e]
    have := Ow.lit0 kU ((w.alloc (.cells #[.int .u64 p, .int .i64 N, .int .i64 T] 24)).alloc (.cells #[.int .u64 z0] 22)) (b3 + 1) 22 (by rw [hs01]; omega)
    rw [hs01] at this
    rw [hW0]; exact this
  have hBx : ∀ i u, (#[.int .u64 p, .int .i64 N, .int .i64 T] : Array Value)[i]? = some u → W0.cell? ⟨b3, i, none⟩ = some u := fun i u hu => by
    rw [hW0, hb3]
    refine cell_bl ((Below.refl _ _).alloc (Nat.le_refl _) _) (cell_bl ((Below.refl _ _).alloc (Nat.le_refl _) _) ?_)
    rw [World.cell?_alloc_at _ _ _ _ rfl]; exact hu
  have hBw : Bl w W0 := by
    rw [hW0]; exact (((Below.refl _ _).alloc (Nat.le_refl _) _).alloc (by rw [hs0]; omega) _).alloc (by rw [hs01]; omega) _
  have HBX := hide hBx; have HBW := hide hBw; have H7 := hide h7; have H8 := hide h8; have HSZ := hide hsz; have HB3 := hide hb3
  clear hBx hBw h7 h8 hsz hb3 hW0 hs0 hs01
  go_loopw [7, 8, 9] (fun s7 s8 ix wr => ∃ i : Nat, i ≤ M ∧ ix = .int .i64 i ∧ Below (b3 + 1) W0 wr ∧ Ow kU wr (b3 + 1) 22 s7 (nsFirst p T secret words i) ∧ Ow kU wr (b3 + 1) 22 s8 (nsRest p T words i) ∧ Ap s7 s8) (fun _ _ ix _ => M - (intOf ix).toNat)
  case atStart => exact ⟨0, by omega, rfl, Below.refl _ _, H7.out, H8.out, fun g e1 e2 => by
    have e1 : some (b3 + 1) = some g := e1
    have e2 : some (b3 + 2) = some g := e2
    injection e1 with e1; injection e2 with e2; omega⟩
  case round =>
    clear H7 H8
    obtain ⟨i, hi, rfl, hB, h7, h8, hAp⟩ := hrel
    have f0 := (hB.cell (show (⟨b3, 0, none⟩ : Addr).block < b3 + 1 from Nat.lt_succ_self _)).trans (HBX.out 0 _ rfl)
    have f1 := (hB.cell (show (⟨b3, 1, none⟩ : Addr).block < b3 + 1 from Nat.lt_succ_self _)).trans (HBX.out 1 _ rfl)
    have f2 := (hB.cell (show (⟨b3, 2, none⟩ : Addr).block < b3 + 1 from Nat.lt_succ_self _)).trans (HBX.out 2 _ rfl)
    have hBwr : Bl w wr := HBW.out.trans (hB.mono (by have := HB3.out; omega))
    by_cases hiM : i < M
    · as_aux_lemma =>
      have hiMi : (i : Int) < (M : Int) := by omega
      have hi0 : (0 : Int) ≤ (i : Int) := by omega
      obtain ⟨A7, c7, rfl, _, _⟩ := h7.slice
      obtain ⟨A8, c8, rfl, _, _⟩ := h8.slice
      obtain ⟨x, hx⟩ : ∃ x, x = words.getD i 0 % p := ⟨_, rfl⟩
      have hxl : x < p := by rw [hx]; exact Nat.mod_lt _ (by omega)
      have hx64 : x < 18446744073709551616 := by omega
      have hsr : wr.heap.size ≥ b3 + 1 := by have := hB.size; have := HSZ.out; omega
      have HB := hide hB; have H7 := hide h7; have H8 := hide h8; have HAP := hide hAp; have HX := hide hx; have HBWR := hide hBwr; have HSR := hide hsr
      clear hB h7 h8 hAp hx hBwr hsr
      go_upto_if 38 with fail
      go_cut [10] (fun s10 wx => Dr wr wx ∧ s10 = .int .u64 (x : Int))
      case first => as_aux_lemma =>
        by_cases him : i < m
        · have himi : (i : Int) < (m : Int) := by omega
          obtain ⟨ad, rfl, _, hc, _⟩ := HCW.out i him
          have hc := cell_bl HBWR.out hc
          have hxe : ((words.getD i 0 : Nat) : Int).tmod (p : Int) = (x : Int) := by rw [HX.out]; rfl
          obtain ⟨y, hy⟩ : ∃ y, y = words.getD i 0 := ⟨_, rfl⟩
          rw [← hy] at hc hxe
          clear hy
          go_wp2_with fail
          go_quiet (fail)
          go_wp2_with fail
          go_meet
          exact ⟨⟨_, rfl⟩, rfl⟩
        · have himi : ¬ (i : Int) < (m : Int) := by omega
          have hx0 : x = 0 := by
            rw [HX.out, List.getD_eq_getElem?_getD, List.getElem?_eq_none (by rw [← HMM.out]; omega)]; exact Nat.zero_mod _
          have HX0 := hide hx0; clear hx0
          go_wp2_with fail
          go_meet
          exact ⟨Dr.refl _, by rw [HX0.out]; rfl⟩
      case rest => as_aux_lemma =>
        obtain ⟨hD, rfl⟩ := hcut
        have g2 := (hD.cell _).trans f2
        have h7c := H7.out.dr hD
        have h8c := H8.out.dr hD
        have hBc : Below (b3 + 1) W0 wc := Bl.dr HB.out hD
        have hszc : b3 + 1 ≤ wc.heap.size := by rw [hD.heap]; exact HSR.out
        have hl7 : (nsFirst p T secret words i).length ≤ 20 := by simp [nsFirst]; omega
        have hl8 : (nsRest p T words i).length ≤ 20 := by rw [nsRest_len]; omega
        have H7C := hide h7c; have H8C := hide h8c; have HBC := hide hBc; have HSZC := hide hszc
        clear f0 f1 f2 h7c h8c hBc hszc hD H7 H8 HB
        obtain ⟨xs7, hxs7⟩ : ∃ xs7, xs7 = nsFirst p T secret words i := ⟨_, rfl⟩
        obtain ⟨xs8, hxs8⟩ : ∃ xs8, xs8 = nsRest p T words i := ⟨_, rfl⟩
        rw [← hxs7] at H7C hl7 HAP ⊢
        rw [← hxs8] at H8C hl8 HAP ⊢
        have HXS7 := hide hxs7; have HXS8 := hide hxs8
        clear hxs7 hxs8
        have hl78 : (xs7.length + 1) * 8 ≤ 140737488355328 := by omega
        have hl88 : (xs8.length + 1) * 8 ≤ 140737488355328 := by omega
        by_cases hiT : i < T
        · have hiTi : (i : Int) < (T : Int) := by omega
          have HITT := hide hiT; clear hiT
          go_wp2_with (at_builtin; refine Ow.append kU (w0 := W0) (b3 + 1) rfl (.tmp 50) (.tmp 52) 30 22 (.int .u64 0) 8 rfl Tryd.underlying30 cu64info rfl (.slice A7 xs7.length c7) xs7 [.int .u64 x] x rfl rfl H7C.out HBC.out HSZC.out ⟨rfl, hx64⟩ hl78 (by decide) ?_)
          intro v5 w5 hO5 hB5 hg5 hat5
          have h8n := H8C.out.keepU hg5 (HAP.out.symm).ne
          have hapn := HAP.out.step hat5 (fun g hg => (H8C.out.base g hg).2)
          have hO6 : Ow kU w5 (b3 + 1) 22 v5 (nsFirst p T secret words (i + 1)) := by rw [nsFirst_succ HITT.out, ← HXS7.out, ← HX.out]; exact hO5
          have h8m : Ow kU w5 (b3 + 1) 22 (.slice A8 xs8.length c8) (nsRest p T words (i + 1)) := by rw [nsRest_same HITT.out, ← HXS8.out]; exact h8n
          have HO6 := hide hO6; have H8M := hide h8m; have HB5 := hide hB5; have HAPN := hide hapn
          clear hO5 hO6 h8n h8m hB5 hg5 hat5 hapn
          go_wp2_with fail
          go_round
          case rel => exact ⟨i + 1, by omega, by go_num, HB5.out, HO6.out, H8M.out, HAPN.out⟩
          case measure => simp [intOf]; omega
        · have hiTi : ¬ (i : Int) < (T : Int) := by omega
          have HITT := hide hiT; clear hiT
          go_wp2_with (at_builtin; refine Ow.append kU (w0 := W0) (b3 + 1) rfl (.tmp 54) (.tmp 56) 30 22 (.int .u64 0) 8 rfl Tryd.underlying30 cu64info rfl (.slice A8 xs8.length c8) xs8 [.int .u64 x] x rfl rfl H8C.out HBC.out HSZC.out ⟨rfl, hx64⟩ hl88 (by decide) ?_)
          intro v5 w5 hO5 hB5 hg5 hat5
          have h7n := H7C.out.keepU hg5 HAP.out.ne
          have hapn := (HAP.out.symm.step hat5 (fun g hg => (H7C.out.base g hg).2)).symm
          have hO6 : Ow kU w5 (b3 + 1) 22 v5 (nsRest p T words (i + 1)) := by rw [nsRest_succ HITT.out, ← HXS8.out, ← HX.out]; exact hO5
          have h7m : Ow kU w5 (b3 + 1) 22 (.slice A7 xs7.length c7) (nsFirst p T secret words (i + 1)) := by rw [nsFirst_same HITT.out, ← HXS7.out]; exact h7n
          have HO6 := hide hO6; have H7M := hide h7m; have HB5 := hide hB5; have HAPN := hide hapn
          clear hO5 hO6 h7n h7m hB5 hg5 hat5 hapn
          go_wp2_with fail
          go_round
          case rel => exact ⟨i + 1, by omega, by go_num, HB5.out, H7M.out, HO6.out, HAPN.out⟩
          case measure => simp [intOf]; omega
    · as_aux_lemma =>
      have hiM' : i = M := by omega
      subst hiM'
      have hiR : i = T + T * (T + 1) / 2 := by rw [HM.out, hHR.out]
      obtain ⟨v7, hv7⟩ : ∃ v7, v7 = u7 := ⟨_, rfl⟩
      obtain ⟨A7, c7, hs7, _, _⟩ := h7.slice
      obtain ⟨A8, c8, hs8, _, _⟩ := h8.slice
      subst hs7; subst hs8
      have hmat := rmat_any T _ _ _ _ _ _ wr h7.reads h8.reads (nsFirst_len p T secret words (by rw [hiR]; exact Nat.le_add_right _ _)) (by rw [nsRest_len, hiR]; exact Nat.add_sub_cancel_left _ _) hT
      obtain ⟨mt, hmt⟩ : ∃ mt, mt = (List.range (T + 1)).map fun i' => rowU (T + 1) (symE (nsFirst p T secret words i) (nsRest p T words i) T i') := ⟨_, rfl⟩
      have hent : ∀ a b, a < T + 1 → b < T + 1 → ent mt a b = nsM p T secret words a b := fun a b ha hb => by
        unfold ent nsM
        rw [← hiR, hmt]
        have e : ((List.range (T + 1)).map fun i' => rowU (T + 1) (symE (nsFirst p T secret words i) (nsRest p T words i) T i')).getD a [] = rowU (T + 1) (symE (nsFirst p T secret words i) (nsRest p T words i) T a) := by
          rw [List.getD_eq_getElem?_getD]; simp [ha]
        rw [e, rowU_at _ hb]
      have hrowm : ∀ r, r ∈ mt → r.length = T + 1 ∧ ∀ c, c ∈ r → c < p := fun r hr => by
        rw [hmt] at hr
        obtain ⟨a, ha, rfl⟩ := List.mem_map.1 hr
        have ha' := List.mem_range.1 ha
        refine ⟨rowU_len _ _, fun c hc => ?_⟩
        obtain ⟨b, hb, rfl⟩ := List.mem_map.1 hc
        have := hent a b ha' (List.mem_range.1 hb)
        have e := nsM_lt (p := p) (T := T) (secret := secret) hp0 words a b
        unfold nsM at e
        rwa [← hiR] at e
      have hml : mt.length = T + 1 := by rw [hmt]; simp
      have hrowB : ∀ x, rowB p (T + 1) (ent mt) x = rowB p (T + 1) (nsM p T secret words) x := fun x => by
        unfold rowB
        refine List.map_congr_left fun b hb => ?_
        congr 1
        exact List.map_congr_left fun a ha => hent a b (List.mem_range.1 ha) (List.mem_range.1 hb)
      have HMT := hide hmat; have HROWM := hide hrowm; have HML := hide hml; have HROWB := hide hrowB; have HBWR := hide hBwr; have HMTE := hide hmt
      clear hmat hrowm hml hrowB hent hBwr h7 h8 hAp hiR hv7
      go_wp2_with fail
      refine HMT.out.mono ?_
      rintro e w5 ⟨hB5, vm, rfl, hrm⟩
      rw [← HMTE.out] at hrm
      have hB05 : Bl w w5 := Bl.then HBWR.out HBWR.out.size hB5
      have q0 := cell_bl hB5 f0
      have q1 := cell_bl hB5 f1
      obtain ⟨Am, cm, rfl, _, _⟩ := kS_len hrm
      have HRM := hide ((kS (kS kU)).low hrm); have HB05 := hide hB05; have HQ0 := hide q0; have HQ1 := hide q1
      clear hrm hB05 hB5 f0 f1 f2 hB q0 q1
      rw [HML.out]
      go_wp2_with fail
      go_loopw [13, 14] (fun s13 ix wx => ∃ k : Nat, k ≤ N ∧ ix = .int .i64 ((k : Int) + 1) ∧ Bl w5 wx ∧ Ow (kT (kS kU) (fun b => w.heap.size ≤ b)) wx w5.heap.size 30 s13 ((List.range k).map fun i => rowB p (T + 1) (nsM p T secret words) (i + 1))) (fun _ ix _ => N + 1 - (intOf ix).toNat)
      case atStart => exact ⟨0, by omega, rfl, Below.refl _ _, Ow.nil _ _ _ _⟩
      case round =>
        obtain ⟨k, hk, rfl, hBk, hOk⟩ := hrel
        have q0 := cell_bl hBk HQ0.out
        have q1 := cell_bl hBk HQ1.out
        by_cases hkN : k < N
        · as_aux_lemma =>
          have hkNi : (k : Int) + 1 ≤ (N : Int) := by omega
          have hkw : IntKind.u64.wrap ((k : Int) + 1) = ((k + 1 : Nat) : Int) := by rw [IntWalk.u64_in _ (by omega)]; omega
          have hrr := rrow_any p (k + 1) (T + 1) (.slice Am (T + 1) cm) mt _ wr hp (by omega) (by have := HRM.out; rw [HML.out] at this; exact (kS (kS kU)).bl this hBk) HML.out (by omega) HROWM.out
          obtain ⟨A13, c13, hv13, _, _⟩ := hOk.slice
          rw [List.length_map, List.length_range] at hv13
          subst hv13
          rw [show (((k + 1 : Nat)) : Int) = (k : Int) + 1 by omega] at hrr
          have hwk : w.heap.size ≤ wr.heap.size := Nat.le_trans HB05.out.size hBk.size
          have hk24 : (((List.range k).map fun i => rowB p (T + 1) (nsM p T secret words) (i + 1)).length + 1) * 24 ≤ 140737488355328 := by rw [List.length_map, List.length_range]; omega
          have HRR := hide hrr; have HBK := hide hBk; have HOK := hide hOk; have HWK := hide hwk; have HK24 := hide hk24
          clear hrr hBk hOk hwk hk24
          go_wp2_with fail
          refine HRR.out.mono ?_
          rintro e w6 ⟨hB6, vr, rfl, hOr⟩
          rw [HROWB.out] at hOr
          obtain ⟨Ar, cr, rfl, _, _⟩ := hOr.slice
          have hOk6 := HOK.out.bl hB6
          have hB56 := Bl.then HBK.out HBK.out.size hB6
          have hX : (kT (kS kU) (fun b => w.heap.size ≤ b)).R w6 (Ne (Value.slice A13 k c13).ownBlock) [.slice Ar (rowB p (T + 1) (nsM p T secret words) (k + 1)).length cr] (rowB p (T + 1) (nsM p T secret words) (k + 1)) :=
            hOr.readsU (fun b => Ne (Value.slice A13 k c13).ownBlock b ∧ w.heap.size ≤ b) fun b hb => by
              have h1 := (hOr.base b hb).1
              refine ⟨fun e => ?_, Nat.le_trans HWK.out h1⟩
              have := (HOK.out.base b e.symm).2; omega
          rw [rowB_len] at hX ⊢
          have HX := hide hX; have HOK6 := hide hOk6; have HB56 := hide hB56
          clear hX hOk6 hB56 hB6 hOr
          go_wp2_with (at_builtin; refine Ow.append (kT (kS kU) (fun b => w.heap.size ≤ b)) (w0 := w5) w5.heap.size rfl (.tmp 70) (.tmp 77) 44 30 (.slice none 0 0) 24 rfl Tryd.underlying44 crowinfo rfl (.slice A13 k c13) ((List.range k).map fun i => rowB p (T + 1) (nsM p T secret words) (i + 1)) [.slice Ar (T + 1) cr] (rowB p (T + 1) (nsM p T secret words) (k + 1)) rfl rfl HOK6.out HB56.out HB56.out.size HX.out HK24.out (by decide) ?_)
          intro v9 w9 hO9 hB9 _ _
          have hO10 : Ow (kT (kS kU) (fun b => w.heap.size ≤ b)) w9 w5.heap.size 30 v9 ((List.range (k + 1)).map fun i => rowB p (T + 1) (nsM p T secret words) (i + 1)) := by
            rw [List.range_succ, List.map_append]; exact hO9
          have HO10 := hide hO10; have HB9 := hide hB9
          clear hO9 hO10 hB9
          go_wp2_with fail
          go_round
          case rel => exact ⟨k + 1, by omega, by go_num, HB9.out, HO10.out⟩
          case measure => simp [intOf]; omega
        · as_aux_lemma =>
          have hkN' : k = N := by omega
          subst hkN'
          have hkNi : ¬ (k : Int) + 1 ≤ (k : Int) := by omega
          have hfin := (hOk.mono HB05.out.size)
          have hBf := Bl.then HB05.out HB05.out.size hBk
          have HFIN := hide hfin; have HBF := hide hBf
          clear hfin hBf hOk hBk
          go_wp2_with fail
          go_ret
          exact ⟨HBF.out, _, rfl, HFIN.out⟩
end Pv

set_option linter.unusedVariables false
set_option linter.unusedSimpArgs false
namespace Pv
open Go Go.RowKit Go.Proofs

theorem list_eqU {a b : List Nat} (hl : a.length = b.length) (h : ∀ i, i < a.length → a.getD i 0 = b.getD i 0) : a = b := by
  refine List.ext_getElem hl fun i h1 h2 => ?_
  have := h i h1
  simpa [List.getD_eq_getElem?_getD, List.getElem?_eq_getElem h1, List.getElem?_eq_getElem h2] using this
set_option maxHeartbeats 1000000 in
set_option maxRecDepth 10000 in
theorem words_any (va vb : Value) (a b : List Nat) (S S' : Nat → Prop) (w : World) (ha : (kS kU).R w S [va] a) (hb : (kS kU).R w S' [vb] b) :
    Calls Tryd.prog 20 #[va, vb] w fun e w' => e = .returned (.bool (decide (a = b))) ∧ Dr w w' := by
  obtain ⟨Aa, ca, rfl, ⟨ha1, ha2⟩, hca⟩ := rdU ha
  obtain ⟨Ab, cb, rfl, ⟨hb1, hb2⟩, hcb⟩ := rdU hb
  obtain ⟨n, hn⟩ : ∃ n, n = a.length := ⟨_, rfl⟩
  obtain ⟨m, hm⟩ : ∃ m, m = b.length := ⟨_, rfl⟩
  rw [← hn] at ha1 hca ⊢
  rw [← hm] at hb1 hcb ⊢
  clear ha hb
  have HN := hide hn; have HM := hide hm; clear hn hm
  have HCA := hide hca; have HCB := hide hcb; clear hca hcb
  by_cases hnm : n = m
  · subst hnm
    go_enter Tryd.func20, Tryd.ntmps20
    go_wp2_with fail
    go_loopw [5] (fun ix wr => ∃ k : Nat, k ≤ n ∧ ix = .int .i64 k ∧ Dr w wr ∧ ∀ i, i < k → a.getD i 0 = b.getD i 0) (fun ix _ => n - (intOf ix).toNat)
    case atStart => exact ⟨0, by omega, rfl, Dr.refl _, fun i h => by omega⟩
    case round =>
      obtain ⟨k, hk, rfl, hD, hz⟩ := hrel
      have HD := hide hD; have HZ := hide hz; clear hD hz
      by_cases hkn : k < n
      · have hki : (k : Int) < (n : Int) := by omega
        have hk0 : (0 : Int) ≤ (k : Int) := by omega
        obtain ⟨ad, rfl, _, hc1, _⟩ := HCA.out k hkn
        obtain ⟨ad2, rfl, _, hc2, _⟩ := HCB.out k hkn
        rw [← HD.out.cell] at hc1 hc2
        obtain ⟨x, hx⟩ : ∃ x, x = a.getD k 0 := ⟨_, rfl⟩
        obtain ⟨y, hy⟩ : ∃ y, y = b.getD k 0 := ⟨_, rfl⟩
        rw [← hx] at hc1
        rw [← hy] at hc2
        have HX := hide hx; have HY := hide hy; clear hx hy
        by_cases hxy : x = y
        · have e1 : ((x : Int) != (y : Int)) = false := by simp; omega
          have HXY := hide hxy; clear hxy
          go_wp2_with fail
          go_quiet (fail)
          go_wp2_with fail
          go_roundw
          case rel => exact ⟨k + 1, by omega, by go_num, by first | exact HD.out.more _ | exact HD.out.one | exact HD.out, fun i hi => by
            by_cases e : i = k
            · rw [e, ← HX.out, ← HY.out]; exact HXY.out
            · exact HZ.out i (by omega)⟩
          case measure => simp [intOf]; omega
        · have e1 : ((x : Int) != (y : Int)) = true := by simp; omega
          have hne : decide (a = b) = false := decide_eq_false fun e => hxy (by rw [HX.out, HY.out, e])
          have HNE := hide hne; clear hne hxy
          go_wp2_with fail
          go_quiet (fail)
          go_wp2_with fail
          go_ret
          exact ⟨by rw [HNE.out]; rfl, by first | exact HD.out.more _ | exact HD.out.one | exact HD.out⟩
      · have hkn' : k = n := by omega
        have he : decide (a = b) = true := decide_eq_true (list_eqU (by rw [← HN.out, ← HM.out]) fun i hi => HZ.out i (by rw [hkn', HN.out]; exact hi))
        have HE := hide he; clear he
        go_wp2_with fail
        go_ret
        exact ⟨by rw [HE.out]; rfl, HD.out⟩
  · have e1 : ((n : Int) != (m : Int)) = true := by simp; omega
    have hne : decide (a = b) = false := decide_eq_false fun e => hnm (by rw [HN.out, HM.out, e])
    have HNE := hide hne; clear hne hnm
    go_enter Tryd.func20, Tryd.ntmps20
    go_wp2_with fail
    go_ret
    exact ⟨by rw [HNE.out]; rfl, Dr.refl _⟩
theorem list_eqL {a b : List (List Nat)} (hl : a.length = b.length) (h : ∀ i, i < a.length → a.getD i [] = b.getD i []) : a = b := by
  refine List.ext_getElem hl fun i h1 h2 => ?_
  have := h i h1
  simpa [List.getD_eq_getElem?_getD, List.getElem?_eq_getElem h1, List.getElem?_eq_getElem h2] using this
set_option maxHeartbeats 1000000 in
set_option maxRecDepth 10000 in
theorem lists_any (va vb : Value) (a b : List (List Nat)) (S S' : Nat → Prop) (w : World) (ha : (kS (kS kU)).R w S [va] a) (hb : (kS (kS kU)).R w S' [vb] b) :
    Calls Tryd.prog 25 #[va, vb] w fun e w' => e = .returned (.bool (decide (a = b))) ∧ Dr w w' := by
  obtain ⟨Aa, ca, rfl, ⟨ha1, ha2⟩, hca⟩ := rd_open rfl ha
  obtain ⟨Ab, cb, rfl, ⟨hb1, hb2⟩, hcb⟩ := rd_open rfl hb
  obtain ⟨n, hn⟩ : ∃ n, n = a.length := ⟨_, rfl⟩
  obtain ⟨m, hm⟩ : ∃ m, m = b.length := ⟨_, rfl⟩
  rw [← hn] at ha1 ⊢
  rw [← hm] at hb1 ⊢
  clear ha hb
  have hca' : ∀ k, k < n → ∃ ad u, Aa = some ad ∧ (kS kU).R w S [u] (a.getD k []) ∧ w.cell? (ad.add k) = some u := fun k hk => by
    obtain ⟨ad, u, h1, _, h2, h3⟩ := hca k (a.getD k []) (by rw [List.getD_eq_getElem?_getD, List.getElem?_eq_getElem (by omega)]; rfl)
    exact ⟨ad, u, h1, h2, h3⟩
  have hcb' : ∀ k, k < m → ∃ ad u, Ab = some ad ∧ (kS kU).R w S' [u] (b.getD k []) ∧ w.cell? (ad.add k) = some u := fun k hk => by
    obtain ⟨ad, u, h1, _, h2, h3⟩ := hcb k (b.getD k []) (by rw [List.getD_eq_getElem?_getD, List.getElem?_eq_getElem (by omega)]; rfl)
    exact ⟨ad, u, h1, h2, h3⟩
  have HN := hide hn; have HM := hide hm; clear hn hm
  have HCA := hide hca'; have HCB := hide hcb'; clear hca hcb hca' hcb'
  by_cases hnm : n = m
  · subst hnm
    go_enter Tryd.func25, Tryd.ntmps25
    go_wp2_with fail
    go_loopw [5] (fun ix wr => ∃ k : Nat, k ≤ n ∧ ix = .int .i64 k ∧ Dr w wr ∧ ∀ i, i < k → a.getD i [] = b.getD i []) (fun ix _ => n - (intOf ix).toNat)
    case atStart => exact ⟨0, by omega, rfl, Dr.refl _, fun i h => by omega⟩
    case round =>
      obtain ⟨k, hk, rfl, hD, hz⟩ := hrel
      have HD := hide hD; have HZ := hide hz; clear hD hz
      by_cases hkn : k < n
      · have hki : (k : Int) < (n : Int) := by omega
        have hk0 : (0 : Int) ≤ (k : Int) := by omega
        obtain ⟨ad, u1, rfl, hu1, hc1⟩ := HCA.out k hkn
        obtain ⟨ad2, u2, rfl, hu2, hc2⟩ := HCB.out k hkn
        rw [← HD.out.cell] at hc1 hc2
        obtain ⟨x, hx⟩ : ∃ x, x = a.getD k [] := ⟨_, rfl⟩
        obtain ⟨y, hy⟩ : ∃ y, y = b.getD k [] := ⟨_, rfl⟩
        rw [← hx] at hu1
        rw [← hy] at hu2
        have hW := fun n => words_any u1 u2 x y S S' (wr.drewN n) ((kS kU).kp hu1 ((HD.out.more n).kp _)) ((kS kU).kp hu2 ((HD.out.more n).kp _))
        have HX := hide hx; have HY := hide hy; clear hx hy hu1 hu2
        by_cases hxy : x = y
        · rw [decide_eq_true hxy] at hW
          have HW := hide hW; clear hW
          have HXY := hide hxy; clear hxy
          go_wp2_with fail
          go_quiet ((first | (go_at_call 20; exact Dr.quiet (HW.out _))))
          go_wp2_with fail
          go_roundw
          case rel => exact ⟨k + 1, by omega, by go_num, by first | exact HD.out.more _ | exact HD.out.one | exact HD.out, fun i hi => by
            by_cases e : i = k
            · rw [e, ← HX.out, ← HY.out]; exact HXY.out
            · exact HZ.out i (by omega)⟩
          case measure => simp [intOf]; omega
        · rw [decide_eq_false hxy] at hW
          have HW := hide hW; clear hW
          have hne : decide (a = b) = false := decide_eq_false fun e => hxy (by rw [HX.out, HY.out, e])
          have HNE := hide hne; clear hne hxy
          go_wp2_with fail
          go_quiet ((first | (go_at_call 20; exact Dr.quiet (HW.out _))))
          go_wp2_with fail
          go_ret
          exact ⟨by rw [HNE.out]; rfl, by first | exact HD.out.more _ | exact HD.out.one | exact HD.out⟩
      · have hkn' : k = n := by omega
        have he : decide (a = b) = true := decide_eq_true (list_eqL (by rw [← HN.out, ← HM.out]) fun i hi => HZ.out i (by rw [hkn', HN.out]; exact hi))
        have HE := hide he; clear he
        go_wp2_with fail
        go_ret
        exact ⟨by rw [HE.out]; rfl, HD.out⟩
  · have e1 : ((n : Int) != (m : Int)) = true := by simp; omega
    have hne : decide (a = b) = false := decide_eq_false fun e => hnm (by rw [HN.out, HM.out, e])
    have HNE := hide hne; clear hne hnm
    go_enter Tryd.func25, Tryd.ntmps25
    go_wp2_with fail
    go_ret
    exact ⟨by rw [HNE.out]; rfl, Dr.refl _⟩

set_option maxHeartbeats 1000000 in
set_option maxRecDepth 10000 in
theorem rbelow_any (p : Nat) (v : Value) (l : List Nat) (S : Nat → Prop) (w : World) (hr : (kS kU).R w S [v] l) :
    Calls Tryd.prog 74 #[.int .u64 p, v] w fun e w' => e = .returned (.bool (!(l.any fun x => decide (p ≤ x)))) ∧ w' = w := by
  obtain ⟨A, c, rfl, ⟨hl1, hl2⟩, hc⟩ := rdU hr
  obtain ⟨n, hn⟩ : ∃ n, n = l.length := ⟨_, rfl⟩
  rw [← hn] at hl1 hc ⊢
  have HN := hide hn; clear hn hr
  have HC := hide hc; clear hc
  go_enter Tryd.func74, Tryd.ntmps74
  go_wp2_with fail
  go_loopw [5] (fun ix wr => wr = w ∧ ∃ k : Nat, k ≤ n ∧ ix = .int .i64 k ∧ ∀ i, i < k → l.getD i 0 < p) (fun ix _ => n - (intOf ix).toNat)
  case atStart => exact ⟨rfl, 0, by omega, rfl, fun i h => by omega⟩
  case round =>
    obtain ⟨rfl, k, hk, rfl, hz⟩ := hrel
    have HZ := hide hz; clear hz
    by_cases hkn : k < n
    · have hki : (k : Int) < (n : Int) := by omega
      have hk0 : (0 : Int) ≤ (k : Int) := by omega
      obtain ⟨ad, rfl, _, hc1, _⟩ := HC.out k hkn
      have hmem : l.getD k 0 ∈ l := by rw [List.getD_eq_getElem?_getD, List.getElem?_eq_getElem (by rw [← HN.out]; exact hkn)]; exact List.getElem_mem _
      have HMEM := hide hmem; clear hmem
      obtain ⟨x, hx⟩ : ∃ x, x = l.getD k 0 := ⟨_, rfl⟩
      rw [← hx] at hc1 HMEM
      have HX := hide hx; clear hx
      by_cases hxp : p ≤ x
      · have e1 : (p : Int) ≤ (x : Int) := by omega
        have hv : (!(l.any fun x => decide (p ≤ x))) = false := by rw [List.any_eq_true.2 ⟨x, HMEM.out, decide_eq_true hxp⟩]; rfl
        have HV := hide hv; clear hv
        go_wp2_with fail
        go_ret
        exact ⟨by rw [HV.out]; rfl, rfl⟩
      · have e1 : ¬ (p : Int) ≤ (x : Int) := by omega
        have HP := hide hxp; clear hxp
        go_wp2_with fail
        go_round
        case rel => exact ⟨by first | trivial | rfl, k + 1, by omega, by go_num, fun i hi => by
          by_cases e : i = k
          · rw [e, ← HX.out]; have := HP.out; omega
          · exact HZ.out i (by omega)⟩
        case measure => simp [intOf]; omega
    · have hkn' : k = n := by omega
      have hv : (!(l.any fun x => decide (p ≤ x))) = true := by
        cases h : l.any fun x => decide (p ≤ x) with
        | false => rfl
        | true =>
          exfalso
          obtain ⟨x, hx1, hx2⟩ := List.any_eq_true.1 h
          obtain ⟨j, hj, rfl⟩ := List.getElem_of_mem hx1
          have h1 := HZ.out j (by rw [hkn', HN.out]; exact hj)
          rw [List.getD_eq_getElem?_getD, List.getElem?_eq_getElem hj] at h1
          have h2 := of_decide_eq_true hx2
          have h1 : l[j] < p := h1
          omega
      have HV := hide hv; clear hv
      go_wp2_with fail
      go_ret
      exact ⟨by rw [HV.out]; rfl, rfl⟩
/-- whether a party is honest -/
def HonP (corrupt : List Int) (i : Int) (w : World) (e : Ending) (w' : World) : Prop := e = .returned (.bool (!decide (i ∈ corrupt))) ∧ Bl w w'
set_option maxHeartbeats 1000000 in
set_option maxRecDepth 10000 in
theorem honest_any (p : Nat) (n t : Int) (vc vd vt : Value) (corrupt : List Int) (i : Int) (S : Nat → Prop) (w : World) (hc : (kS kI).R w S [vc] corrupt) :
    Calls Tryd.prog 33 #[scVal p n t vc vd vt, .int .i64 i] w fun e w' => HonP corrupt i w e w' := by
  have hlow := (kS kI).low hc
  obtain ⟨A, c, rfl, ⟨hl1, hl2⟩, hcc⟩ := rdI hlow
  obtain ⟨m, hm⟩ : ∃ m, m = corrupt.length := ⟨_, rfl⟩
  rw [← hm] at hl1 hcc ⊢
  have HM := hide hm; clear hm hc hlow
  have HC := hide hcc; clear hcc
  simp only [scVal]
  obtain ⟨W, hW⟩ : ∃ W, W = w.alloc (.cells #[.int .u64 p, .int .i64 n, .int .i64 t, .slice A m c, vd, vt] 29) := ⟨_, rfl⟩
  have hB : Bl w W := by rw [hW]; exact (Below.refl _ _).alloc (Nat.le_refl _) _
  have c3 : W.cell? ⟨w.heap.size, 3, none⟩ = some (.slice A m c) := by rw [hW, World.cell?_alloc_at _ _ _ _ rfl]; rfl
  have HB := hide hB; have HW := hide hW; clear hB hW
  go_enter Tryd.func33, Tryd.ntmps33
  go_wp2_with fail
  rw [← HW.out]
  go_loopw [4, 5] (fun s4 ix wr => wr = W ∧ ∃ k : Nat, k ≤ m ∧ ix = .int .i64 k ∧ ∀ j, j < k → corrupt.getD j 0 ≠ i) (fun _ ix _ => m - (intOf ix).toNat)
  case atStart => exact ⟨rfl, 0, by omega, rfl, fun j h => by omega⟩
  case round =>
    obtain ⟨rfl, k, hk, rfl, hz⟩ := hrel
    have HZ := hide hz; clear hz
    by_cases hkm : k < m
    · have hki : (k : Int) < (m : Int) := by omega
      have hk0 : (0 : Int) ≤ (k : Int) := by omega
      obtain ⟨ad, rfl, _, hc1⟩ := HC.out k hkm
      have hc1 := cell_bl HB.out hc1
      have hmem : corrupt.getD k 0 ∈ corrupt := by rw [List.getD_eq_getElem?_getD, List.getElem?_eq_getElem (by rw [← HM.out]; exact hkm)]; exact List.getElem_mem _
      have HMEM := hide hmem; clear hmem
      obtain ⟨x, hx⟩ : ∃ x, x = corrupt.getD k 0 := ⟨_, rfl⟩
      rw [← hx] at hc1 HMEM
      have HX := hide hx; clear hx
      by_cases hxi : x = i
      · have e1 : (x == i) = true := by simpa using hxi
        have hv : (!decide (i ∈ corrupt)) = false := by rw [← hxi, decide_eq_true HMEM.out]; rfl
        have HV := hide hv; clear hv hxi
        go_wp2_with fail
        go_ret
        exact ⟨by rw [HV.out]; rfl, HB.out⟩
      · have e1 : (x == i) = false := by simpa using hxi
        have HXI := hide hxi; clear hxi
        go_wp2_with fail
        go_round
        case rel => exact ⟨by first | trivial | rfl, k + 1, by omega, by go_num, fun j hj => by
          by_cases e : j = k
          · rw [e, ← HX.out]; exact HXI.out
          · exact HZ.out j (by omega)⟩
        case measure => simp [intOf]; omega
    · have hkm' : k = m := by omega
      have hv : (!decide (i ∈ corrupt)) = true := by
        rw [decide_eq_false fun h => ?_]; rfl
        obtain ⟨j, hj, e⟩ := List.getElem_of_mem h
        refine HZ.out j (by rw [hkm', HM.out]; exact hj) ?_
        rw [List.getD_eq_getElem?_getD, List.getElem?_eq_getElem hj]; exact e
      have HV := hide hv; clear hv
      go_wp2_with fail
      go_ret
      exact ⟨by rw [HV.out]; rfl, HB.out⟩
end Pv
