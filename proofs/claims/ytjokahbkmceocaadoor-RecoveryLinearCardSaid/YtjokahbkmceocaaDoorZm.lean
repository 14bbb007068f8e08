import Derived.Test.YtjokahbkmceocaaDoorZi
import Derived.Test.YtjokahbkmceocaaDoorZg
import Derived.Test.YtjokahbkmceocaaDoorZl
import Derived.Test.YtjokahbkmceocaaDoorZd
set_option linter.unusedVariables false
set_option linter.unusedSimpArgs false
namespace Pv
open Go Go.RowKit Go.Proofs

theorem filt_x {who n : Nat} (h1 : 1 ≤ who) (h2 : who ≤ n) : (List.range n).filter (fun i => decide (i + 1 ≠ who)) = (List.range (n - 1)).map (xIdx who) := by
  obtain ⟨d, rfl⟩ : ∃ d, n = who + d := ⟨n - who, by omega⟩
  clear h2
  induction d with
  | zero =>
    obtain ⟨q, rfl⟩ : ∃ q, who = q + 1 := ⟨who - 1, by omega⟩
    rw [Nat.add_zero, List.range_succ, List.filter_append, Nat.add_sub_cancel]
    have e1 : (List.range q).filter (fun i => decide (i + 1 ≠ q + 1)) = List.range q := List.filter_eq_self.2 fun i hi => by have := List.mem_range.1 hi; simp; omega
    have e2 : (List.range q).map (xIdx (q + 1)) = List.range q := by
      conv => rhs; rw [← List.map_id (List.range q)]
      exact List.map_congr_left fun i hi => by have := List.mem_range.1 hi; unfold xIdx; rw [if_pos (by omega)]; rfl
    rw [e1, e2]; simp
  | succ d ih =>
    rw [← Nat.add_assoc, List.range_succ, List.filter_append, ih, show who + d + 1 - 1 = who + d - 1 + 1 by omega, List.range_succ, List.map_append]
    congr 1
    have : xIdx who (who + d - 1) = who + d := by unfold xIdx; rw [if_neg (by omega)]; omega
    simp [this]; omega

/-- the rows of sharing k -/
def rw2 (L : List (List (List Nat))) (k i : Nat) : List Nat := (L.getD k []).getD i []
/-- what RecoverRows answers -/
def RcvP (w : World) (B0 : Nat) (F : Nat → Prop) (nb : Nat) (sc : Sc) (vt vtp : Value) (round who K : Nat) (L : List (List (List Nat))) (V : Nat → List Ev) (e : Ending) (w' : World) : Prop :=
  Fp F w w' ∧ ∃ (F' : Nat → Prop) (v' : Value), e = .returned v' ∧ (∀ b, F' b → b < w'.heap.size ∧ (F b ∨ w.heap.size ≤ b)) ∧
    NetR w' B0 F' nb sc vt vtp (if K = 0 then round else round + 1) (if K = 0 then V else sendV round sc.n sc.n (applyM sc.p sc.corrupt round sc.devs (recOut sc.p who K (rw2 L))) V) ∧
    (kS (kS kU)).R w' (fun b => ¬ F' b ∧ w.heap.size ≤ b) [v'] ((List.range K).map (recRow sc.p sc.n sc.t who K (fun i => applyM sc.p sc.corrupt round sc.devs (recOut sc.p who K (rw2 L)) i (who - 1))))
theorem row_read {W : World} {S : Nat → Prop} {rb n who : Nat} {t : TypeId} {vE : Value} {msg : List Nat} (h : RowAt W rb t n (fun j => if j + 1 = who then vE else .slice none 0 0)) (hS : S rb) (hE : (kS kU).R W S [vE] msg) (hn : n ≤ 1000) :
    (kS (kS kU)).R W S [.slice (some ⟨rb, 0, none⟩) n n] (row1 n fun j => if j + 1 = who then msg else []) :=
  rd_mk (K := kS kU) rfl (row1_len _ _) ⟨Nat.le_refl _, by omega⟩ fun j x hx => by
    have hj : j < n := by have := (List.getElem?_eq_some_iff.1 hx).1; rwa [row1_len] at this
    rw [row1_at _ hj] at hx
    injection hx with hx
    subst hx
    have ha : (⟨rb, 0, none⟩ : Addr).add j = ⟨rb, j, none⟩ := by unfold Addr.add; split <;> simp_all
    refine ⟨⟨rb, 0, none⟩, _, rfl, hS, ?_, by rw [ha]; exact h.cell hj⟩
    by_cases e : j + 1 = who
    · simp only [e, if_true]; exact hE
    · simp only [e, if_false]; exact kS_nil _ _ _
/-- the rows of messages laid so far -/
def OutI (w W3 wr : World) (g0 i n p who K : Nat) (L : List (List (List Nat))) : Prop :=
  Below g0 W3 wr ∧ ∃ hd, RowAt wr g0 27 n hd ∧ ∀ i', i' < i → (kS (kS kU)).R wr (fun b => w.heap.size ≤ b ∧ b ≠ g0) [hd i'] (row1 n (recOut p who K (rw2 L) i'))
theorem OutI.step {w W3 wr w5 : World} {g0 i n p who K : Nat} {L : List (List (List Nat))} (h : OutI w W3 wr g0 i n p who K L) {hd5 : Value} {hd : Nat → Value} (hd0 : RowAt wr g0 27 n hd)
    (hr : ∀ i', i' < i → (kS (kS kU)).R wr (fun b => w.heap.size ≤ b ∧ b ≠ g0) [hd i'] (row1 n (recOut p who K (rw2 L) i'))) (hF : Fp (fun b => b = g0) wr w5) (hR : RowAt w5 g0 27 n (upd hd i hd5))
    (h5 : (kS (kS kU)).R w5 (fun b => w.heap.size ≤ b ∧ b ≠ g0) [hd5] (row1 n (recOut p who K (rw2 L) i))) : OutI w W3 w5 g0 (i + 1) n p who K L := by
  refine ⟨h.1.trans (hF.below (Nat.le_of_lt hd0.lt) fun b hb e => by omega), _, hR, fun i' hi' => ?_⟩
  by_cases e : i' = i
  · subst e; rw [upd_same]; exact h5
  · rw [upd_ne _ _ e]
    exact (kS (kS kU)).kp (hr i' (by omega)) (hF.kp fun b _ hb => hb.2)
theorem shinfo : (Tryd.prog.info? 30).map (fun i => (i.zero, i.size, i.bytes)) = some (some (.slice none 0 0), 1, 24) := crowinfo
theorem ptinfo : (Tryd.prog.info? 87).map (fun i => (i.zero, i.size, i.bytes)) = some (some (.agg #[.int .u64 0, .int .u64 0]), 2, 16) := by kernel_rfl
set_option maxHeartbeats 4000000 in
set_option maxRecDepth 100000 in
theorem recover_any (w : World) (B0 : Nat) (F : Nat → Prop) (nb : Nat) (sc : Sc) (vt vtp v : Value) (round who K : Nat) (V : Nat → List Ev) (L : List (List (List Nat))) (S : Nat → Prop) (hn : NetR w B0 F nb sc vt vtp round V) (hB0 : B0 ≤ w.heap.size) (hFb : ∀ b, F b → b < w.heap.size) (hp : IsP sc.p)
    (hn4 : 4 ≤ sc.n) (hn13 : sc.n ≤ 13) (hnp : sc.n < sc.p) (ht1 : 1 ≤ sc.t) (ht3 : 3 * sc.t < sc.n) (hdv : ∀ d, d ∈ sc.devs → DevV sc.n d) (hr : (kS (kS (kS kU))).R w S [v] L) (hS : ∀ b, S b → ¬ F b) (hK : L.length = K) (hK2 : K ≤ 20)
    (hL : ∀ l, l ∈ L → l.length = sc.n ∧ ∀ r, r ∈ l → (∀ c, c ∈ r → c < sc.p)) (hw1 : 1 ≤ who) (hw2 : who ≤ sc.n) (hround : round + 1 ≤ 1000000) (hV : ∀ j, (V j).length ≤ 100000) :
    Calls Tryd.prog 18 #[.pointer (some ⟨nb, 0, none⟩), .int .i64 who, v] w fun e w' => RcvP w B0 F nb sc vt vtp round who K L V e w' := by
  have hlow := (kS (kS (kS kU))).low hr
  obtain ⟨A, c, rfl, ⟨hl1, hl2⟩, hcell⟩ := rd_open rfl hlow
  rw [hK] at hl1 ⊢
  have HCELL := hide hcell; clear hcell hlow hr
  have HN := hide hn
  have HKK := hide hK
  by_cases hK0 : K = 0
  · have hp0 : RcvP w B0 F nb sc vt vtp round who K L V (.returned (.slice none 0 0)) w := by
      refine ⟨Fp.refl _ _, F, _, rfl, fun b hb => ⟨hFb b hb, .inl hb⟩, by rw [if_pos hK0, if_pos hK0]; exact hn, ?_⟩
      rw [hK0]; exact kS_nil _ _ _
    have HP0 := hide hp0; clear hp0
    have hKi : ((K : Int) == 0) = true := by simp; omega
    subst hK0
    clear hn
    go_enter Tryd.func18, Tryd.ntmps18
    go_wp2_with fail
    go_ret
    exact HP0.out
  · have hKi : ((K : Int) == 0) = false := by simp; omega
    have hKn : ¬ ((K : Int) = 0) := by omega
    have HK0 := hide hK0; clear hK0 hK
    have hsce := scenario_any w B0 F nb sc vt vtp round V hn
    have HSC := hide hsce; clear hsce hn
    have HLL := hide hL; clear hL
    have HDV := hide hdv; clear hdv
    have hmk := fun W : World => run_make_row' (P := Tryd.prog) 75 27 (.slice none 0 0) 24 Tryd.underlying75 crrinfo rfl .i64 .i64 sc.n (by omega) (by omega) W
    have hmk2 := fun W : World => run_make_row' (P := Tryd.prog) 27 30 (.slice none 0 0) 24 Tryd.underlying27 crowinfo rfl .i64 .i64 sc.n (by omega) (by omega) W
    go_enter Tryd.func18, Tryd.ntmps18
    go_wp2_with fail
    refine HSC.out.mono ?_
    rintro e w1 ⟨hB1, vc, vd, rfl, hc1, hd1⟩
    have hfd : ∀ W : World, (Instr.field 29 (scVal sc.p sc.n sc.t vc vd vt) 0).run Tryd.prog W = .ok (.agg #[.int .u64 sc.p, .int .i64 sc.n, .int .i64 sc.t]) W := fun _ => by kernel_rfl
    simp only [scVal] at hfd ⊢
    have HB1 := hide hB1; clear hB1 hc1 hd1
    go_wp2_with fail
    clear hfd
    obtain ⟨q, hq⟩ : ∃ q, who = q + 1 := ⟨who - 1, by omega⟩
    have hqi : (who : Int) - 1 = (q : Int) := by omega
    have hqw : IntKind.i64.wrap (q : Int) = (q : Int) := by rw [IntWalk.i64_in _ (by omega)]
    have hqu : IntKind.u64.wrap (who : Int) = (who : Int) := by rw [IntWalk.u64_in _ (by omega)]
    have hqn : (q : Int) < (sc.n : Int) := by omega
    have hq0 : (0 : Int) ≤ (q : Int) := by omega
    have HQ := hide hq; clear hq
    obtain ⟨W3, hW3⟩ : ∃ W3, W3 = ((w1.alloc (.cells #[.int .u64 sc.p, .int .i64 sc.n, .int .i64 sc.t] 24)).alloc (.cells (madeCells #[.slice none 0 0] sc.n) 27)) := ⟨_, rfl⟩
    rw [← hW3]
    obtain ⟨b7, hb7⟩ : ∃ b7, b7 = w1.heap.size := ⟨_, rfl⟩
    obtain ⟨g0, hg0⟩ : ∃ g0, g0 = b7 + 1 := ⟨_, rfl⟩
    rw [← hb7, ← hg0]
    have hB13 : Bl w1 W3 := by rw [hW3]; exact ((Below.refl _ _).alloc (Nat.le_refl _) _).alloc (by rw [Dr.alloc_heap, Array.size_push]; omega) _
    have hbx : ∀ i u, (#[.int .u64 sc.p, .int .i64 sc.n, .int .i64 sc.t] : Array Value)[i]? = some u → W3.cell? ⟨b7, i, none⟩ = some u := fun i u hu => by
      rw [hW3, hb7]
      exact cell_bl ((Below.refl _ _).alloc (Nat.le_refl _) _) (by rw [World.cell?_alloc_at _ _ _ _ rfl]; exact hu)
    have hRA : RowAt W3 g0 27 sc.n (fun _ => .slice none 0 0) := by
      have h1 := RowAt.made (w1.alloc (.cells #[.int .u64 sc.p, .int .i64 sc.n, .int .i64 sc.t] 24)) (.slice none 0 0) sc.n 27
      rw [Dr.alloc_heap, Array.size_push, ← hb7, ← hg0, ← hW3] at h1; exact h1
    have hBw3 : Bl w W3 := Bl.then HB1.out HB1.out.size hB13
    have hg0l := hRA.lt
    have hI0 : OutI w W3 W3 g0 0 sc.n sc.p who K L := ⟨Below.refl _ _, _, hRA, fun i hi => by omega⟩
    have hgw : w.heap.size ≤ b7 := by rw [hb7]; exact HB1.out.size
    have HI0 := hide hI0; have HBX := hide hbx; have HBW3 := hide hBw3
    have HG0 := hide hg0; have HGW := hide hgw; have HG0L := hide hg0l
    clear hI0 hbx hBw3 hg0 hgw hg0l hRA hB13 hW3 hb7 hmk
    go_loopw [31] (fun i wr => ∃ i0 : Nat, i0 ≤ sc.n ∧ i = .int .i64 i0 ∧ OutI w W3 wr g0 i0 sc.n sc.p who K L) (fun i _ => sc.n - (intOf i).toNat)
    case atStart => exact ⟨0, by omega, rfl, HI0.out⟩
    case round =>
      clear HI0
      obtain ⟨i, hi, rfl, hI⟩ := hrel
      obtain ⟨hB, hd, hdR, hdr⟩ := id hI
      have hBw : Bl w wr := HBW3.out.trans (hB.mono (by have := HG0.out; have := HGW.out; omega))
      have hc7 : ∀ j u, (#[.int .u64 sc.p, .int .i64 sc.n, .int .i64 sc.t] : Array Value)[j]? = some u → wr.cell? ⟨b7, j, none⟩ = some u := fun j u hu => (hB.cell (by have := HG0.out; show b7 < g0; omega)).trans (HBX.out j u hu)
      by_cases hin : i < sc.n
      · as_aux_lemma =>
        have hii : (i : Int) < (sc.n : Int) := by omega
        have hi0 : (0 : Int) ≤ (i : Int) := by omega
        have p1 := hc7 1 _ rfl
        have hco := hdR.cell hin
        have hcf := hdR.free i
        have hgl := hdR.lt
        have hbl : b7 < wr.heap.size := by have := HG0.out; omega
        have hF5 : Fp (fun b => b = g0) wr ((wr.setCell ⟨g0, i, none⟩ (.slice (some ⟨wr.heap.size, 0, none⟩) sc.n sc.n)).alloc (.cells (madeCells #[.slice none 0 0] sc.n) 30)) := (Fp.set1 (F := fun b => b = g0) (a := ⟨g0, i, none⟩) _ rfl).alloc _
        have hR5 : RowAt ((wr.setCell ⟨g0, i, none⟩ (.slice (some ⟨wr.heap.size, 0, none⟩) sc.n sc.n)).alloc (.cells (madeCells #[.slice none 0 0] sc.n) 30)) g0 27 sc.n (upd hd i (.slice (some ⟨wr.heap.size, 0, none⟩) sc.n sc.n)) :=
          ((hdR.set i _).congr (f' := upd hd i (.slice (some ⟨wr.heap.size, 0, none⟩) sc.n sc.n)) fun j _ => by unfold upd; rfl).same (Below.heap_alloc _ _ _ (by simpa [World.setCell] using hgl))
        have hRb : RowAt ((wr.setCell ⟨g0, i, none⟩ (.slice (some ⟨wr.heap.size, 0, none⟩) sc.n sc.n)).alloc (.cells (madeCells #[.slice none 0 0] sc.n) 30)) wr.heap.size 30 sc.n (fun _ => .slice none 0 0) :=
          by
            have h1 := RowAt.made (wr.setCell ⟨g0, i, none⟩ (.slice (some ⟨wr.heap.size, 0, none⟩) sc.n sc.n)) (.slice none 0 0) sc.n 30
            rwa [show (wr.setCell ⟨g0, i, none⟩ (.slice (some ⟨wr.heap.size, 0, none⟩) sc.n sc.n)).heap.size = wr.heap.size by simp [World.setCell]] at h1
        have HF5 := hide hF5; have HR5 := hide hR5; have HRB := hide hRb; have HI := hide hI; have HDR := hide hdR; have Hdr := hide hdr; have HBW := hide hBw; have HC7 := hide hc7
        clear hF5 hR5 hRb hI hdR hdr hBw hc7 hB
        by_cases hiw : i + 1 = who
        · have e1 : ((i : Int) + 1 == (who : Int)) = true := by simp; omega
          have e2 : (i : Int) + 1 = (who : Int) := by omega
          have HIW := hide hiw; clear hiw
          go_wp2_with fail
          go_round
          case rel => exact ⟨i + 1, by omega, by go_num, OutI.step HI.out HDR.out Hdr.out HF5.out HR5.out (by
            have e3 : recOut sc.p who K (rw2 L) i = fun j => if j + 1 = who then [] else [] := by
              funext j; unfold recOut; rw [if_neg (fun h => h.1 HIW.out)]; split <;> rfl
            rw [e3]
            exact row_read (vE := .slice none 0 0) (HRB.out.congr fun j _ => (ite_self _).symm) ⟨HBW.out.size, by omega⟩ (kS_nil _ _ _) (by omega))⟩
          case measure => simp [intOf]; omega
        · have e1 : ((i : Int) + 1 == (who : Int)) = false := by simp; omega
          have e2 : ¬ ((i : Int) + 1 = (who : Int)) := by omega
          have HIW := hide hiw; clear hiw
          go_wp2_with fail
          obtain ⟨W5, hW5⟩ : ∃ W5, W5 = ((wr.setCell ⟨g0, i, none⟩ (.slice (some ⟨wr.heap.size, 0, none⟩) sc.n sc.n)).alloc (.cells (madeCells #[.slice none 0 0] sc.n) 30)) := ⟨_, rfl⟩
          have hF5 := HF5.out; have hR5 := HR5.out; have hRb := HRB.out
          rw [← hW5] at hF5 hR5 hRb ⊢
          obtain ⟨rb, hrb⟩ : ∃ rb, rb = wr.heap.size := ⟨_, rfl⟩
          rw [← hrb] at hR5 hRb ⊢
          have hB5 : Bl w W5 := HBW.out.trans (hF5.below HBW.out.size fun b hb e => by have := HG0.out; have := HGW.out; omega)
          have hs5 : wr.heap.size ≤ W5.heap.size := hF5.size
          have h70 : W5.cell? ⟨b7, 0, none⟩ = some (.int .u64 sc.p) := by
            rw [World.cell?_of_block (w := wr) (hF5.block b7 hbl (by have := HG0.out; omega))]; exact HC7.out 0 _ rfl
          have hh0 : W5.cell? ⟨g0, i, none⟩ = some (.slice (some ⟨rb, 0, none⟩) sc.n sc.n) := by have := hR5.cell hin; rwa [upd_same] at this
          have HF5' := hide hF5; have HR5' := hide hR5; have HRB' := hide hRb; have HB5 := hide hB5; have HRBE := hide hrb; have HS5 := hide hs5
          have H70 := hide h70; have HH0 := hide hh0
          clear hF5 hR5 hRb hB5 hrb hs5 hW5 HF5 HR5 HRB p1 hco hcf h70 hh0
          go_loopw [46] (fun ix wx => ∃ k : Nat, k ≤ K ∧ ix = .int .i64 k ∧ ∃ vE, Fp (fun b => b = rb) W5 wx ∧ RowAt wx rb 30 sc.n (fun j => if j + 1 = who then vE else .slice none 0 0) ∧ Ow kU wx W5.heap.size 22 vE ((List.range k).map fun k => hor sc.p (rw2 L k i) who)) (fun ix _ => K - (intOf ix).toNat)
          case atStart => exact ⟨0, by omega, rfl, .slice none 0 0, Fp.refl _ _, HRB'.out.congr fun j _ => (ite_self _).symm, Ow.nil _ _ _ _⟩
          case round => as_aux_lemma =>
            obtain ⟨k, hk, rfl, vE, hF, hR, hO⟩ := hrel
            have hrw : w.heap.size ≤ rb := by rw [HRBE.out]; exact HBW.out.size
            have hgr : g0 < rb := by rw [HRBE.out]; exact hgl
            have hgb : g0 = b7 + 1 := HG0.out
            have hBx : Bl w wr := HB5.out.trans (hF.below (Nat.le_trans HBW.out.size HS5.out) fun b hb e => by omega)
            by_cases hkK : k < K
            · have hkl : k < L.length := by rw [HKK.out]; exact hkK
              obtain ⟨ad, u, rfl, _, hu, hcu⟩ := HCELL.out k L[k] (List.getElem?_eq_getElem hkl)
              obtain ⟨Au, cu, rfl, ⟨hlu1, hlu2⟩, hrowc⟩ := rd_open rfl hu
              have hLk := HLL.out L[k] (List.getElem_mem hkl)
              have hil : i < L[k].length := by rw [hLk.1]; exact hin
              obtain ⟨ad2, x, rfl, hlt2, hx, hcx⟩ := hrowc i L[k][i] (List.getElem?_eq_getElem hil)
              have hrk : rw2 L k i = L[k][i] := by
                unfold rw2; rw [List.getD_eq_getElem?_getD, List.getD_eq_getElem?_getD, List.getElem?_eq_getElem hkl]
                simp [List.getElem?_eq_getElem hil]
              have hxp := hLk.2 L[k][i] (List.getElem_mem hil)
              have hl2 := hLk.1
              rw [hl2] at hcu hlu1
              have hcux := cell_bl hBx hcu
              have hcxx := cell_bl hBx hcx
              rw [← hrk] at hx hxp
              have hev := fun W (h : Bl w W) => eval_any sc.p who x (rw2 L k i) _ W hp (by omega) ((kS kU).bl hx h) hxp
              have hki : (k : Int) < (K : Int) := by omega
              have hk0 : (0 : Int) ≤ (k : Int) := by omega
              have h70 : wr.cell? ⟨b7, 0, none⟩ = some (.int .u64 sc.p) := by
                rw [World.cell?_of_block (w := W5) (hF.block b7 (World.block_lt_of_cell? _ _ H70.out) (by omega))]; exact H70.out
              have hh0 : wr.cell? ⟨g0, i, none⟩ = some (.slice (some ⟨rb, 0, none⟩) sc.n sc.n) := by
                rw [World.cell?_of_block (w := W5) (hF.block g0 (World.block_lt_of_cell? _ _ HH0.out) (by omega))]; exact HH0.out
              have hcq : wr.cell? ⟨rb, q, none⟩ = some vE := by
                have := hR.cell (i := q) (by omega)
                rwa [if_pos HQ.out.symm] at this
              have hfq := hR.free q
              have hrbl := hR.lt
              have hrb5 := HRB'.out.lt
              obtain ⟨AE, cE, rfl, _, _⟩ := hO.slice
              simp only [List.length_map, List.length_range] at hO hcq hR
              obtain ⟨pre, hpre⟩ : ∃ pre, pre = (List.range k).map fun k => hor sc.p (rw2 L k i) who := ⟨_, rfl⟩
              rw [← hpre] at hO
              have hprl : pre.length = k := by rw [hpre]; simp
              have hlt64 := hor_lt sc.p who (by omega) (rw2 L k i)
              obtain ⟨z, hz⟩ : ∃ z, z = hor sc.p (rw2 L k i) who := ⟨_, rfl⟩
              rw [← hz] at hev hlt64
              have hown : ∀ b, b < W5.heap.size → some b ≠ (Value.slice AE k cE).ownBlock := fun b hb e => by have := (hO.base b e.symm).1; omega
              have hlb7 := World.block_lt_of_cell? _ _ H70.out
              have hlg0 := World.block_lt_of_cell? _ _ HH0.out
              have n7 := hown b7 hlb7
              have ng := hown g0 hlg0
              have nr := hown rb hrb5
              have na := hown (ad2.add i).block (by rw [add_block]; exact Nat.lt_of_lt_of_le hlt2 (Nat.le_trans HBW.out.size HS5.out))
              have hne7 : rb ≠ b7 := by omega
              have hneg : rb ≠ g0 := by omega
              have hnea : rb ≠ (ad2.add i).block := by rw [add_block]; omega
              have hHO : ∀ (we : World) (ob : Obj) (v : Value), v = .slice AE k cE → Bl wr we → Ow kU (we.alloc ob) W5.heap.size 22 v pre := fun we ob v hv hB => by
                rw [hv]; exact hO.bl (hB.alloc hB.size ob)
              have hHX : ∀ (we : World) (v : Value), v = .slice AE k cE → Bl wr we → (kS kU).R (we.alloc (.cells #[.int .u64 (z : Int)] 22)) (Ne v.ownBlock) [.slice (some ⟨we.heap.size, 0, none⟩) 1 1] [z] := fun we v hv hB =>
                (kS kU).sub (litK (W := we) (S := fun _ => False) (us := [.int .u64 (z : Int)]) (K := kU) ⟨rfl, by have := hp.hi; omega⟩ 22) fun b _ hb e => by
                  rw [hv] at e
                  have := (hO.base _ e.symm).2
                  rcases hb with hb | rfl
                  · exact hb.1
                  · have := hB.size; omega
              have hle5 : W5.heap.size ≤ wr.heap.size := hF.size
              have hl8 : (pre.length + [z].length) * 8 ≤ 140737488355328 := by rw [hprl]; simp; omega
              have HF := hide hF; have HR := hide hR; have HO := hide hO; have HBX2 := hide hBx; have HEV := hide hev; have HCQ := hide hcq; have HFQ := hide hfq; have HHO := hide hHO; have HHX := hide hHX; have HL8 := hide hl8; have HPRE := hide hpre; have HZ := hide hz; have HPL := hide hprl
              clear hF hR hO hBx hev hcq hfq hHO hHX hl8 hpre hz hprl hx hxp hu hrowc hLk hil hrk hcu hcx hown hl2
              clear hgb
              go_wp2_with fail
              refine wp_region_last (n := 26) (fun w' => w'.cell? ⟨b7, 0, none⟩ = some (.int .u64 (sc.p : Int)) ∧ w'.cell? ⟨g0, i, none⟩ = some (.slice (some ⟨rb, 0, none⟩) sc.n sc.n) ∧ w'.cell? ⟨rb, q, none⟩ = some (.slice AE k cE) ∧ w'.cell? (ad2.add i) = some x) (by kernel_rfl) (by kernel_rfl) (by kernel_rfl) rfl ⟨h70, hh0, HCQ.out, hcxx⟩ (fun hHeld => ?_)
              refine wpAnyH_take (i := 0) (oi := { dst := some 50, op := Go.Op.move (Go.Operand.tmp 8), type := 75, pos := _, after := _, guard := none }) (v := ?_) rfl (by kernel_rfl) (by kernel_rfl) (by kernel_rfl) (fun _ _ _ h => h) (Or.inl ⟨by rfl, ?_⟩) (by assumption) ?_
              rotate_left
              · (intro w hSw; (try dsimp only at hSw); go_simp; (try (with_reducible rfl)))
              try simp only [Act.put, List.setIfInBounds_toArray, List.set_cons_zero, List.set_cons_succ]
              refine wpAnyH_take (i := 1) (oi := { dst := some 51, op := Go.Op.move (Go.Operand.tmp 9), type := 3, pos := _, after := _, guard := none }) (v := ?_) rfl (by kernel_rfl) (by kernel_rfl) (by kernel_rfl) (fun _ _ _ h => h) (Or.inl ⟨by rfl, ?_⟩) (by assumption) ?_
              rotate_left
              · (intro w hSw; (try dsimp only at hSw); go_simp; (try (with_reducible rfl)))
              try simp only [Act.put, List.setIfInBounds_toArray, List.set_cons_zero, List.set_cons_succ]
              refine wpAnyH_take (i := 2) (oi := { dst := some 52, op := Go.Op.indexAddr 75 (Go.Operand.tmp 50) (Go.Operand.tmp 51), type := 0, pos := _, after := _, guard := none }) (v := ?_) rfl (by kernel_rfl) (by kernel_rfl) (by kernel_rfl) (fun _ _ _ h => h) (Or.inl ⟨by rfl, ?_⟩) (by assumption) ?_
              rotate_left
              · (intro w hSw; (try dsimp only at hSw); go_simp; (try (with_reducible rfl)))
              try simp only [Act.put, List.setIfInBounds_toArray, List.set_cons_zero, List.set_cons_succ]
              refine wpAnyH_take (i := 3) (oi := { dst := some 53, op := Go.Op.load 27 (Go.Operand.tmp 52), type := 27, pos := _, after := _, guard := none }) (v := ?_) rfl (by kernel_rfl) (by kernel_rfl) (by kernel_rfl) (fun _ _ _ h => h) (Or.inl ⟨by rfl, ?_⟩) (by assumption) ?_
              rotate_left
              · (intro w hSw; (try dsimp only at hSw); go_simp; (try (with_reducible rfl)))
              try simp only [Act.put, List.setIfInBounds_toArray, List.set_cons_zero, List.set_cons_succ]
              refine wpAnyH_take (i := 4) (oi := { dst := some 54, op := Go.Op.move (Go.Operand.tmp 1), type := 3, pos := _, after := _, guard := none }) (v := ?_) rfl (by kernel_rfl) (by kernel_rfl) (by kernel_rfl) (fun _ _ _ h => h) (Or.inl ⟨by rfl, ?_⟩) (by assumption) ?_
              rotate_left
              · (intro w hSw; (try dsimp only at hSw); go_simp; (try (with_reducible rfl)))
              try simp only [Act.put, List.setIfInBounds_toArray, List.set_cons_zero, List.set_cons_succ]
              refine wpAnyH_take (i := 5) (oi := { dst := some 55, op := Go.Op.binOp Go.BinOp.sub 3 (Go.Operand.tmp 54) (Go.Operand.const (Go.Value.int Go.IntKind.i64 1)) 3, type := 3, pos := _, after := _, guard := none }) (v := ?_) rfl (by kernel_rfl) (by kernel_rfl) (by kernel_rfl) (fun _ _ _ h => h) (Or.inl ⟨by rfl, ?_⟩) (by assumption) ?_
              rotate_left
              · (intro w hSw; (try dsimp only at hSw); go_simp; (try (with_reducible rfl)))
              try simp only [Act.put, List.setIfInBounds_toArray, List.set_cons_zero, List.set_cons_succ]
              refine wpAnyH_take (i := 6) (oi := { dst := some 56, op := Go.Op.move (Go.Operand.tmp 8), type := 75, pos := _, after := _, guard := none }) (v := ?_) rfl (by kernel_rfl) (by kernel_rfl) (by kernel_rfl) (fun _ _ _ h => h) (Or.inl ⟨by rfl, ?_⟩) (by assumption) ?_
              rotate_left
              · (intro w hSw; (try dsimp only at hSw); go_simp; (try (with_reducible rfl)))
              try simp only [Act.put, List.setIfInBounds_toArray, List.set_cons_zero, List.set_cons_succ]
              refine wpAnyH_take (i := 7) (oi := { dst := some 57, op := Go.Op.move (Go.Operand.tmp 9), type := 3, pos := _, after := _, guard := none }) (v := ?_) rfl (by kernel_rfl) (by kernel_rfl) (by kernel_rfl) (fun _ _ _ h => h) (Or.inl ⟨by rfl, ?_⟩) (by assumption) ?_
              rotate_left
              · (intro w hSw; (try dsimp only at hSw); go_simp; (try (with_reducible rfl)))
              try simp only [Act.put, List.setIfInBounds_toArray, List.set_cons_zero, List.set_cons_succ]
              refine wpAnyH_take (i := 8) (oi := { dst := some 58, op := Go.Op.indexAddr 75 (Go.Operand.tmp 56) (Go.Operand.tmp 57), type := 0, pos := _, after := _, guard := none }) (v := ?_) rfl (by kernel_rfl) (by kernel_rfl) (by kernel_rfl) (fun _ _ _ h => h) (Or.inl ⟨by rfl, ?_⟩) (by assumption) ?_
              rotate_left
              · (intro w hSw; (try dsimp only at hSw); go_simp; (try (with_reducible rfl)))
              try simp only [Act.put, List.setIfInBounds_toArray, List.set_cons_zero, List.set_cons_succ]
              refine wpAnyH_take (i := 9) (oi := { dst := some 59, op := Go.Op.load 27 (Go.Operand.tmp 58), type := 27, pos := _, after := _, guard := none }) (v := ?_) rfl (by kernel_rfl) (by kernel_rfl) (by kernel_rfl) (fun _ _ _ h => h) (Or.inl ⟨by rfl, ?_⟩) (by assumption) ?_
              rotate_left
              · (intro w hSw; (try dsimp only at hSw); go_simp; (try (with_reducible rfl)))
              try simp only [Act.put, List.setIfInBounds_toArray, List.set_cons_zero, List.set_cons_succ]
              refine wpAnyH_take (i := 10) (oi := { dst := some 60, op := Go.Op.move (Go.Operand.tmp 1), type := 3, pos := _, after := _, guard := none }) (v := ?_) rfl (by kernel_rfl) (by kernel_rfl) (by kernel_rfl) (fun _ _ _ h => h) (Or.inl ⟨by rfl, ?_⟩) (by assumption) ?_
              rotate_left
              · (intro w hSw; (try dsimp only at hSw); go_simp; (try (with_reducible rfl)))
              try simp only [Act.put, List.setIfInBounds_toArray, List.set_cons_zero, List.set_cons_succ]
              refine wpAnyH_take (i := 11) (oi := { dst := some 61, op := Go.Op.binOp Go.BinOp.sub 3 (Go.Operand.tmp 60) (Go.Operand.const (Go.Value.int Go.IntKind.i64 1)) 3, type := 3, pos := _, after := _, guard := none }) (v := ?_) rfl (by kernel_rfl) (by kernel_rfl) (by kernel_rfl) (fun _ _ _ h => h) (Or.inl ⟨by rfl, ?_⟩) (by assumption) ?_
              rotate_left
              · (intro w hSw; (try dsimp only at hSw); go_simp; (try (with_reducible rfl)))
              try simp only [Act.put, List.setIfInBounds_toArray, List.set_cons_zero, List.set_cons_succ]
              refine wpAnyH_take (i := 12) (oi := { dst := some 62, op := Go.Op.indexAddr 27 (Go.Operand.tmp 59) (Go.Operand.tmp 61), type := 0, pos := _, after := _, guard := none }) (v := ?_) rfl (by kernel_rfl) (by kernel_rfl) (by kernel_rfl) (fun _ _ _ h => h) (Or.inl ⟨by rfl, ?_⟩) (by assumption) ?_
              rotate_left
              · (intro w hSw; (try dsimp only at hSw); go_simp; (try (with_reducible rfl)))
              try simp only [Act.put, List.setIfInBounds_toArray, List.set_cons_zero, List.set_cons_succ]
              refine wpAnyH_take (i := 13) (oi := { dst := some 63, op := Go.Op.load 30 (Go.Operand.tmp 62), type := 30, pos := _, after := _, guard := none }) (v := ?_) rfl (by kernel_rfl) (by kernel_rfl) (by kernel_rfl) (fun _ _ _ h => h) (Or.inl ⟨by rfl, ?_⟩) (by assumption) ?_
              rotate_left
              · (intro w hSw; (try dsimp only at hSw); go_simp; (try (with_reducible rfl)))
              try simp only [Act.put, List.setIfInBounds_toArray, List.set_cons_zero, List.set_cons_succ]
              refine wpAnyH_take (i := 14) (oi := { dst := some 64, op := Go.Op.fieldAddr 24 (Go.Operand.tmp 7) 0, type := 0, pos := _, after := _, guard := none }) (v := ?_) rfl (by kernel_rfl) (by kernel_rfl) (by kernel_rfl) (fun _ _ _ h => h) (Or.inl ⟨by rfl, ?_⟩) (by assumption) ?_
              rotate_left
              · (intro w hSw; (try dsimp only at hSw); go_simp; (try (with_reducible rfl)))
              try simp only [Act.put, List.setIfInBounds_toArray, List.set_cons_zero, List.set_cons_succ]
              refine wpAnyH_take (i := 15) (oi := { dst := some 65, op := Go.Op.load 22 (Go.Operand.tmp 64), type := 22, pos := _, after := _, guard := none }) (v := ?_) rfl (by kernel_rfl) (by kernel_rfl) (by kernel_rfl) (fun _ _ _ h => h) (Or.inl ⟨by rfl, ?_⟩) (by assumption) ?_
              rotate_left
              · (intro w hSw; (try dsimp only at hSw); go_simp; (try (with_reducible rfl)))
              try simp only [Act.put, List.setIfInBounds_toArray, List.set_cons_zero, List.set_cons_succ]
              refine wpAnyH_take (i := 16) (oi := { dst := some 66, op := Go.Op.move (Go.Operand.tmp 11), type := 44, pos := _, after := _, guard := none }) (v := ?_) rfl (by kernel_rfl) (by kernel_rfl) (by kernel_rfl) (fun _ _ _ h => h) (Or.inl ⟨by rfl, ?_⟩) (by assumption) ?_
              rotate_left
              · (intro w hSw; (try dsimp only at hSw); go_simp; (try (with_reducible rfl)))
              try simp only [Act.put, List.setIfInBounds_toArray, List.set_cons_zero, List.set_cons_succ]
              refine wpAnyH_take (i := 17) (oi := { dst := some 67, op := Go.Op.move (Go.Operand.tmp 9), type := 3, pos := _, after := _, guard := none }) (v := ?_) rfl (by kernel_rfl) (by kernel_rfl) (by kernel_rfl) (fun _ _ _ h => h) (Or.inl ⟨by rfl, ?_⟩) (by assumption) ?_
              rotate_left
              · (intro w hSw; (try dsimp only at hSw); go_simp; (try (with_reducible rfl)))
              try simp only [Act.put, List.setIfInBounds_toArray, List.set_cons_zero, List.set_cons_succ]
              refine wpAnyH_take (i := 18) (oi := { dst := some 68, op := Go.Op.indexAddr 44 (Go.Operand.tmp 66) (Go.Operand.tmp 67), type := 0, pos := _, after := _, guard := none }) (v := ?_) rfl (by kernel_rfl) (by kernel_rfl) (by kernel_rfl) (fun _ _ _ h => h) (Or.inl ⟨by rfl, ?_⟩) (by assumption) ?_
              rotate_left
              · (intro w hSw; (try dsimp only at hSw); go_simp; (try (with_reducible rfl)))
              try simp only [Act.put, List.setIfInBounds_toArray, List.set_cons_zero, List.set_cons_succ]
              refine wpAnyH_take (i := 19) (oi := { dst := some 69, op := Go.Op.load 30 (Go.Operand.tmp 68), type := 30, pos := _, after := _, guard := none }) (v := ?_) rfl (by kernel_rfl) (by kernel_rfl) (by kernel_rfl) (fun _ _ _ h => h) (Or.inl ⟨by rfl, ?_⟩) (by assumption) ?_
              rotate_left
              · (intro w hSw; (try dsimp only at hSw); go_simp; (try (with_reducible rfl)))
              try simp only [Act.put, List.setIfInBounds_toArray, List.set_cons_zero, List.set_cons_succ]
              refine wpAnyH_take (i := 20) (oi := { dst := some 70, op := Go.Op.move (Go.Operand.tmp 1), type := 3, pos := _, after := _, guard := none }) (v := ?_) rfl (by kernel_rfl) (by kernel_rfl) (by kernel_rfl) (fun _ _ _ h => h) (Or.inl ⟨by rfl, ?_⟩) (by assumption) ?_
              rotate_left
              · (intro w hSw; (try dsimp only at hSw); go_simp; (try (with_reducible rfl)))
              try simp only [Act.put, List.setIfInBounds_toArray, List.set_cons_zero, List.set_cons_succ]
              refine wpAnyH_take (i := 21) (oi := { dst := some 71, op := Go.Op.convert 3 22 (Go.Operand.tmp 70), type := 22, pos := _, after := _, guard := none }) (v := ?_) rfl (by kernel_rfl) (by kernel_rfl) (by kernel_rfl) (fun _ _ _ h => h) (Or.inl ⟨by rfl, ?_⟩) (by assumption) ?_
              rotate_left
              · (intro w hSw; (try dsimp only at hSw); go_simp; (try (with_reducible rfl)))
              try simp only [Act.put, List.setIfInBounds_toArray, List.set_cons_zero, List.set_cons_succ]
              refine wpAnyH_ready (rs := [22]) (by kernel_rfl) (by simp) ?_
              refine AllReadyH.cons (o := { dst := some 72, op := Go.Op.call { callee := Go.Callee.value (Go.Operand.func 45), args := #[Go.Operand.tmp 65, Go.Operand.tmp 69, Go.Operand.tmp 71], argTypes := #[22, 30, 22] }, type := 22, pos := _, after := _, guard := none }) rfl (fun K hK => ?_) AllReadyH.nil
              go_simp
              refine (HEV.out _ (HBX2.out.trans (((Dr.one (Dr.refl wr)).below _).mono HBX2.out.size))).mono ?_
              rintro e we ⟨rfl, hDe⟩
              have hBe : Bl wr.drew we := hDe.below _
              simp only []
              refine hK.out _ _ ?_ (fun hHeld => ?_)
              · exact ⟨cell_bl hBe h70, cell_bl hBe hh0, cell_bl hBe HCQ.out, cell_bl hBe hcxx⟩
              clear hK K
              try simp only [Act.put, List.setIfInBounds_toArray, List.set_cons_zero, List.set_cons_succ]
              refine wpAnyH_ready (rs := [23]) (by kernel_rfl) (by simp) ?_
              refine AllReadyH.cons (o := { dst := some 73, op := Go.Op.buildSlice 30 1 #[(0, Go.Operand.tmp 72)], type := 30, pos := _, after := _, guard := none }) rfl (fun K hK => ?_) AllReadyH.nil
              go_simp
              refine hK.out _ _ ?_ (fun hHeld => ?_)
              · exact ⟨cell_bl (hBe.alloc hBe.size _) h70, cell_bl (hBe.alloc hBe.size _) hh0, cell_bl (hBe.alloc hBe.size _) HCQ.out, cell_bl (hBe.alloc hBe.size _) hcxx⟩
              clear hK K
              try simp only [Act.put, List.setIfInBounds_toArray, List.set_cons_zero, List.set_cons_succ]
              refine wpAnyH_ready (rs := [24]) (by kernel_rfl) (by simp) ?_
              refine AllReadyH.cons (o := { dst := some 74, op := Go.Op.call { callee := Go.Callee.builtin Go.Builtin.append, args := #[Go.Operand.tmp 63, Go.Operand.tmp 73], argTypes := #[30, 30] }, type := 30, pos := _, after := _, guard := none }) rfl (fun K hK => ?_) AllReadyH.nil
              refine Ow.append_step kU (w0 := we.alloc (.cells #[.int .u64 (z : Int)] 22)) W5.heap.size rfl (.tmp 63) (.tmp 73) 30 22 (.int .u64 0) 8 rfl Tryd.underlying30 cu64info rfl (.slice AE k cE) _ pre [z] rfl rfl (HHO.out _ _ _ rfl ((Bl.dr (Below.refl _ _) (Dr.one (Dr.refl _))).trans hBe)) (Below.refl _ _) (Nat.le_trans hle5 (hBe.alloc hBe.size _).size) (HHX.out _ _ rfl ((Bl.dr (Below.refl _ _) (Dr.one (Dr.refl _))).trans hBe)) HL8.out (by decide) ?_
              intro v7 w7 hO7 hB7 hg7 hat7
              obtain ⟨A7, c7, rfl, hc7, _⟩ := hO7.slice
              simp only [List.length_append, List.length_cons, List.length_nil, Nat.zero_add] at hO7 hat7
              refine hK.out _ _ ?_ (fun hHeld => ?_)
              · exact ⟨hg7.cell (cell_bl (hBe.alloc hBe.size _) h70) n7, hg7.cell (cell_bl (hBe.alloc hBe.size _) hh0) ng, hg7.cell (cell_bl (hBe.alloc hBe.size _) HCQ.out) nr, hg7.cell (cell_bl (hBe.alloc hBe.size _) hcxx) na⟩
              clear hK K
              try simp only [Act.put, List.setIfInBounds_toArray, List.set_cons_zero, List.set_cons_succ]
              refine wpAnyH_take (i := 25) (oi := { dst := some 75, op := Go.Op.indexAddr 27 (Go.Operand.tmp 53) (Go.Operand.tmp 55), type := 0, pos := _, after := _, guard := none }) (v := ?_) rfl (by kernel_rfl) (by kernel_rfl) (by kernel_rfl) (fun _ _ _ h => h) (Or.inl ⟨by rfl, ?_⟩) (by assumption) ?_
              rotate_left
              · (intro w hSw; (try dsimp only at hSw); go_simp; (try (with_reducible rfl)))
              try simp only [Act.put, List.setIfInBounds_toArray, List.set_cons_zero, List.set_cons_succ]
              have cv7 := hg7.cell (cell_bl (hBe.alloc hBe.size (.cells #[.int .u64 (z : Int)] 22)) HCQ.out) nr
              have cf7 : w7.frozen? ⟨rb, q, none⟩ = false := (hg7.frozen_far _ (Nat.lt_of_lt_of_le hrbl (hBe.alloc hBe.size _).size) nr).trans (free_bl (hBe.alloc hBe.size _) HCQ.out HFQ.out)
              refine wpAnyH_done (by kernel_rfl) ?_ _
              refine lastQ_normal ?_
              refine wpOp_step (i := 26) (o := { dst := none, op := Go.Op.store 30 (Go.Operand.tmp 75) (Go.Operand.tmp 74), type := 0, pos := _, after := _, guard := none }) rfl (fun K hK => ?_)
              go_simp
              refine hK _ _ ?_
              clear hK K
              all_goals (
                have hBwe : Bl wr we := (Bl.dr (Below.refl _ _) (Dr.one (Dr.refl _))).trans hBe
                have hBwa := hBwe.alloc hBwe.size (.cells #[.int .u64 (z : Int)] 22)
                have hFn : Fp (fun b => b = rb) W5 (w7.setCell ⟨rb, q, none⟩ (.slice A7 (pre.length + 1) c7)) :=
                  ((HF.out.bl hBwa).trans (Fp.of_grown hg7 (fun b => some b = (Value.slice AE k cE).ownBlock) fun g hg => hg.symm) fun b hb e => by have := (HO.out.base b e.symm).1; omega).set _ (.inl rfl)
                have hRn : RowAt (w7.setCell ⟨rb, q, none⟩ (.slice A7 (pre.length + 1) c7)) rb 30 sc.n (fun j => if j + 1 = who then .slice A7 (pre.length + 1) c7 else .slice none 0 0) := by
                  have h1 := HR.out.same (hBwa.block rb hrbl)
                  have h2 := h1.same (hg7.block rb (Nat.lt_of_lt_of_le hrbl hBwa.size) nr)
                  refine (h2.set q (.slice A7 (pre.length + 1) c7)).congr fun j _ => ?_
                  by_cases e : j = q
                  · rw [if_pos e, if_pos (by rw [e]; exact HQ.out.symm)]
                  · rw [if_neg e, if_neg (fun h => e (by have := HQ.out; omega)), if_neg (fun h => e (by have := HQ.out; omega))]
                have hOn : Ow kU (w7.setCell ⟨rb, q, none⟩ (.slice A7 (pre.length + 1) c7)) W5.heap.size 22 (.slice A7 (pre.length + 1) c7) ((List.range (k + 1)).map fun k => hor sc.p (rw2 L k i) who) := by
                  rw [List.range_succ, List.map_append, ← HPRE.out, List.map_cons, List.map_nil, ← HZ.out]
                  exact hO7.set_far _ _ (fun e => by
                    have := (hO7.base _ e).1
                    have h2 : W5.heap.size ≤ rb := this
                    omega) fun _ _ _ h => h
                have HFN := hide hFn; have HRN := hide hRn; have HON := hide hOn
                clear hFn hRn hOn hO7 hB7 hg7 hat7)
              all_goals go_wp2_with fail
              all_goals go_round
              all_goals (first | exact ⟨k + 1, by omega, by go_num, _, HFN.out, HRN.out, HON.out⟩ | (simp [intOf]; omega))
            · have hkK2 : k = K := by omega
              subst hkK2
              have hre : recOut sc.p who k (rw2 L) i = fun j => if j + 1 = who then (List.range k).map fun k => hor sc.p (rw2 L k i) who else [] := by
                funext j; unfold recOut
                by_cases e : j + 1 = who
                · rw [if_pos ⟨HIW.out, e⟩, if_pos e]
                · rw [if_neg (fun h => e h.2), if_neg e]
              have hst := OutI.step HI.out HDR.out Hdr.out (HF5'.out.trans hF fun b hb e => by have := HRBE.out; omega) (HR5'.out.same (hF.block g0 (World.block_lt_of_cell? _ _ HH0.out) (by omega))) (by
                rw [hre]
                exact row_read hR ⟨hrw, by omega⟩ (hO.readsU _ fun b hb => by
                  have h1 := (hO.base b hb).1
                  have h2 := HS5.out
                  have h3 := HBW.out.size
                  exact ⟨by omega, by omega⟩) (by omega))
              have HST := hide hst
              clear hst hre hF hR hO hgb
              go_wp2_with fail
              go_round
              case rel => exact ⟨i + 1, by omega, by go_num, HST.out⟩
              case measure => simp [intOf]; omega
      · as_aux_lemma =>
        have hni : i = sc.n := by omega
        subst hni
        have hOr : (kS (kS (kS kU))).R wr (fun b => w.heap.size ≤ b) [.slice (some ⟨g0, 0, none⟩) sc.n sc.n] (mat sc.n (recOut sc.p who K (rw2 L))) :=
          rd_mk (K := kS (kS kU)) rfl (mat_len _ _) ⟨Nat.le_refl _, by omega⟩ fun j x hx => by
            have hj : j < sc.n := by have := (List.getElem?_eq_some_iff.1 hx).1; rwa [mat_len] at this
            rw [mat_at _ hj] at hx
            injection hx with hx
            subst hx
            have ha : (⟨g0, 0, none⟩ : Addr).add j = ⟨g0, j, none⟩ := by unfold Addr.add; split <;> simp_all
            exact ⟨⟨g0, 0, none⟩, hd j, rfl, by have := HG0.out; have := HGW.out; show w.heap.size ≤ g0; omega, (kS (kS kU)).sub (hdr j hj) fun b _ hb => hb.1, by rw [ha]; exact hdR.cell hj⟩
        have hsnd := send_any wr B0 F nb sc vt vtp (.slice (some ⟨g0, 0, none⟩) sc.n sc.n) round V (recOut sc.p who K (rw2 L)) _ (HN.out.bl hBw) (Nat.le_trans hB0 hBw.size) (fun b hb => Nat.lt_of_lt_of_le (hFb b hb) hBw.size) hp hn13 HDV.out hOr (fun b hb e => by have := hFb b e; omega)
          (fun i j _ _ => by
            unfold recOut; split
            · refine ⟨fun x hx => ?_, by simp; omega⟩
              obtain ⟨k, _, rfl⟩ := List.mem_map.1 hx
              exact hor_lt _ _ (by have := hp.lo; omega) _
            · exact ⟨fun x hx => by simp at hx, by simp⟩) hround hV
        have hb7 := HGW.out
        have hbs := hFb
        have HSND := hide hsnd; have HC7 := hide hc7; have HBW := hide hBw
        clear hsnd hc7 hBw hOr hI hB hdR hdr
        go_wp2_with fail
        refine HSND.out.mono ?_
        rintro e w8 ⟨hF8, F8, v8, rfl, hF8b, hN8, hr8⟩
        obtain ⟨said, hsaid⟩ : ∃ said, said = applyM sc.p sc.corrupt round sc.devs (recOut sc.p who K (rw2 L)) := ⟨_, rfl⟩
        rw [← hsaid] at hN8 hr8
        have hsok : ∀ i j, i < sc.n → j < sc.n → OkM sc.p 1000000 (said i j) := fun i j _ _ => by
          rw [hsaid]
          refine applyM_ok (by have := hp.lo; omega) _ ?_
          unfold recOut; split
          · refine ⟨fun x hx => ?_, by simp; omega⟩
            obtain ⟨k, _, rfl⟩ := List.mem_map.1 hx
            exact hor_lt _ _ (by have := hp.lo; omega) _
          · exact ⟨fun x hx => by simp at hx, by simp⟩
        obtain ⟨A8, c8, rfl, ⟨hl81, hl82⟩, hcell8⟩ := rd_open rfl hr8
        rw [mat_len] at hl81
        have hqn' : q < sc.n := by omega
        obtain ⟨ad8, u8, rfl, _, hu8, hcu8⟩ := hcell8 q _ (mat_at (fun j i => said i j) hqn')
        have hu8low := (kS (kS kU)).low hu8
        obtain ⟨A9, c9, rfl, ⟨hl91, hl92⟩, hcell9⟩ := rd_open rfl hu8low
        rw [row1_len] at hl91 hcu8
        have hh9 : ∀ i, i < sc.n → ∃ ad u, A9 = some ad ∧ (kS kU).R w8 (fun b => b < w8.heap.size) [u] (said i q) ∧ w8.cell? (ad.add i) = some u := fun i hi => by
          obtain ⟨ad, u, h1, _, h3, h4⟩ := hcell9 i _ (row1_at (fun i => said i q) hi)
          exact ⟨ad, u, h1, h3, h4⟩
        simp only [mat_len, row1_len]
        have c78 : ∀ j u, (#[.int .u64 sc.p, .int .i64 sc.n, .int .i64 sc.t] : Array Value)[j]? = some u → w8.cell? ⟨b7, j, none⟩ = some u := fun j u hu => by
          have h1 := HC7.out j u hu
          rw [World.cell?_of_block (w := wr) (hF8.block b7 (World.block_lt_of_cell? _ _ h1) (fun e => by have := hbs b7 e; omega))]; exact h1
        have HF8 := hide hF8; have HF8B := hide hF8b; have HN8 := hide hN8; have HH9 := hide hh9; have HC78 := hide c78; have HSAID := hide hsaid; have HSOK := hide hsok
        clear hF8 hF8b hN8 hh9 c78 hsaid hr8 hcell8 hu8 hu8low hcell9 HSND hsok
        go_wp2_with fail
        clear hcu8
        obtain ⟨Wn, hWn⟩ : ∃ Wn, Wn = (sc.n - 2 - sc.t) / 2 := ⟨_, rfl⟩
        go_loopw [13, 87] (fun s13 ix wx => ∃ k : Nat, k ≤ K ∧ ix = .int .i64 k ∧ Bl w8 wx ∧ Ow (kT (kS kU) (fun b => w8.heap.size ≤ b)) wx w8.heap.size 30 s13 ((List.range k).map (recRow sc.p sc.n sc.t who K (fun i => said i q)))) (fun _ ix _ => K - (intOf ix).toNat)
        case atStart => exact ⟨0, by omega, rfl, Below.refl _ _, Ow.nil _ _ _ _⟩
        case round =>
          obtain ⟨k, hk, rfl, hB, hO⟩ := hrel
          by_cases hkK : k < K
          · as_aux_lemma =>
            have hki : (k : Int) < (K : Int) := by omega
            have hk0 : (0 : Int) ≤ (k : Int) := by omega
            have p1 := cell_bl hB (HC78.out 1 _ rfl)
            have HB := hide hB; have HO := hide hO; clear hB hO
            go_wp2_with fail
            clear p1
            obtain ⟨wk, hwk⟩ : ∃ wk, wk = wr := ⟨_, rfl⟩
            rw [← hwk] at HB HO ⊢
            clear hwk
            go_loopw [15, 92] (fun s15 ix wy => ∃ i : Nat, i ≤ sc.n ∧ ix = .int .i64 i ∧ Bl wk wy ∧ Ow (kP kU kU) wy wk.heap.size 87 s15 (((List.range i).filter fun i => decide (i + 1 ≠ who)).map fun i => (i + 1, (resz (said i q) K).getD k 0))) (fun _ ix _ => sc.n - (intOf ix).toNat)
            case atStart => exact ⟨0, by omega, rfl, Below.refl _ _, Ow.nil _ _ _ _⟩
            case round =>
              obtain ⟨i, hi, rfl, hBy, hOy⟩ := hrel
              by_cases hin : i < sc.n
              · as_aux_lemma =>
                have hii : (i : Int) < (sc.n : Int) := by omega
                have hi0 : (0 : Int) ≤ (i : Int) := by omega
                have HBY := hide hBy; have HOY := hide hOy; clear hBy hOy
                by_cases hiw : i + 1 = who
                · have e1 : ((i : Int) + 1 != (who : Int)) = false := by simp; omega
                  have e2 : (i : Int) + 1 = (who : Int) := by omega
                  have HIW := hide hiw; clear hiw
                  go_wp2_with fail
                  go_round
                  case rel => exact ⟨i + 1, by omega, by go_num, HBY.out, by rw [List.range_succ, List.filter_append]; simpa [HIW.out] using HOY.out⟩
                  case measure => simp [intOf]; omega
                · have e1 : ((i : Int) + 1 != (who : Int)) = true := by simp; omega
                  have e2 : ¬ ((i : Int) + 1 = (who : Int)) := by omega
                  have HIW := hide hiw; clear hiw
                  obtain ⟨ad, u, rfl, hu, hcu⟩ := HH9.out i hin
                  have hB8y : Bl w8 wr := Bl.then HB.out HB.out.size HBY.out
                  have hcuy := cell_bl hB8y hcu
                  obtain ⟨Au, cu, rfl, _, _⟩ := kS_len hu
                  have hrz := resize_any (.slice Au (said i q).length cu) (said i q) K _ wr ((kS kU).bl hu hB8y) (by omega)
                  have hwi : IntKind.u64.wrap ((i : Int) + 1) = (i : Int) + 1 := by rw [IntWalk.u64_in _ (by omega)]
                  obtain ⟨pre, hpre⟩ : ∃ pre, pre = ((List.range i).filter fun i => decide (i + 1 ≠ who)).map fun i => (i + 1, (resz (said i q) K).getD k 0) := ⟨_, rfl⟩
                  have hOY := HOY.out
                  rw [← hpre] at hOY
                  have hprl : pre.length ≤ 13 := by
                    rw [hpre, List.length_map]
                    exact Nat.le_trans (List.length_filter_le _ _) (by simp; omega)
                  obtain ⟨Ap, cp, rfl, _, _⟩ := hOY.slice
                  have HRZ := hide hrz; have HB8Y := hide hB8y; have HPRE := hide hpre; have HOY2 := hide hOY
                  clear hrz hB8y hpre hOY hu hcu
                  go_wp2_with fail
                  refine HRZ.out.mono ?_
                  rintro e w10 ⟨vz, rfl, hOz, hBz⟩
                  obtain ⟨gz, cz, rfl, hgz1, hgz2⟩ := hOz.form (by rw [resz_len]; omega)
                  have hzk := (hOz.atU k (by rw [resz_len]; exact hkK)).1
                  have hzl := (hOz.atU k (by rw [resz_len]; exact hkK)).2.2
                  simp only [resz_len]
                  obtain ⟨y, hy⟩ : ∃ y, y = (resz (said i q) K).getD k 0 := ⟨_, rfl⟩
                  rw [← hy] at hzk hzl
                  have HY := hide hy; clear hy
                  have hB10 : Bl wk w10 := Bl.then HBY.out HBY.out.size hBz
                  have hHO := HOY2.out.bl hBz
                  have hl16 : (pre.length + 1) * 16 ≤ 140737488355328 := by omega
                  have HHO := hide hHO; have HB10 := hide hB10; have HBZ := hide hBz
                  clear hHO hB10 hBz hOz hgz1 hgz2
                  go_wp2_with (at_builtin; refine Ow.append (kP kU kU) (w0 := wk) wk.heap.size rfl (.tmp 99) (.tmp 114) 85 87 (.agg #[.int .u64 0, .int .u64 0]) 16 rfl Tryd.underlying85 ptinfo rfl (.slice Ap pre.length cp) pre [.int .u64 ((i : Int) + 1), .int .u64 (y : Int)] (i + 1, y) rfl rfl HHO.out HB10.out HB10.out.size ⟨[.int .u64 ((i : Int) + 1)], [.int .u64 (y : Int)], rfl, ⟨rfl, by simp only; omega⟩, ⟨rfl, hzl⟩⟩ hl16 (by decide) ?_)
                  intro v11 w11 hO11 hB11 _ _
                  have hO12 : Ow (kP kU kU) w11 wk.heap.size 87 v11 (((List.range (i + 1)).filter fun i => decide (i + 1 ≠ who)).map fun i => (i + 1, (resz (said i q) K).getD k 0)) := by
                    rw [List.range_succ, List.filter_append, List.map_append, ← HPRE.out]
                    have e3 : ([i].filter fun i => decide (i + 1 ≠ who)).map (fun i => (i + 1, (resz (said i q) K).getD k 0)) = [(i + 1, y)] := by
                      rw [List.filter_cons, if_pos (by simpa using HIW.out), List.filter_nil, List.map_cons, List.map_nil, ← HY.out]
                    rw [e3]; exact hO11
                  have HO12 := hide hO12; have HB11 := hide hB11
                  clear hO11 hO12 hB11
                  go_wp2_with fail
                  go_round
                  case rel => exact ⟨i + 1, by omega, by go_num, HB11.out, HO12.out⟩
                  case measure => simp [intOf]; omega
              · as_aux_lemma =>
                have hni : i = sc.n := by omega
                subst hni
                rw [filt_x hw1 hw2, List.map_map] at hOy
                obtain ⟨pts, hpts⟩ : ∃ pts, pts = (List.range (sc.n - 1)).map ((fun i => (i + 1, (resz (said i q) K).getD k 0)) ∘ xIdx who) := ⟨_, rfl⟩
                rw [← hpts] at hOy
                have hpl : pts.length = sc.n - 1 := by rw [hpts]; simp
                have hpg : ∀ r, r < sc.n - 1 → pts.getD r (0, 0) = (xIdx who r + 1, (resz (said (xIdx who r) q) K).getD k 0) := fun r hr => by
                  rw [hpts, List.getD_eq_getElem?_getD, List.getElem?_map, List.getElem?_range hr]; rfl
                have hyl : ∀ r, r < sc.n - 1 → (resz (said (xIdx who r) q) K).getD k 0 < sc.p := fun r hr => by
                  have hx := xIdx_lt hw1 hw2 hr
                  refine getD_ltp (by have := hp.lo; omega) (fun c hc => ?_) k
                  unfold resz at hc
                  rcases List.mem_append.1 hc with h | h
                  · exact (HSOK.out _ _ hx.1 hqn').1 c (List.mem_of_mem_take h)
                  · rw [(List.mem_replicate.1 h).2]; have := hp.lo; omega
                have hxl : ∀ r, r < sc.n - 1 → xIdx who r + 1 < sc.p := fun r hr => by have := (xIdx_lt hw1 hw2 hr).1; omega
                obtain ⟨Ap, cp, rfl, _, _⟩ := hOy.slice
                have hdec := decode_any sc.p sc.t Wn (sc.n - 1) (.slice Ap pts.length cp) pts _ wr hp hOy.reads hpl (by omega) (by omega) (by omega) (fun r hr => by rw [hpg r hr]; exact hxl r hr) (fun r hr => by rw [hpg r hr]; exact hyl r hr)
                have hB8y : Bl w8 wr := Bl.then HB.out HB.out.size hBy
                have q0 := cell_bl hB8y (HC78.out 0 _ rfl)
                have q1 := cell_bl hB8y (HC78.out 1 _ rfl)
                have q2 := cell_bl hB8y (HC78.out 2 _ rfl)
                have hdiv : Int.tdiv ((sc.n : Int) - 2 - (sc.t : Int)) 2 = (Wn : Int) := by
                  rw [show (sc.n : Int) - 2 - (sc.t : Int) = ((sc.n - 2 - sc.t : Nat) : Int) by omega, hWn]; rfl
                have hw64 : wrap64 (Wn : Int) = (Wn : Int) := by rw [IntWalk.wrap64_in _ (by omega)]
                have HDEC := hide hdec; have HB8Y := hide hB8y; have HPG := hide hpg; have HXL := hide hxl; have HYL := hide hyl; have HPL := hide hpl; have HWN := hide hWn; have HBY := hide hBy
                clear hdec hB8y hpg hxl hyl hpl hpts hOy hBy hWn
                go_wp2_with fail
                refine HDEC.out.mono ?_
                rintro e w12 ⟨hB12, vf, vp, code, rfl, hdr⟩
                have hB812 := Bl.then HB8Y.out HB8Y.out.size hB12
                have hm : MayD sc.t Wn (sc.n - 1) (fun i => (pts.getD i (0, 0)).1) := ⟨by rw [HWN.out]; omega, fun i j hi hj e => by
                  dsimp only at e
                  rw [HPG.out i hi, HPG.out j hj] at e
                  exact xIdx_inj (Nat.succ.inj e)⟩
                have hcg : ∀ i, i < sc.n - 1 → (pts.getD i (0, 0)).1 = xIdx who i + 1 ∧ (pts.getD i (0, 0)).2 = (resz (said (xIdx who i) q) K).getD k 0 := fun i hi => by rw [HPG.out i hi]; exact ⟨rfl, rfl⟩
                have hrec : ∃ f, recRow sc.p sc.n sc.t who K (fun i => said i q) k = resz f (sc.t + 1) ∧ ((code = 9 ∧ f = [] ∧ vf = .slice none 0 0 ∧ vp = .slice none 0 0) ∨ (code = 0 ∧ Ow kU w12 wr.heap.size 22 vf f ∧ f.length ≤ sc.t + 1 ∧ ∃ ps : List Int, Ow kI w12 wr.heap.size 3 vp ps)) := by
                  have hdd : ∀ f, decF sc.p sc.t Wn (sc.n - 1) (fun i => (pts.getD i (0, 0)).1) (fun i => (pts.getD i (0, 0)).2) = f → recRow sc.p sc.n sc.t who K (fun i => said i q) k = resz f (sc.t + 1) := fun f hf => by
                    unfold recRow
                    rw [← hf, decF_congr hcg, HWN.out]
                  rcases hdr with ⟨_, _, _, hno⟩ | ⟨h9, h91, h92, _, hno⟩ | ⟨h0, _, f, hf1, hf2, hf3, hf4, hf5, hf6⟩
                  · exact absurd hm hno
                  · refine ⟨[], hdd _ (decF_no fun ⟨g, hg⟩ => ?_), .inl ⟨h9, rfl, h91, h92⟩⟩
                    exact absurd hg.2.2 (Nat.not_le.2 (hno g hg.1 hg.2.1))
                  · refine ⟨f, hdd _ ?_, .inr ⟨h0, hf1, hf3, _, hf2⟩⟩
                    rw [decF_of hp hm.1 (fun i hi => by rw [HPG.out i hi]; exact HXL.out i hi) (fun i hi => by rw [HPG.out i hi]; exact HYL.out i hi) hm.2 ⟨hf3, hf4, hf6⟩, hf5]
                obtain ⟨f, hrr, hcase⟩ := hrec
                obtain ⟨As, cs, hvs, _, _⟩ := HO.out.slice
                rw [List.length_map, List.length_range] at hvs
                subst hvs
                have hOw := HO.out.bl (Bl.then HBY.out HBY.out.size hB12)
                have hq2 := cell_bl hB12 q2
                have hwt : IntKind.i64.wrap ((sc.t : Int) + 1) = (sc.t : Int) + 1 := by rw [IntWalk.i64_in _ (by omega)]
                have hzz : ∃ Af cf, (if code = 9 then Value.slice none 0 0 else vf) = .slice Af f.length cf ∧ (kS kU).R w12 Any [.slice Af f.length cf] f ∧ ∃ Ap2 np2 cp2, vp = .slice Ap2 np2 cp2 := by
                  rcases hcase with ⟨h9, h1, h2, h3⟩ | ⟨h0, h1, h2, ps, h3⟩
                  · subst h1
                    exact ⟨none, 0, by rw [if_pos h9]; rfl, kS_nil _ _ _, none, 0, 0, h3⟩
                  · obtain ⟨Af, cf, h4, _⟩ := h1.slice
                    obtain ⟨Ap2, cp2, h5, _⟩ := h3.slice
                    exact ⟨Af, cf, by rw [if_neg (by omega)]; exact h4, by rw [← h4]; exact h1.reads, Ap2, _, cp2, h5⟩
                obtain ⟨Af, cf, hvf, hrf, Ap2, np2, cp2, rfl⟩ := hzz
                have hrz := resize_any (.slice Af f.length cf) f (sc.t + 1) _ w12 hrf (by omega)
                rw [show (((sc.t + 1 : Nat)) : Int) = (sc.t : Int) + 1 by omega] at hrz
                have hc09 : code = 9 ∨ code = 0 := by rcases hcase with h | h; exact .inl h.1; exact .inr h.1
                have hlast : ∀ (w13 : World) (vz : Value), Ow kU w13 w12.heap.size 22 vz (resz f (sc.t + 1)) → Bl w12 w13 → Ow (kT (kS kU) (fun b => w8.heap.size ≤ b)) w13 w8.heap.size 30 (.slice As k cs) ((List.range k).map (recRow sc.p sc.n sc.t who K (fun i => said i q))) ∧
                    (kT (kS kU) (fun b => w8.heap.size ≤ b)).R w13 (Ne (Value.slice As k cs).ownBlock) [vz] (resz f (sc.t + 1)) := fun w13 vz hOz hBz =>
                  ⟨hOw.bl hBz, hOz.readsU (fun b => Ne (Value.slice As k cs).ownBlock b ∧ w8.heap.size ≤ b) fun b hb => by
                    have h1 := (hOz.base b hb).1
                    refine ⟨fun e => ?_, Nat.le_trans hB812.size h1⟩
                    have := (hOw.base b e.symm).2; omega⟩
                have HLAST := hide hlast; have HRZ := hide hrz; have HRR := hide hrr; have HVF := hide hvf; have HB812 := hide hB812; have HC09 := hide hc09
                clear hlast hrz hrr hvf hB812 hc09 hOw hcase hcg hm hdr hrf hB12 q0 q1 q2 HDEC
                have hk24 : (((List.range k).map (recRow sc.p sc.n sc.t who K (fun i => said i q))).length + 1) * 24 ≤ 140737488355328 := by rw [List.length_map, List.length_range]; omega
                have HK24 := hide hk24; clear hk24
                rcases HC09.out with rfl | rfl
                · have hv := HVF.out
                  rw [if_pos rfl] at hv
                  have hrz := HRZ.out
                  rw [← hv] at hrz
                  have HRZ2 := hide hrz
                  clear hv hrz HRZ HVF HC09
                  go_wp2_with fail
                  refine HRZ2.out.mono ?_
                  rintro e w13 ⟨vz, rfl, hOz, hBz⟩
                  obtain ⟨Az, cz, rfl, _, _⟩ := hOz.slice
                  have hL := HLAST.out w13 _ hOz hBz
                  have hB813 := Bl.then HB812.out HB812.out.size hBz
                  simp only [resz_len] at hL ⊢
                  have HL := hide hL; have HB813 := hide hB813
                  clear hL hB813 hOz hBz
                  go_wp2_with (at_builtin; refine Ow.append (kT (kS kU) (fun b => w8.heap.size ≤ b)) (w0 := w8) w8.heap.size rfl (.tmp 136) (.tmp 142) 27 30 (.slice none 0 0) 24 rfl Tryd.underlying27 crowinfo rfl (.slice As k cs) ((List.range k).map (recRow sc.p sc.n sc.t who K (fun i => said i q))) [.slice Az (sc.t + 1) cz] (resz f (sc.t + 1)) rfl rfl HL.out.1 HB813.out HB813.out.size HL.out.2 HK24.out (by decide) ?_)
                  intro v14 w14 hO14 hB14 _ _
                  rw [← HRR.out] at hO14
                  have hO15 : Ow (kT (kS kU) (fun b => w8.heap.size ≤ b)) w14 w8.heap.size 30 v14 ((List.range (k + 1)).map (recRow sc.p sc.n sc.t who K (fun i => said i q))) := by
                    rw [List.range_succ, List.map_append]; exact hO14
                  have HO15 := hide hO15; have HB14 := hide hB14
                  clear hO14 hO15 hB14
                  go_wp2_with fail
                  go_round
                  case rel => exact ⟨k + 1, by omega, by go_num, HB14.out, HO15.out⟩
                  case measure => simp [intOf]; omega
                · have hv := HVF.out
                  rw [if_neg (by decide)] at hv
                  subst hv
                  clear HVF HC09
                  go_wp2_with fail
                  refine HRZ.out.mono ?_
                  rintro e w13 ⟨vz, rfl, hOz, hBz⟩
                  obtain ⟨Az, cz, rfl, _, _⟩ := hOz.slice
                  have hL := HLAST.out w13 _ hOz hBz
                  have hB813 := Bl.then HB812.out HB812.out.size hBz
                  simp only [resz_len] at hL ⊢
                  have HL := hide hL; have HB813 := hide hB813
                  clear hL hB813 hOz hBz
                  go_wp2_with (at_builtin; refine Ow.append (kT (kS kU) (fun b => w8.heap.size ≤ b)) (w0 := w8) w8.heap.size rfl (.tmp 136) (.tmp 142) 27 30 (.slice none 0 0) 24 rfl Tryd.underlying27 crowinfo rfl (.slice As k cs) ((List.range k).map (recRow sc.p sc.n sc.t who K (fun i => said i q))) [.slice Az (sc.t + 1) cz] (resz f (sc.t + 1)) rfl rfl HL.out.1 HB813.out HB813.out.size HL.out.2 HK24.out (by decide) ?_)
                  intro v14 w14 hO14 hB14 _ _
                  rw [← HRR.out] at hO14
                  have hO15 : Ow (kT (kS kU) (fun b => w8.heap.size ≤ b)) w14 w8.heap.size 30 v14 ((List.range (k + 1)).map (recRow sc.p sc.n sc.t who K (fun i => said i q))) := by
                    rw [List.range_succ, List.map_append]; exact hO14
                  have HO15 := hide hO15; have HB14 := hide hB14
                  clear hO14 hO15 hB14
                  go_wp2_with fail
                  go_round
                  case rel => exact ⟨k + 1, by omega, by go_num, HB14.out, HO15.out⟩
                  case measure => simp [intOf]; omega
          · have hkK2 : k = K := by omega
            subst hkK2
            have hFw : Fp F w wr := ((Fp.of_bl HBW.out F).trans HF8.out fun _ _ h => h).bl hB
            have hq' : who - 1 = q := by have := HQ.out; omega
            have hres : RcvP w B0 F nb sc vt vtp round who k L V (.returned u13) wr := by
              refine ⟨hFw, F8, u13, rfl, fun b hb => ⟨Nat.lt_of_lt_of_le (HF8B.out b hb).1 hB.size, ?_⟩, ?_, ?_⟩
              · rcases (HF8B.out b hb).2 with h | h
                · exact .inl h
                · exact .inr (Nat.le_trans HBW.out.size h)
              · rw [if_neg HK0.out, if_neg HK0.out, ← HSAID.out]
                exact HN8.out.bl hB
              · rw [← HSAID.out, hq']
                have hsz : w.heap.size ≤ w8.heap.size := Nat.le_trans HBW.out.size HF8.out.size
                refine kS_unT (hO.readsIn (fun b => ¬ F8 b ∧ w.heap.size ≤ b) (fun b hb => ?_) fun u x _ hr => show (kS kU).R wr (fun b => (¬ F8 b ∧ w.heap.size ≤ b) ∧ w8.heap.size ≤ b) u x from (kS kU).sub (show (kS kU).R wr (fun b => Ne u13.ownBlock b ∧ w8.heap.size ≤ b) u x from hr) fun b _ hb => ?_)
                · have h1 := (hO.base b hb).1
                  exact ⟨fun e => by have := (HF8B.out b e).1; omega, by omega⟩
                · have h1 : w8.heap.size ≤ b := hb.2
                  exact ⟨⟨fun e => by have := (HF8B.out b e).1; omega, by omega⟩, h1⟩
            have HRES := hide hres
            clear hres hFw hB hO
            go_wp2_with fail
            go_ret
            exact HRES.out
end Pv
