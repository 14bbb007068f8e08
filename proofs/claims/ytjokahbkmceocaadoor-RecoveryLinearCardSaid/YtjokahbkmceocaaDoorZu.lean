import Derived.Test.YtjokahbkmceocaaDoorZe
import Derived.Deep.Slices
import Derived.OpenShut
import Derived.ChangeArms
import Derived.Test.YtjokahbkmceocaaDoorRows
import Derived.Test.YtjokahbkmceocaaDoorTie
import Derived.Test.YtjokahbkmceocaaDoorCards
import Derived.Test.YtjokahbkmceocaaDoorZp
import Derived.Test.YtjokahbkmceocaaDoorZj
import Derived.ProofKit
import Derived.LaidMore
import Derived.Stop.Joined
import Derived.SevenTiedAt
import Derived.Below
import Derived.ChangeSame
import Derived.WideKeyArgs
set_option linter.unusedVariables false
set_option linter.unusedSimpArgs false
namespace Pv
open Go Go.RowKit Go.Proofs Go.ChangeShapes Go.WideShapes Go.Deep

/-! what reads as data of a type reads as a kind -/
def Opn {α : Type} (t : TypeId) (K : Kn α) : Prop :=
  ∀ (H : Type) (enc : TypeId × Value → H) (w : World) (fuel : Nat) (cs : List Value) (x : DataW H × List MemPlace), DataW.trod enc Tryd.prog w 0 (fun _ => true) true fuel t cs = some x → ∃ a, K.R w Any cs a
theorem opn_u64 {t : TypeId} (ht : Tryd.prog.underlying t = some (.int .u64)) : Opn t kU := fun H enc w fuel cs x h => by
  obtain ⟨n, rfl, _, hw⟩ := DataW.trod_int ht h
  simp only [Lit.wf, Bool.and_eq_true, decide_eq_true_eq] at hw
  have h1 : IntKind.u64.min = 0 := rfl
  have h2 : IntKind.u64.max = 18446744073709551615 := rfl
  rw [h1, h2] at hw
  refine ⟨n.toNat, ?_, by omega⟩
  rw [Int.toNat_of_nonneg hw.1]
theorem opn_int {t : TypeId} (ht : Tryd.prog.underlying t = some (.int .i64)) : Opn t kI := fun H enc w fuel cs x h => by
  obtain ⟨n, rfl, _, hw⟩ := DataW.trod_int ht h
  simp only [Lit.wf, Bool.and_eq_true, decide_eq_true_eq] at hw
  exact ⟨n, rfl, hw.1, hw.2⟩
theorem opn_slice {α : Type} {K : Kn α} {t e : TypeId} (ht : Tryd.prog.underlying t = some (.slice e)) (hc : Tryd.prog.cellsOf e = K.sz) (h : Opn e K) : Opn t (kS K) := fun H enc w fuel cs x hx => by
  rcases open_slice ht hx with ⟨rfl, _⟩ | ⟨a, len, cap, m, n, D, Pl, rfl, hb, hl, hm, hmm, _, hel⟩
  · exact ⟨[], kS_nil K w Any⟩
  · have hle : len ≤ m := by rw [hmm]; split <;> omega
    rw [hc] at hel
    obtain ⟨l, hll, hlq⟩ := exists_list (fun j u => ∃ cs', w.cells? 0 (a.add (j * K.sz)) K.sz = some cs' ∧ K.R w Any cs' u) len (fun j hj => by
      obtain ⟨cs', h1, h2⟩ := hel j (by omega)
      obtain ⟨u, hu⟩ := h H enc w _ _ _ h2
      exact ⟨u, cs', h1, hu⟩)
    refine ⟨l, some a, len, cap, rfl, hll, ⟨hl, by simp only [maxLen] at hm; omega⟩, fun j x hx => ?_⟩
    obtain ⟨cs', h1, h2⟩ := hlq j x hx
    obtain ⟨_, hlen, hcell⟩ := World.cells?_some h1
    refine ⟨a, cs', rfl, trivial, h2, fun t u hu => ?_⟩
    have ht : t < K.sz := by rw [← hlen]; exact (List.getElem?_eq_some_iff.1 hu).1
    have := hcell t ht
    rw [hu] at this
    rw [← this, Go.Deep.add_add]
theorem opn_dev {t : TypeId} {fs : Array Field} (ht : Tryd.prog.underlying t = some (.struct fs)) (hc : Tryd.prog.cellsOf t = 8)
    (hf : fs.toList.map (fun f => (f.offset, Tryd.prog.cellsOf f.type, Tryd.prog.underlying f.type)) = [(0, 1, some (.int .i64)), (1, 1, some (.int .i64)), (2, 1, some (.int .i64)), (3, 1, some (.int .i64)), (4, 1, some (.int .i64)), (5, 1, some (.int .u64)), (6, 1, some (.int .i64)), (7, 1, some (.int .i64))]) : Opn t kDev := fun H enc w fuel cs x hx => by
  obtain ⟨xs, n, _, _, hl, hxl, hfd⟩ := DataW.trod_struct ht hx
  rw [hc] at hl
  have hsz : fs.size = 8 := by have := congrArg List.length hf; simpa using this
  have key : ∀ i, i < 8 → ∃ (f : Field) (y : DataW H × List MemPlace), fs[i]? = some f ∧ DataW.trod enc Tryd.prog w 0 (fun _ => true) true n f.type ((cs.drop f.offset).take (Tryd.prog.cellsOf f.type)) = some y := fun i hi => by
    have h1 : i < fs.size := by omega
    refine ⟨fs[i], xs[i]'(by omega), by simp, ?_⟩
    rw [hfd i fs[i] (by simp)]; simp
  have hat : ∀ (i o c : Nat) u, (fs.toList.map (fun f => (f.offset, Tryd.prog.cellsOf f.type, Tryd.prog.underlying f.type)))[i]? = some (o, c, u) → ∀ f, fs[i]? = some f → f.offset = o ∧ Tryd.prog.cellsOf f.type = c ∧ Tryd.prog.underlying f.type = u := fun i o c u h f hfi => by
    rw [List.getElem?_map, Array.getElem?_toList, hfi] at h
    simpa using h
  have int : ∀ i, i < 8 → (fs.toList.map (fun f => (f.offset, Tryd.prog.cellsOf f.type, Tryd.prog.underlying f.type)))[i]? = some (i, 1, some (.int .i64)) → ∃ k : Int, cs[i]? = some (.int .i64 k) ∧ i64r k := fun i hi h => by
    obtain ⟨f, y, h1, h2⟩ := key i hi
    obtain ⟨e1, e2, e3⟩ := hat i _ _ _ h f h1
    rw [e1, e2] at h2
    obtain ⟨k, hk, h3, h4⟩ := opn_int e3 H enc w _ _ _ h2
    refine ⟨k, ?_, h3, h4⟩
    have := congrArg (fun l => l[0]?) hk
    simpa [List.getElem?_take] using this
  have u64 : ∃ k : Nat, cs[5]? = some (.int .u64 (k : Int)) ∧ k < 18446744073709551616 := by
    obtain ⟨f, y, h1, h2⟩ := key 5 (by omega)
    obtain ⟨e1, e2, e3⟩ := hat 5 5 1 (some (.int .u64)) (by rw [hf]; rfl) f h1
    rw [e1, e2] at h2
    obtain ⟨k, hk, h3⟩ := opn_u64 e3 H enc w _ _ _ h2
    refine ⟨k, ?_, h3⟩
    have := congrArg (fun l => l[0]?) hk
    simpa [List.getElem?_take] using this
  obtain ⟨k0, h0, r0⟩ := int 0 (by omega) (by rw [hf]; rfl)
  obtain ⟨k1, h1, r1⟩ := int 1 (by omega) (by rw [hf]; rfl)
  obtain ⟨k2, h2, r2⟩ := int 2 (by omega) (by rw [hf]; rfl)
  obtain ⟨k3, h3, r3⟩ := int 3 (by omega) (by rw [hf]; rfl)
  obtain ⟨k4, h4, r4⟩ := int 4 (by omega) (by rw [hf]; rfl)
  obtain ⟨k5, h5, r5⟩ := u64
  obtain ⟨k6, h6, r6⟩ := int 6 (by omega) (by rw [hf]; rfl)
  obtain ⟨k7, h7, r7⟩ := int 7 (by omega) (by rw [hf]; rfl)
  refine ⟨⟨k0, k1, k2, k3, k4, k5, k6, k7⟩, ?_, ⟨r0, r1, r2, r3, r4, r5, r6, r7⟩⟩
  refine List.ext_getElem? fun i => ?_
  match i with
  | 0 => exact h0
  | 1 => exact h1
  | 2 => exact h2
  | 3 => exact h3
  | 4 => exact h4
  | 5 => exact h5
  | 6 => exact h6
  | 7 => exact h7
  | i + 8 => rw [List.getElem?_eq_none (by omega)]; rfl
end Pv

set_option linter.unusedVariables false
set_option linter.unusedSimpArgs false
namespace Pv
open Go Go.Proofs Go.Proofs.YtjokahbkmceocaaDoor Go.ChangeShapes Go.WideShapes Go.ChangeAt Go.WideMaps Go.WideElems Go.RowKit

theorem own : ownKnob Tryd.prog.godebug = none := by kernel_rfl
theorem gExps : Tryd.prog.globalNamed "privity/field.exps" = some 0 := by kernel_rfl
theorem tExps : (Tryd.prog.globals[0]?).map (·.type) = some 165 := by kernel_rfl
def laidE : List (String × DataW Unit) := [("privity/field.exps", Rows.laid_privity_field_exps)]
/-- the door's own heap meets the condition -/
theorem door_met (os : Os) (args : Array Value) : laidMetH Tryd.prog laidE ((World.doorLaid Tryd.prog 400 os).forCall (fun _ _ => 0) ⟨#[], args, []⟩).memory :=
  laidMetH_of_parts3 (fuel := 8) (laidMet_of_run' 8 (by kernel_rfl) (by kernel_rfl)) (by kernel_rfl) (by kernel_rfl)
/-- the table of exponents is laid -/
theorem of_laid {W : World} (h : laidMetH Tryd.prog laidE W) : Laid W := by
  rw [MakeChecks.laidMetH_plain _ _ _ (by kernel_rfl)] at h
  obtain ⟨ps, ⟨g0, t0, cs0, f0, p0, q0, hg0, ht0, hv0, hd0, _, _⟩, _, _⟩ := h
  obtain rfl := Option.some.inj (gExps.symm.trans hg0)
  obtain rfl := Option.some.inj (tExps.symm.trans ht0)
  obtain ⟨xs, m1, rfl, hx1, hlen, hn3, hel⟩ := DataW.trod_array Tryd.underlying165 hd0
  have c3 : Tryd.prog.cellsOf 3 = 1 := by kernel_rfl
  simp only [Prod.mk.injEq, DataW.agg.injEq, Rows.laid_privity_field_exps] at hx1
  have key : ∀ (i : Nat) (k : Int), i < 7 → (xs.map (·.1))[i]? = some (.lit (.int .i64 k)) → cs0[i]? = some (.int .i64 k) := fun i k hi hk => by
    have he := hel i hi
    rw [List.getElem?_map] at hk
    obtain ⟨x, hx, hx2⟩ := Option.map_eq_some_iff.1 hk
    rw [hx] at he
    obtain ⟨k', e1, e2, _⟩ := DataW.trod_int Tryd.underlying3 he
    rw [e2] at hx2
    have : k' = k := by simpa using hx2
    subst this
    rw [c3, Nat.mul_one] at e1
    have := congrArg (fun l => l[0]?) e1
    simpa [List.getElem?_take] using this
  intro i v hv
  rw [World.var?_cell hg0 hv0 i]
  rw [← hx1.1] at key
  match i, hv with
  | 0, hv => simp at hv; subst hv; exact key 0 _ (by decide) rfl
  | 1, hv => simp at hv; subst hv; exact key 1 _ (by decide) rfl
  | 2, hv => simp at hv; subst hv; exact key 2 _ (by decide) rfl
  | 3, hv => simp at hv; subst hv; exact key 3 _ (by decide) rfl
  | 4, hv => simp at hv; subst hv; exact key 4 _ (by decide) rfl
  | 5, hv => simp at hv; subst hv; exact key 5 _ (by decide) rfl
  | 6, hv => simp at hv; subst hv; exact key 6 _ (by decide) rfl
  | i + 7, hv => simp at hv
theorem array9 {α : Type} {cs : Array α} (h : cs.size = 9) : ∃ c0 c1 c2 c3 c4 c5 c6 c7 c8, cs = #[c0, c1, c2, c3, c4, c5, c6, c7, c8] := by
  obtain ⟨l⟩ := cs
  match l, h with
  | [c0, c1, c2, c3, c4, c5, c6, c7, c8], _ => exact ⟨c0, c1, c2, c3, c4, c5, c6, c7, c8, rfl⟩
theorem trod_fld {H : Type} {enc : TypeId × Value → H} {w : World} {t : TypeId} {fs : Array Field} {fuel : Nat} {cs : List Value} {x : DataW H × List MemPlace} (ht : Tryd.prog.underlying t = some (.struct fs)) (h : DataW.trod enc Tryd.prog w 0 (fun _ => true) true fuel t cs = some x) :
    ∃ n, ∀ (i : Nat) (f : Field), fs[i]? = some f → ∃ y, DataW.trod enc Tryd.prog w 0 (fun _ => true) true n f.type ((cs.drop f.offset).take (Tryd.prog.cellsOf f.type)) = some y := by
  obtain ⟨xs, n, _, _, hl, hxl, hfd⟩ := DataW.trod_struct ht h
  refine ⟨n, fun i f hf => ?_⟩
  rw [hfd i f hf]
  have : i < xs.length := by rw [hxl]; exact (Array.getElem?_eq_some_iff.1 hf).1
  exact ⟨_, List.getElem?_eq_getElem this⟩
theorem opn_devs : Opn 26 (kS kDev) := opn_slice Tryd.underlying26 (by kernel_rfl) (opn_dev Tryd.underlying99 (by kernel_rfl) (by kernel_rfl))
theorem opn_ints : Opn 25 (kS kI) := opn_slice Tryd.underlying25 (by kernel_rfl) (opn_int Tryd.underlying3)
theorem opn_words : Opn 30 (kS kU) := opn_slice Tryd.underlying30 (by kernel_rfl) (opn_u64 Tryd.underlying22)
theorem opn_lists : Opn 27 (kS (kS kU)) := opn_slice Tryd.underlying27 (by kernel_rfl) opn_words
/-- a scenario's cells -/
structure ScnR (w : World) (c0 c1 c2 c3 c4 c5 : Value) (p : Nat) (n t : Int) (corrupt : List Int) (devs : List Dev) (tapes : List (List Nat)) : Prop where
  p0 : c0 = .int .u64 (p : Int)
  n0 : c1 = .int .i64 n
  t0 : c2 = .int .i64 t
  c : (kS kI).R w Any [c3] corrupt
  d : (kS kDev).R w Any [c4] devs
  tp : (kS (kS kU)).R w Any [c5] tapes
theorem scn_open {H : Type} {enc : TypeId × Value → H} {w : World} {fuel : Nat} {c0 c1 c2 c3 c4 c5 : Value} {x : DataW H × List MemPlace} (h : DataW.trod enc Tryd.prog w 0 (fun _ => true) true fuel 29 [c0, c1, c2, c3, c4, c5] = some x) :
    ∃ p n t corrupt devs tapes, ScnR w c0 c1 c2 c3 c4 c5 p n t corrupt devs tapes := by
  obtain ⟨m, hf⟩ := trod_fld Tryd.underlying29 h
  obtain ⟨y0, h0⟩ := hf 0 _ rfl
  obtain ⟨y1, h1⟩ := hf 1 _ rfl
  obtain ⟨y2, h2⟩ := hf 2 _ rfl
  obtain ⟨y3, h3⟩ := hf 3 _ rfl
  have k0 : Tryd.prog.cellsOf 24 = 3 := by kernel_rfl
  have k1 : Tryd.prog.cellsOf 25 = 1 := by kernel_rfl
  have k2 : Tryd.prog.cellsOf 26 = 1 := by kernel_rfl
  have k3 : Tryd.prog.cellsOf 27 = 1 := by kernel_rfl
  have u0 : Tryd.prog.cellsOf 22 = 1 := by kernel_rfl
  have u1 : Tryd.prog.cellsOf 3 = 1 := by kernel_rfl
  have h0 : DataW.trod enc Tryd.prog w 0 (fun _ => true) true m 24 (([c0, c1, c2, c3, c4, c5].drop 0).take (Tryd.prog.cellsOf 24)) = some y0 := h0
  rw [k0] at h0
  have h1 : DataW.trod enc Tryd.prog w 0 (fun _ => true) true m 25 (([c0, c1, c2, c3, c4, c5].drop 3).take (Tryd.prog.cellsOf 25)) = some y1 := h1
  rw [k1] at h1
  have h2 : DataW.trod enc Tryd.prog w 0 (fun _ => true) true m 26 (([c0, c1, c2, c3, c4, c5].drop 4).take (Tryd.prog.cellsOf 26)) = some y2 := h2
  rw [k2] at h2
  have h3 : DataW.trod enc Tryd.prog w 0 (fun _ => true) true m 27 (([c0, c1, c2, c3, c4, c5].drop 5).take (Tryd.prog.cellsOf 27)) = some y3 := h3
  rw [k3] at h3
  simp only [List.drop_succ_cons, List.drop_zero, List.take_succ_cons, List.take_zero] at h0 h1 h2 h3
  obtain ⟨m', hg⟩ := trod_fld Tryd.underlying24 h0
  obtain ⟨z0, g0⟩ := hg 0 _ rfl
  obtain ⟨z1, g1⟩ := hg 1 _ rfl
  obtain ⟨z2, g2⟩ := hg 2 _ rfl
  have g0 : DataW.trod enc Tryd.prog w 0 (fun _ => true) true m' 22 (([c0, c1, c2].drop 0).take (Tryd.prog.cellsOf 22)) = some z0 := g0
  rw [u0] at g0
  have g1 : DataW.trod enc Tryd.prog w 0 (fun _ => true) true m' 3 (([c0, c1, c2].drop 1).take (Tryd.prog.cellsOf 3)) = some z1 := g1
  rw [u1] at g1
  have g2 : DataW.trod enc Tryd.prog w 0 (fun _ => true) true m' 3 (([c0, c1, c2].drop 2).take (Tryd.prog.cellsOf 3)) = some z2 := g2
  rw [u1] at g2
  simp only [List.drop_succ_cons, List.drop_zero, List.take_succ_cons, List.take_zero] at g0 g1 g2
  obtain ⟨p, hp, _⟩ := opn_u64 Tryd.underlying22 H enc w _ _ _ g0
  obtain ⟨n, hn, _⟩ := opn_int Tryd.underlying3 H enc w _ _ _ g1
  obtain ⟨t, ht, _⟩ := opn_int Tryd.underlying3 H enc w _ _ _ g2
  obtain ⟨corrupt, hc⟩ := opn_ints H enc w _ _ _ h1
  obtain ⟨devs, hd⟩ := opn_devs H enc w _ _ _ h2
  obtain ⟨tapes, htp⟩ := opn_lists H enc w _ _ _ h3
  exact ⟨p, n, t, corrupt, devs, tapes, by simpa using hp, by simpa using hn, by simpa using ht, hc, hd, htp⟩
/-! what is read behind the call -/
theorem same_below {W W' : World} (hb : Below W.heap.size W W') {p : MemPlace} (hp : p.block < W.heap.size) : W.sameAt W' p := by
  cases p with
  | cell b o => exact hb.cell (p := ⟨b, o, none⟩) hp
  | map b => exact hb.block b hp
theorem all_stays {H : Type} {enc : TypeId × Value → H} {W W' : World} {sp' : Nat → Bool} (hl : laidOutB Tryd.prog = true) : ∀ (ts : List TypeId) (vs : List Value) (ds : List (DataW H)) (ps : List MemPlace), (∀ t, t ∈ ts → Tryd.prog.readableRec t = true ∧ t < Tryd.prog.types.size) →
    DataW.TrodAll enc Tryd.prog W 0 (fun _ => true) true ts vs ds ps → (∀ p, p ∈ ps → W.sameAt W' p) → (∀ p, p ∈ ps → sp' p.block = true) → DataW.TrodAll enc Tryd.prog W' 0 sp' true ts vs ds ps
  | [], [], [], ps, _, h, _, _ => h
  | t :: ts, v :: vs, d :: ds, ps, ht, h, h1, h2 => by
    obtain ⟨p, q, hp, hq, rfl⟩ := h
    exact ⟨p, q, Go.WideElems.Trod_stays hl (ht t (by simp)).1 (ht t (by simp)).2 hp (fun x hx => h1 x (by simp [hx])) (fun x hx => h2 x (by simp [hx])),
      all_stays hl ts vs ds q (fun t' h' => ht t' (by simp [h'])) hq (fun x hx => h1 x (by simp [hx])) (fun x hx => h2 x (by simp [hx])), rfl⟩
  | [], [], _ :: _, _, _, h, _, _ => h.elim
  | [], _ :: _, _, _, _, h, _, _ => h.elim
  | _ :: _, [], _, _, _, h, _, _ => h.elim
  | _ :: _, _ :: _, [], _, _, h, _, _ => h.elim
theorem laid_out : laidOutB Tryd.prog = true := by kernel_rfl
/-- a law that answers true and leaves all memory as it was -/
theorem law_post {H : Type} {enc : TypeId × Value → H} {f : Func} {s : ChangeSpec} {W W' : World} {args : Array Value} {ds gs : List (DataW H)} {before : List MemPlace} (hW : DataW.Whole enc Tryd.prog f.params.toList s.vars false W args.toList ds gs before)
    (hvars : s.vars = []) (hres : f.resultTypes = #[4]) (hts : ∀ t, t ∈ f.params.toList → Tryd.prog.readableRec t = true ∧ t < Tryd.prog.types.size) (hfn : s.fn H ds = { results := [.lit (.bool true)], args := ds }) (hb : Below W.heap.size W W') :
    s.post enc Tryd.prog f false true false false W args (.bool true) W' := by
  have hlt := hW.lt
  obtain ⟨pa, q, hA, hV, rfl, hz, hn⟩ := id hW
  rw [hvars] at hV
  obtain ⟨rfl, rfl⟩ := trodVars_none hV
  rw [List.append_nil] at hlt
  have hfn' : s.fn H (ds ++ []) = { results := [.lit (.bool true)], args := ds } := by rw [List.append_nil]; exact hfn
  refine ⟨ds, [], pa ++ [], [], pa, [], hW, ?_, ?_, ?_, hb.frame _, fun h => by cases h⟩
  · rw [hfn', hres]
    exact trodAll_mk1 ⟨1, by simp [DataW.trod, Value.cells, Tryd.underlying4]⟩
  · rw [hfn']
    exact all_stays laid_out _ _ _ _ hts hA (fun p hp => same_below hb (hlt p hp)) (fun p hp => decide_eq_true (hlt p hp))
  · rw [hfn', hvars]; rfl
end Pv

set_option linter.unusedVariables false
set_option linter.unusedSimpArgs false
namespace Pv
open Go Go.Proofs Go.Proofs.YtjokahbkmceocaaDoor Go.ChangeShapes Go.WideShapes Go.ChangeAt Go.RowKit

set_option maxRecDepth 100000 in
/-- an Ask, opened -/
theorem ask_open {H : Type} {enc : TypeId × Value → H} {w : World} {r : Reach} {b0 : Nat} {v : Value} {d : DataW H} {ps : List MemPlace} (hv : Value.okWide Tryd.prog w r b0 32 v) (h : DataW.Trod enc Tryd.prog w 0 (fun _ => true) true 32 v d ps) :
    ∃ p n t vc vd vt wh vl vs corrupt devs tapes L spoil, v = askVal p n t vc vd vt wh vl vs ∧ (kS kI).R w Any [vc] corrupt ∧ (kS kDev).R w Any [vd] devs ∧ (kS (kS kU)).R w Any [vt] tapes ∧ wh < 256 ∧ (kS (kS kU)).R w Any [vl] L ∧ (kS kU).R w Any [vs] spoil := by
  obtain ⟨cs, rfl, hsz⟩ := okWide_struct Tryd.underlying32 hv
  have hC : Tryd.prog.cellsOf 32 = 9 := by kernel_rfl
  obtain ⟨c0, c1, c2, c3, c4, c5, c6, c7, c8, rfl⟩ := array9 (hsz.trans hC)
  obtain ⟨fuel, hf⟩ := h
  have hf : DataW.trod enc Tryd.prog w 0 (fun _ => true) true fuel 32 [c0, c1, c2, c3, c4, c5, c6, c7, c8] = some (d, ps) := hf
  obtain ⟨m, hg⟩ := trod_fld Tryd.underlying32 hf
  obtain ⟨y0, h0⟩ := hg 0 _ rfl
  obtain ⟨y1, h1⟩ := hg 1 _ rfl
  obtain ⟨y2, h2⟩ := hg 2 _ rfl
  obtain ⟨y3, h3⟩ := hg 3 _ rfl
  have k0 : Tryd.prog.cellsOf 29 = 6 := by kernel_rfl
  have k1 : Tryd.prog.cellsOf 5 = 1 := by kernel_rfl
  have k2 : Tryd.prog.cellsOf 27 = 1 := by kernel_rfl
  have k3 : Tryd.prog.cellsOf 30 = 1 := by kernel_rfl
  have h0 : DataW.trod enc Tryd.prog w 0 (fun _ => true) true m 29 (([c0, c1, c2, c3, c4, c5, c6, c7, c8].drop 0).take (Tryd.prog.cellsOf 29)) = some y0 := h0
  rw [k0] at h0
  have h1 : DataW.trod enc Tryd.prog w 0 (fun _ => true) true m 5 (([c0, c1, c2, c3, c4, c5, c6, c7, c8].drop 6).take (Tryd.prog.cellsOf 5)) = some y1 := h1
  rw [k1] at h1
  have h2 : DataW.trod enc Tryd.prog w 0 (fun _ => true) true m 27 (([c0, c1, c2, c3, c4, c5, c6, c7, c8].drop 7).take (Tryd.prog.cellsOf 27)) = some y2 := h2
  rw [k2] at h2
  have h3 : DataW.trod enc Tryd.prog w 0 (fun _ => true) true m 30 (([c0, c1, c2, c3, c4, c5, c6, c7, c8].drop 8).take (Tryd.prog.cellsOf 30)) = some y3 := h3
  rw [k3] at h3
  simp only [List.drop_succ_cons, List.drop_zero, List.take_succ_cons, List.take_zero] at h0 h1 h2 h3
  obtain ⟨p, n, t, corrupt, devs, tapes, hs⟩ := scn_open h0
  obtain ⟨wh, e1, _, hw⟩ := DataW.trod_int Tryd.underlying5 h1
  obtain ⟨L, hL⟩ := opn_lists H enc w _ _ _ h2
  obtain ⟨spoil, hsp⟩ := opn_words H enc w _ _ _ h3
  simp only [Lit.wf, Bool.and_eq_true, decide_eq_true_eq] at hw
  have m1 : IntKind.u8.min = 0 := rfl
  have m2 : IntKind.u8.max = 255 := rfl
  rw [m1, m2] at hw
  obtain ⟨wn, rfl⟩ : ∃ wn : Nat, wh = (wn : Int) := ⟨wh.toNat, by omega⟩
  have e1 : c6 = .int .u8 (wn : Int) := by simpa using e1
  obtain ⟨rfl, rfl, rfl, hc, hd, ht⟩ := hs
  subst e1
  exact ⟨p, n, t, c3, c4, c5, wn, c7, c8, corrupt, devs, tapes, L, spoil, rfl, hc, hd, ht, by omega, hL, hsp⟩
theorem reads_ask : Tryd.prog.readableRec 32 = true ∧ 32 < Tryd.prog.types.size := ⟨by kernel_rfl, of_decide_eq_true (by kernel_rfl)⟩
end Pv
