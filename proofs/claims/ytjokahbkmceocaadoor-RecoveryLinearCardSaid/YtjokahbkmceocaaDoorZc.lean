import Derived.Test.YtjokahbkmceocaaDoorZa
import Derived.Test.YtjokahbkmceocaaDoorProg
import Derived.WalkSpells
import Derived.Test.YtjokahbkmceocaaDoorZb
set_option linter.unusedVariables false
set_option linter.unusedSimpArgs false
namespace Pv
open Go Go.RowKit Go.Proofs


theorem cu64info : (Tryd.prog.info? 22).map (fun i => (i.zero, i.size, i.bytes)) = some (some (.int .u64 0), 1, 8) := by kernel_rfl
set_option maxHeartbeats 400000 in
theorem clone_u64 (v : Value) (xs : List (Nat)) (S : Nat → Prop) (w : World) (hr : (kS (kU)).R w S [v] xs) (hlen : xs.length * 8 ≤ 140737488355328) :
    Calls Tryd.prog 103 #[v] w fun e w' => ∃ v', e = .returned v' ∧ Ow (kU) w' w.heap.size 22 v' xs ∧ Bl w w' := by
  have hlow := (kS (kU)).low hr
  obtain ⟨A, c, rfl, hn2, hc2⟩ := kS_len hr
  rcases A with _ | ad
  · obtain ⟨rfl, _⟩ := kS_nil0 hr
    have hq := fun W => Lib.run_eql_slice_nil (P := Tryd.prog) W 30 22 none 0 c 0 0 Tryd.underlying30
    clear hlow hr
    show Calls _ _ #[.slice none 0 c] _ _
    go_enter Tryd.func103, Tryd.ntmps103
    go_wp2
    go_ret
    exact ⟨_, rfl, Ow.nil _ _ _ _, Below.refl _ _⟩
  · have hq := fun W => Lib.run_eql_slice_nil (P := Tryd.prog) W 30 22 (some ad) xs.length c 0 0 Tryd.underlying30
    have HR : Hid ((kS (kU)).R (w.alloc (.cells #[] 22)) (Ne (some w.heap.size)) [.slice (some ad) xs.length c] xs) :=
      (kS (kU)).sub ((kS (kU)).kp hlow (Bl.kp ((Below.refl _ _).alloc (Nat.le_refl _) _) _)) fun b _ hb => by intro e; injection e with e; omega
    have hB : Bl w (w.alloc (.cells #[] 22)) := (Below.refl _ _).alloc (Nat.le_refl _) _
    have hO : Ow (kU) (w.alloc (.cells #[] 22)) w.heap.size 22 (.slice (some ⟨w.heap.size, 0, none⟩) 0 0) ([] : List (Nat)) := Ow.lit0 _ _ _ _ (Nat.le_refl _)
    clear hlow hr
    go_enter Tryd.func103, Tryd.ntmps103
    go_wp2_with (at_builtin; refine Ow.append_row (kU) (w0 := w) w.heap.size rfl _ _ 30 22 (.int .u64 0) 8 rfl Tryd.underlying30 cu64info rfl _ _ [] xs rfl rfl hO hB (by simp) HR.out (by simpa using hlen) (by decide) ?_)
    intro v1 w2 hO2 hB2 _ _
    go_wp2
    go_ret
    exact ⟨v1, rfl, hO2, hB2⟩

theorem crowinfo : (Tryd.prog.info? 30).map (fun i => (i.zero, i.size, i.bytes)) = some (some (.slice none 0 0), 1, 24) := by kernel_rfl
set_option maxHeartbeats 400000 in
theorem clone_rows (v : Value) (xs : List (List Nat)) (S : Nat → Prop) (w : World) (hr : (kS (kS kU)).R w S [v] xs) (hlen : xs.length * 24 ≤ 140737488355328) :
    Calls Tryd.prog 86 #[v] w fun e w' => ∃ v', e = .returned v' ∧ Ow (kS kU) w' w.heap.size 30 v' xs ∧ Bl w w' := by
  have hlow := (kS (kS kU)).low hr
  obtain ⟨A, c, rfl, hn2, hc2⟩ := kS_len hr
  rcases A with _ | ad
  · obtain ⟨rfl, _⟩ := kS_nil0 hr
    have hq := fun W => Lib.run_eql_slice_nil (P := Tryd.prog) W 27 30 none 0 c 0 0 Tryd.underlying27
    clear hlow hr
    show Calls _ _ #[.slice none 0 c] _ _
    go_enter Tryd.func86, Tryd.ntmps86
    go_wp2
    go_ret
    exact ⟨_, rfl, Ow.nil _ _ _ _, Below.refl _ _⟩
  · have hq := fun W => Lib.run_eql_slice_nil (P := Tryd.prog) W 27 30 (some ad) xs.length c 0 0 Tryd.underlying27
    have HR : Hid ((kS (kS kU)).R (w.alloc (.cells #[] 30)) (Ne (some w.heap.size)) [.slice (some ad) xs.length c] xs) :=
      (kS (kS kU)).sub ((kS (kS kU)).kp hlow (Bl.kp ((Below.refl _ _).alloc (Nat.le_refl _) _) _)) fun b _ hb => by intro e; injection e with e; omega
    have hB : Bl w (w.alloc (.cells #[] 30)) := (Below.refl _ _).alloc (Nat.le_refl _) _
    have hO : Ow (kS kU) (w.alloc (.cells #[] 30)) w.heap.size 30 (.slice (some ⟨w.heap.size, 0, none⟩) 0 0) ([] : List (List Nat)) := Ow.lit0 _ _ _ _ (Nat.le_refl _)
    clear hlow hr
    go_enter Tryd.func86, Tryd.ntmps86
    go_wp2_with (at_builtin; refine Ow.append_row (kS kU) (w0 := w) w.heap.size rfl _ _ 27 30 (.slice none 0 0) 24 rfl Tryd.underlying27 crowinfo rfl _ _ [] xs rfl rfl hO hB (by simp) HR.out (by simpa using hlen) (by decide) ?_)
    intro v1 w2 hO2 hB2 _ _
    go_wp2
    go_ret
    exact ⟨v1, rfl, hO2, hB2⟩
end Pv

set_option linter.unusedVariables false
set_option linter.unusedSimpArgs false
namespace Pv
open Go Go.RowKit Go.Proofs

/-- the first n cells of block g (elements of type t, one cell each, none frozen) -/
def RowAt (w : World) (g : Nat) (t : TypeId) (n : Nat) (f : Nat → Value) : Prop :=
  ∃ c, w.heap[g]? = some (.cells c t (0, 0)) ∧ n ≤ c.size ∧ ∀ i, i < n → c[i]? = some (f i)
theorem RowAt.cell {w : World} {g t n} {f : Nat → Value} (h : RowAt w g t n f) {i : Nat} (hi : i < n) : w.cell? ⟨g, i, none⟩ = some (f i) := by
  obtain ⟨c, h1, _, h2⟩ := h; simp [World.cell?, h1, h2 i hi]
theorem RowAt.free {w : World} {g t n} {f : Nat → Value} (h : RowAt w g t n f) (i : Nat) : w.frozen? ⟨g, i, none⟩ = false := by
  obtain ⟨c, h1, _, h2⟩ := h; simp [World.frozen?, h1]
theorem RowAt.lt {w : World} {g t n} {f : Nat → Value} (h : RowAt w g t n f) : g < w.heap.size := by
  obtain ⟨c, h1, _⟩ := h; exact (Array.getElem?_eq_some_iff.1 h1).1
theorem RowAt.same {w w' : World} {g t n} {f : Nat → Value} (h : RowAt w g t n f) (e : w'.heap[g]? = w.heap[g]?) : RowAt w' g t n f := by
  obtain ⟨c, h1, h2⟩ := h; exact ⟨c, e.trans h1, h2⟩
theorem RowAt.set {w : World} {g t n} {f : Nat → Value} (h : RowAt w g t n f) (i : Nat) (v : Value) : RowAt (w.setCell ⟨g, i, none⟩ v) g t n (fun j => if j = i then v else f j) := by
  obtain ⟨c, h1, h2, h3⟩ := h
  refine ⟨c.setIfInBounds i v, by simp [World.setCell, Array.getElem?_modify, h1], by simpa using h2, fun j hj => ?_⟩
  rw [Array.getElem?_setIfInBounds]
  by_cases e : j = i
  · subst e; simp [show j < c.size by omega]
  · rw [if_neg (fun h => e h.symm), h3 j hj]; simp [e]
theorem RowAt.congr {w : World} {g t n} {f f' : Nat → Value} (h : RowAt w g t n f) (e : ∀ i, i < n → f i = f' i) : RowAt w g t n f' := by
  obtain ⟨c, h1, h2, h3⟩ := h; exact ⟨c, h1, h2, fun i hi => by rw [h3 i hi, e i hi]⟩
theorem heap_setCell_ne (w : World) (a : Addr) (v : Value) (g : Nat) (h : g ≠ a.block) : (w.setCell a v).heap[g]? = w.heap[g]? := Below.heap_setCell _ _ _ _ h
theorem Ow.rowAtU {w : World} {base : Nat} {e : TypeId} {g n c : Nat} {xs : List Nat} (h : Ow kU w base e (.slice (some ⟨g, 0, none⟩) n c) xs) : RowAt w g e n (fun j => .int .u64 (xs.getD j 0 : Nat)) := by
  have hl := h.len_eq
  obtain ⟨us, hul, ho, hr⟩ := id h
  rcases ho.2 with ⟨h', _⟩ | ⟨g', cap, cur, h', hb, hg, hn, hm, hc, ht⟩
  · cases h'
  · injection h' with h1 h2 h3; injection h1 with h1; injection h1 with h1
    subst h1
    refine ⟨cur, hg, by rw [hc]; show n ≤ cap * 1; omega, fun i hi => ?_⟩
    have := (h.atU i (by omega)).1
    simpa [World.cell?, hg] using this

/-- the memory of an elimination: the struct at b0, the outer row at g0, row i in block rb i -/
structure RS (w wr : World) (B b0 g0 R L c0 : Nat) (p : Nat) (rb cp : Nat → Nat) (M : Nat → Nat → Nat) (vp : Value) (pv : List Int) (det : Nat) : Prop where
  box : wr.heap[b0]? = some (.cells #[.int .u64 p, .slice (some ⟨g0, 0, none⟩) R c0, vp, .int .u64 det] 161 (0, 0))
  out : RowAt wr g0 30 R (fun i => .slice (some ⟨rb i, 0, none⟩) L (cp i))
  row : ∀ i, i < R → RowAt wr (rb i) 22 L (fun j => .int .u64 (M i j : Nat))
  inj : ∀ i k, i < R → k < R → rb i = rb k → i = k
  sep : ∀ i, i < R → rb i ≠ g0 ∧ rb i ≠ b0 ∧ B ≤ rb i
  sep0 : g0 ≠ b0 ∧ B ≤ g0 ∧ B ≤ b0
  piv : Ow kI wr B 3 vp pv
  psep : ∀ g, vp.ownBlock = some g → g ≠ g0 ∧ g ≠ b0 ∧ ∀ i, i < R → g ≠ rb i
  bel : Below B w wr
  lt : ∀ i j, i < R → j < L → M i j < p
  dt : det < p


theorem Below.set {B : Nat} {a w : World} (h : Below B a w) {p : Addr} (hp : B ≤ p.block) (u : Value) : Below B a (w.setCell p u) := h.setCell hp u
theorem Ow.set_far {α : Type} {K : Kn α} {w : World} {base : Nat} {e : TypeId} {v : Value} {xs : List α} (h : Ow K w base e v xs) (a : Addr) (u : Value) (hne : v.ownBlock ≠ some a.block)
    (hE : ∀ us x, x ∈ xs → K.R w (Ne v.ownBlock) us x → K.R w (fun b => Ne v.ownBlock b ∧ Ne (some a.block) b) us x) : Ow K (w.setCell a u) base e v xs := by
  refine h.keep (row := some a.block) ⟨rfl, rfl, rfl, by simp [World.setCell], fun k hk hne => heap_setCell_ne _ _ _ _ (fun e => hne (by rw [e]))⟩ (.inr hne) hE
section
variable {w wr : World} {B b0 g0 R L c0 : Nat} {p : Nat} {rb cp : Nat → Nat} {M : Nat → Nat → Nat} {vp : Value} {pv : List Int} {det : Nat}
/-- a word of a row is written -/
theorem RS.put (h : RS w wr B b0 g0 R L c0 p rb cp M vp pv det) (i j x : Nat) (hi : i < R) (hj : j < L) (hx : x < p) :
    RS w (wr.setCell ⟨rb i, j, none⟩ (.int .u64 (x : Int))) B b0 g0 R L c0 p rb cp (fun i' j' => if i' = i ∧ j' = j then x else M i' j') vp pv det where
  box := by rw [heap_setCell_ne _ _ _ _ (h.sep i hi).2.1.symm]; exact h.box
  out := h.out.same (heap_setCell_ne _ _ _ _ (h.sep i hi).1.symm)
  row := fun i' hi' => by
    by_cases e : i' = i
    · subst e
      refine ((h.row i' hi').set j (.int .u64 (x : Int))).congr fun t ht => ?_
      by_cases e2 : t = j <;> simp [e2]
    · refine ((h.row i' hi').same (heap_setCell_ne _ _ _ _ (fun e2 => e (h.inj i' i hi' hi e2)))).congr fun t ht => ?_
      simp [e]
  inj := h.inj
  sep := h.sep
  sep0 := h.sep0
  piv := h.piv.set_far _ _ (fun e => ((h.psep _ e).2.2 i hi) rfl) fun _ _ _ h => h
  psep := h.psep
  bel := h.bel.setCell (h.sep i hi).2.2 _
  lt := fun i' j' h1 h2 => by
    show (if i' = i ∧ j' = j then x else M i' j') < p
    split
    · exact hx
    · exact h.lt i' j' h1 h2
  dt := h.dt
theorem RS.congr {M' : Nat → Nat → Nat} (h : RS w wr B b0 g0 R L c0 p rb cp M vp pv det) (e : ∀ i j, i < R → j < L → M i j = M' i j) : RS w wr B b0 g0 R L c0 p rb cp M' vp pv det :=
  { h with row := fun i hi => (h.row i hi).congr fun j hj => by rw [e i j hi hj], lt := fun i j h1 h2 => by rw [← e i j h1 h2]; exact h.lt i j h1 h2 }
theorem RS.dr {wr' : World} (h : RS w wr B b0 g0 R L c0 p rb cp M vp pv det) (k : Dr wr wr') : RS w wr' B b0 g0 R L c0 p rb cp M vp pv det where
  box := by rw [k.heap]; exact h.box
  out := h.out.same (by rw [k.heap])
  row := fun i hi => (h.row i hi).same (by rw [k.heap])
  inj := h.inj
  sep := h.sep
  sep0 := h.sep0
  piv := h.piv.dr k
  psep := h.psep
  bel := Bl.dr h.bel k
  lt := h.lt
  dt := h.dt
/-- the determinant is written -/
theorem RS.setDet (h : RS w wr B b0 g0 R L c0 p rb cp M vp pv det) (d : Nat) (hd : d < p) : RS w (wr.setCell ⟨b0, 3, none⟩ (.int .u64 (d : Int))) B b0 g0 R L c0 p rb cp M vp pv d where
  box := by
    have hb := h.box
    simp [World.setCell, Array.getElem?_modify, hb]
  out := h.out.same (heap_setCell_ne _ _ _ _ h.sep0.1)
  row := fun i hi => (h.row i hi).same (heap_setCell_ne _ _ _ _ (h.sep i hi).2.1)
  inj := h.inj
  sep := h.sep
  sep0 := h.sep0
  piv := h.piv.set_far _ _ (fun e => (h.psep _ e).2.1 rfl) fun _ _ _ h => h
  psep := h.psep
  bel := h.bel.setCell h.sep0.2.2 _
  lt := h.lt
  dt := hd
/-- two rows change places -/
theorem RS.swap (h : RS w wr B b0 g0 R L c0 p rb cp M vp pv det) (a b : Nat) (ha : a < R) (hb : b < R) :
    RS w ((wr.setCell ⟨g0, a, none⟩ (.slice (some ⟨rb b, 0, none⟩) L (cp b))).setCell ⟨g0, b, none⟩ (.slice (some ⟨rb a, 0, none⟩) L (cp a))) B b0 g0 R L c0 p
      (fun i => rb (if i = b then a else if i = a then b else i)) (fun i => cp (if i = b then a else if i = a then b else i)) (fun i => M (if i = b then a else if i = a then b else i)) vp pv det := by
  have hs : ∀ i, i < R → (if i = b then a else if i = a then b else i) < R := fun i hi => by split; exact ha; split; exact hb; exact hi
  exact {
    box := by rw [heap_setCell_ne _ _ _ _ h.sep0.1.symm, heap_setCell_ne _ _ _ _ h.sep0.1.symm]; exact h.box
    out := ((h.out.set a _).set b _).congr fun i hi => by
      by_cases e1 : i = b
      · subst e1; simp
      · by_cases e2 : i = a
        · subst e2; simp [e1]
        · simp [e1, e2]
    row := fun i hi => ((h.row _ (hs i hi)).same (heap_setCell_ne _ _ _ _ (h.sep _ (hs i hi)).1)).same (heap_setCell_ne _ _ _ _ (h.sep _ (hs i hi)).1)
    inj := fun i k hi hk e => by
      have := h.inj _ _ (hs i hi) (hs k hk) e
      split at this <;> split at this <;> (try split at this) <;> (try split at this) <;> omega
    sep := fun i hi => h.sep _ (hs i hi)
    sep0 := h.sep0
    piv := (h.piv.set_far _ _ (fun e => (h.psep _ e).1 rfl) fun _ _ _ h => h).set_far _ _ (fun e => (h.psep _ e).1 rfl) fun _ _ _ h => h
    psep := fun g hg => ⟨(h.psep g hg).1, (h.psep g hg).2.1, fun i hi => (h.psep g hg).2.2 _ (hs i hi)⟩
    bel := (h.bel.setCell h.sep0.2.1 _).setCell h.sep0.2.1 _
    lt := fun i j hi hj => h.lt _ j (hs i hi) hj
    dt := h.dt }
end

/-- .. while the rows are being copied: the first k are -/
structure R1 (w w1 wr : World) (g0 R L c0 k : Nat) (p : Nat) (rb cp : Nat → Nat) (hd : Nat → Value) (m : List (List Nat)) : Prop where
  box : wr.heap[w1.heap.size]? = some (.cells #[.int .u64 p, .slice (some ⟨g0, 0, none⟩) R c0, .slice none 0 0, .int .u64 1] 161 (0, 0))
  out : RowAt wr g0 30 R (fun i => if i < k then .slice (some ⟨rb i, 0, none⟩) L (cp i) else hd i)
  row : ∀ i, i < k → RowAt wr (rb i) 22 L (fun j => .int .u64 ((m.getD i []).getD j 0 : Nat))
  inj : ∀ i k', i < k → k' < k → rb i = rb k' → i = k'
  sep : ∀ i, i < k → w1.heap.size < rb i
  sep0 : w.heap.size ≤ g0 ∧ g0 < w1.heap.size
  old : ∀ b, b < w1.heap.size → b ≠ g0 → wr.heap[b]? = w1.heap[b]?
  size : w1.heap.size < wr.heap.size
  bel : Below w.heap.size w wr

theorem Dr.alloc_heap (w : World) (b : Obj) : (w.alloc b).heap = w.heap.push b := rfl
theorem R1.start {w w1 : World} {g0 R L c0 p : Nat} {hd : Nat → Value} {m : List (List Nat)} (h1 : w.heap.size ≤ g0) (h2 : g0 < w1.heap.size) (hd1 : RowAt w1 g0 30 R hd) (hB : Bl w w1) :
    R1 w w1 (w1.alloc (.cells #[.int .u64 p, .slice (some ⟨g0, 0, none⟩) R c0, .slice none 0 0, .int .u64 1] 161)) g0 R L c0 0 p (fun _ => 0) (fun _ => 0) hd m := by
  have ho : ∀ b, b < w1.heap.size → (w1.alloc (.cells #[.int .u64 p, .slice (some ⟨g0, 0, none⟩) R c0, .slice none 0 0, .int .u64 1] 161)).heap[b]? = w1.heap[b]? := fun b hb => by
    rw [Dr.alloc_heap, Array.getElem?_push, if_neg (show ¬ b = w1.heap.size by omega)]
  exact {
    box := by rw [Dr.alloc_heap]; simp
    out := (hd1.same (ho _ h2)).congr fun i hi => by simp
    row := fun i hi => by omega
    inj := fun i k' hi => by omega
    sep := fun i hi => by omega
    sep0 := ⟨h1, h2⟩
    old := fun b hb _ => ho b hb
    size := by rw [Dr.alloc_heap]; simp
    bel := hB.alloc hB.size _ }

theorem R1.step {w w1 wr wc : World} {g0 R L c0 k p : Nat} {rb cp : Nat → Nat} {hd : Nat → Value} {m : List (List Nat)} {gc cc base : Nat} (h : R1 w w1 wr g0 R L c0 k p rb cp hd m) (hk : k < R)
    (hB : Bl wr.drew wc) (hO : Ow kU wc base 22 (.slice (some ⟨gc, 0, none⟩) L cc) (m.getD k [])) (hg : wr.heap.size ≤ gc) :
    R1 w w1 (wc.setCell ⟨g0, k, none⟩ (.slice (some ⟨gc, 0, none⟩) L cc)) g0 R L c0 (k + 1) p (fun i => if i = k then gc else rb i) (fun i => if i = k then cc else cp i) hd m := by
  have hb : ∀ b, b < wr.heap.size → b ≠ g0 → (wc.setCell ⟨g0, k, none⟩ (.slice (some ⟨gc, 0, none⟩) L cc)).heap[b]? = wr.heap[b]? := fun b hb hne => by
    rw [heap_setCell_ne _ _ _ _ hne]; exact hB.block b hb
  have hsz := h.size
  have hs0 := h.sep0
  have hlt : ∀ i, i < k → rb i < wr.heap.size := fun i hi => (h.row i hi).lt
  have hgs : gc ≠ g0 := by omega
  exact {
    box := by rw [hb _ hsz (by omega)]; exact h.box
    out := by
      refine ((h.out.same (w' := wc) (hB.block g0 (by show g0 < wr.heap.size; omega))).set k _).congr fun i hi => ?_
      by_cases e : i = k
      · subst e; simp
      · simp only [e, if_false]
        by_cases e2 : i < k
        · simp [e2, show i < k + 1 by omega]
        · simp [e2, show ¬ i < k + 1 by omega]
    row := fun i hi => by
      by_cases e : i = k
      · subst e
        simp only [if_true]
        exact hO.rowAtU.same (heap_setCell_ne _ _ _ _ hgs)
      · simp only [e, if_false]
        have hi' : i < k := by omega
        have := h.sep i hi'
        exact (h.row i hi').same (hb _ (hlt i hi') (by omega))
    inj := fun i k' hi hk' => by
      by_cases e : i = k <;> by_cases e' : k' = k <;> simp only [e, e', if_true, if_false]
      · exact fun _ => trivial
      · intro hh; have := hlt k' (by omega); omega
      · intro hh; have := hlt i (by omega); omega
      · exact h.inj i k' (by omega) (by omega)
    sep := fun i hi => by
      by_cases e : i = k
      · subst e; simp only [if_true]; omega
      · simp only [e, if_false]; exact h.sep i (by omega)
    sep0 := hs0
    old := fun b h1 h2 => by rw [hb b (by omega) h2]; exact h.old b h1 h2
    size := by
      have := hB.size
      simp only [World.setCell, Array.size_modify] 
      have e : wr.drew.heap.size = wr.heap.size := rfl
      omega
    bel := by
      have h1 : Below w.heap.size w wr.drew := Bl.dr h.bel (Dr.one (Dr.refl _))
      have h2 : Below w.heap.size w wc := Bl.then h1 (by show w.heap.size ≤ wr.heap.size; omega) hB
      exact h2.setCell hs0.1 _ }

theorem R1.done {w w1 wr : World} {g0 R L c0 p : Nat} {rb cp : Nat → Nat} {hd : Nat → Value} {m : List (List Nat)} (h : R1 w w1 wr g0 R L c0 R p rb cp hd m) (hB : w.heap.size ≤ w1.heap.size) (hp : 1 < p)
    (hm : ∀ i j, i < R → j < L → (m.getD i []).getD j 0 < p) : RS w wr w.heap.size w1.heap.size g0 R L c0 p rb cp (fun i j => (m.getD i []).getD j 0) (.slice none 0 0) [] 1 where
  box := h.box
  out := h.out.congr fun i hi => by simp [hi]
  row := h.row
  inj := h.inj
  sep := fun i hi => by have := h.sep i hi; have := h.sep0; refine ⟨?_, ?_, ?_⟩ <;> omega
  sep0 := by have := h.sep0; refine ⟨?_, ?_, ?_⟩ <;> omega
  piv := Ow.nil _ _ _ _
  psep := fun g hg => by cases hg
  bel := h.bel
  lt := hm
  dt := hp
theorem R1.rd {w w1 wr : World} {g0 R L c0 k p : Nat} {rb cp : Nat → Nat} {hd : Nat → Value} {m : List (List Nat)} (h : R1 w w1 wr g0 R L c0 k p rb cp hd m) {v : Value} {xs : List Nat}
    (hr : (kS kU).R w1 (Ne (some g0)) [v] xs) : (kS kU).R wr (Ne (some g0)) [v] xs :=
  (kS kU).kp hr fun b hb hne => h.old b hb fun e => hne (by rw [e])
/-- the heads of a copied row -/
theorem Ow.heads {w : World} {base g n c : Nat} {e : TypeId} {xs : List (List Nat)} (h : Ow (kS kU) w base e (.slice (some ⟨g, 0, none⟩) n c) xs) :
    ∃ hd : Nat → Value, RowAt w g e n hd ∧ ∀ i, i < n → (kS kU).R w (Ne (some g)) [hd i] (xs.getD i []) := by
  have hl := h.len_eq
  have hat : ∀ i, i < n → ∃ u, w.cell? ⟨g, i, none⟩ = some u ∧ (kS kU).R w (Ne (some g)) [u] (xs.getD i []) := fun i hi => by
    obtain ⟨u, h1, h2, h3⟩ := h.at_ rfl i (xs.getD i []) (by rw [List.getD_eq_getElem?_getD, List.getElem?_eq_getElem (by omega)]; rfl)
    exact ⟨u, h1, h3⟩
  obtain ⟨us, hul, ho, hr⟩ := h
  rcases ho.2 with ⟨h', _⟩ | ⟨g', cap, cur, h', hb, hg, hn, hm, hc, ht⟩
  · cases h'
  · injection h' with h1 h2 h3; injection h1 with h1; injection h1 with h1
    subst h1
    refine ⟨fun i => peek w ⟨g, i, none⟩, ⟨cur, hg, by rw [hc]; show n ≤ cap * 1; omega, fun i hi => ?_⟩, fun i hi => ?_⟩
    · obtain ⟨u, hu, _⟩ := hat i hi
      have hu' := peek_of hu
      simpa [World.cell?, hg] using hu'
    · obtain ⟨u, hu, hk⟩ := hat i hi
      have : peek w ⟨g, i, none⟩ = u := by unfold peek; rw [hu]; rfl
      show (kS kU).R w (Ne (some g)) [peek w ⟨g, i, none⟩] _
      rw [this]; exact hk

section
variable {w wr : World} {B b0 g0 R L c0 : Nat} {p : Nat} {rb cp : Nat → Nat} {M : Nat → Nat → Nat} {vp : Value} {pv : List Int} {det : Nat}
/-- a pivot is noted -/
theorem RS.push {w1 : World} {v1 : Value} {x : Int} (h : RS w wr B b0 g0 R L c0 p rb cp M vp pv det) (hO : Ow kI w1 B 3 v1 (pv ++ [x])) (hB : Below B w w1) (hg : wr.grownBy w1 vp.ownBlock)
    (hown : v1.ownBlock = vp.ownBlock ∨ ∃ b, v1.ownBlock = some b ∧ wr.heap.size ≤ b) : RS w (w1.setCell ⟨b0, 2, none⟩ v1) B b0 g0 R L c0 p rb cp M v1 (pv ++ [x]) det := by
  have hb0 : b0 < wr.heap.size := (Array.getElem?_eq_some_iff.1 h.box).1
  have k1 : ∀ b, b < wr.heap.size → vp.ownBlock ≠ some b → w1.heap[b]? = wr.heap[b]? := fun b hb hne => hg.block b hb fun e => hne e.symm
  have k2 : w1.heap[b0]? = wr.heap[b0]? := k1 b0 hb0 fun e => (h.psep _ e).2.1 rfl
  have k3 : w1.heap[g0]? = wr.heap[g0]? := k1 g0 h.out.lt fun e => (h.psep _ e).1 rfl
  have k4 : ∀ i, i < R → w1.heap[rb i]? = wr.heap[rb i]? := fun i hi => k1 _ (h.row i hi).lt fun e => (h.psep _ e).2.2 i hi rfl
  have ps : ∀ g, v1.ownBlock = some g → g ≠ g0 ∧ g ≠ b0 ∧ ∀ i, i < R → g ≠ rb i := fun g hg' => by
    rcases hown with e | ⟨b, e, hb⟩
    · exact h.psep g (e ▸ hg')
    · rw [hg'] at e; injection e with e; subst e
      have := h.out.lt
      exact ⟨by omega, by omega, fun i hi => by have := (h.row i hi).lt; omega⟩
  exact {
    box := by
      have hb := k2.trans h.box
      simp [World.setCell, Array.getElem?_modify, hb]
    out := (h.out.same k3).same (heap_setCell_ne _ _ _ _ h.sep0.1)
    row := fun i hi => ((h.row i hi).same (k4 i hi)).same (heap_setCell_ne _ _ _ _ (h.sep i hi).2.1)
    inj := h.inj
    sep := h.sep
    sep0 := h.sep0
    piv := hO.set_far _ _ (fun e => (ps _ e).2.1 rfl) fun _ _ _ h => h
    psep := ps
    bel := hB.setCell h.sep0.2.2 _
    lt := h.lt
    dt := h.dt }
/-- scaling, up to column j; elimination, up to row i; .. up to column j of row i -/
def mscl1 (p : Nat) (M : Nat → Nat → Nat) (r iv j : Nat) : Nat → Nat → Nat := fun i' j' => if i' = r ∧ j' < j then fmul p iv (M r j') else M i' j'
def melim1 (p : Nat) (M : Nat → Nat → Nat) (r c i : Nat) : Nat → Nat → Nat := fun i' j' => if i' < i then melim p M r c i' j' else M i' j'
def melim2 (p : Nat) (M : Nat → Nat → Nat) (r c i f j : Nat) : Nat → Nat → Nat := fun i' j' => if i' < i then melim p M r c i' j' else if i' = i ∧ j' < j then fsub p (M i j') (fmul p f (M r j')) else M i' j'
theorem RS.scl0 {r iv : Nat} (h : RS w wr B b0 g0 R L c0 p rb cp M vp pv det) : RS w wr B b0 g0 R L c0 p rb cp (mscl1 p M r iv 0) vp pv det := h.congr fun i j _ _ => by simp [mscl1]
theorem RS.scl1 {r iv j : Nat} (h : RS w wr B b0 g0 R L c0 p rb cp (mscl1 p M r iv j) vp pv det) (hp : 0 < p) (hr : r < R) (hj : j < L) :
    RS w (wr.setCell ⟨rb r, j, none⟩ (.int .u64 (fmul p iv (M r j) : Nat))) B b0 g0 R L c0 p rb cp (mscl1 p M r iv (j + 1)) vp pv det :=
  (h.put r j _ hr hj (fmul_lt hp _ _)).congr fun i' j' _ _ => by
    unfold mscl1
    by_cases e : i' = r
    · subst e
      by_cases e2 : j' = j
      · subst e2; simp
      · by_cases e3 : j' < j
        · simp [e2, e3, show j' < j + 1 by omega]
        · simp [e2, e3, show ¬ j' < j + 1 by omega]
    · simp [e]
theorem RS.sclL {r iv : Nat} (h : RS w wr B b0 g0 R L c0 p rb cp (mscl1 p M r iv L) vp pv det) : RS w wr B b0 g0 R L c0 p rb cp (mscl p M r iv) vp pv det :=
  h.congr fun i j _ hj => by unfold mscl1 mscl; by_cases e : i = r <;> simp [e, hj]
theorem RS.el0 {r c : Nat} (h : RS w wr B b0 g0 R L c0 p rb cp M vp pv det) : RS w wr B b0 g0 R L c0 p rb cp (melim1 p M r c 0) vp pv det := h.congr fun i j _ _ => by simp [melim1]
theorem RS.elR {r c : Nat} (h : RS w wr B b0 g0 R L c0 p rb cp (melim1 p M r c R) vp pv det) : RS w wr B b0 g0 R L c0 p rb cp (melim p M r c) vp pv det := h.congr fun i j hi _ => by simp [melim1, hi]
theorem RS.elskip {r c i : Nat} (h : RS w wr B b0 g0 R L c0 p rb cp (melim1 p M r c i) vp pv det) (hz : i = r ∨ M i c = 0) : RS w wr B b0 g0 R L c0 p rb cp (melim1 p M r c (i + 1)) vp pv det :=
  h.congr fun i' j' _ _ => by
    unfold melim1
    by_cases e : i' = i
    · subst e
      simp only [Nat.lt_irrefl, if_false, Nat.lt_succ_self, if_true, melim]
      rcases hz with e | e
      · simp [e]
      · by_cases e2 : i' = r <;> simp [e, e2]
    · by_cases e2 : i' < i
      · simp [e2, show i' < i + 1 by omega]
      · simp [e2, show ¬ i' < i + 1 by omega]
theorem RS.el2_0 {r c i f : Nat} (h : RS w wr B b0 g0 R L c0 p rb cp (melim1 p M r c i) vp pv det) : RS w wr B b0 g0 R L c0 p rb cp (melim2 p M r c i f 0) vp pv det :=
  h.congr fun i' j' _ _ => by simp [melim1, melim2]
theorem RS.el2_1 {r c i f j : Nat} (h : RS w wr B b0 g0 R L c0 p rb cp (melim2 p M r c i f j) vp pv det) (hp : 0 < p) (hi : i < R) (hj : j < L) :
    RS w (wr.setCell ⟨rb i, j, none⟩ (.int .u64 (fsub p (M i j) (fmul p f (M r j)) : Nat))) B b0 g0 R L c0 p rb cp (melim2 p M r c i f (j + 1)) vp pv det :=
  (h.put i j _ hi hj (fsub_lt hp _ _)).congr fun i' j' _ _ => by
    unfold melim2
    by_cases e : i' = i
    · subst e
      by_cases e2 : j' = j
      · subst e2; simp
      · by_cases e3 : j' < j
        · simp [e2, e3, show j' < j + 1 by omega]
        · simp [e2, e3, show ¬ j' < j + 1 by omega]
    · simp [e]
theorem RS.el2_L {r c i : Nat} (h : RS w wr B b0 g0 R L c0 p rb cp (melim2 p M r c i (M i c) L) vp pv det) (hr : i ≠ r) (h0 : M i c ≠ 0) : RS w wr B b0 g0 R L c0 p rb cp (melim1 p M r c (i + 1)) vp pv det :=
  h.congr fun i' j' _ hj => by
    unfold melim2 melim1
    by_cases e : i' = i
    · subst e
      simp [hj, melim, hr, h0]
    · by_cases e2 : i' < i
      · simp [e2, show i' < i + 1 by omega]
      · simp [e, e2, show ¬ i' < i + 1 by omega]
end
end Pv

set_option linter.unusedVariables false
set_option linter.unusedSimpArgs false
namespace Pv
open Go Go.RowKit Go.Proofs

/-- a slice of points -/
theorem rdP {w : World} {S : Nat → Prop} {v : Value} {xs : List (Nat × Nat)} (h : (kS (kP kU kU)).R w S [v] xs) :
    ∃ A c, v = .slice A xs.length c ∧ (xs.length ≤ c ∧ c ≤ 9223372036854775807) ∧
      ∀ j, j < xs.length → ∃ ad, A = some ad ∧ S ad.block ∧ w.cell? (ad.add (j * 2)) = some (.int .u64 ((xs.getD j (0, 0)).1 : Nat)) ∧ w.cell? (ad.add (j * 2 + 1)) = some (.int .u64 ((xs.getD j (0, 0)).2 : Nat)) ∧
        (xs.getD j (0, 0)).1 < 18446744073709551616 ∧ (xs.getD j (0, 0)).2 < 18446744073709551616 := by
  obtain ⟨A, n, c, e, h1, h2, h⟩ := h
  simp at e; subst e; subst h1
  refine ⟨A, c, rfl, h2, fun j hj => ?_⟩
  obtain ⟨ad, vs, e1, e2, e3, e4⟩ := h j _ (List.getElem?_eq_getElem hj)
  obtain ⟨u, v, e5, ⟨e6, e7⟩, e8, e9⟩ := e3
  subst e6; subst e8; subst e5
  have hx : xs.getD j (0, 0) = xs[j] := by rw [List.getD_eq_getElem?_getD, List.getElem?_eq_getElem hj]; rfl
  rw [hx]
  exact ⟨ad, e1, e2, e4 0 _ rfl, e4 1 _ rfl, e7, e9⟩

theorem add_succ (a : Addr) (n : Nat) : a.add (n + 1) = ⟨(a.add n).block, (a.add n).off + 1, none⟩ := by
  unfold Addr.add
  by_cases e : n = 0 <;> simp [e]; omega
/-- a kind whose readings stay in T -/
def kT {α : Type} (K : Kn α) (T : Nat → Prop) : Kn α where
  sz := K.sz
  pos := K.pos
  R := fun w S us x => K.R w (fun b => S b ∧ T b) us x
  len := K.len
  kp := fun h hk => K.kp h fun b hb hs => hk b hb hs.1
  sub := fun h hk => K.sub h fun b hb hs => ⟨hk b hb hs.1, hs.2⟩
  one := K.one
theorem Ow.monoT {α : Type} {K : Kn α} {T T' : Nat → Prop} {w : World} {base : Nat} {e : TypeId} {v : Value} {xs : List α} (h : Ow (kT K T) w base e v xs) (hT : ∀ b, b < w.heap.size → T b → T' b) : Ow (kT K T') w base e v xs := by
  obtain ⟨us, hl, ho, hr⟩ := h
  exact ⟨us, hl, ho, fun j u x h1 h2 => K.sub (hr j u x h1 h2) fun b hb hs => ⟨hs.1, hT b hb hs.2⟩⟩
theorem Ow.ofT {α : Type} {K : Kn α} {T : Nat → Prop} {w : World} {base : Nat} {e : TypeId} {v : Value} {xs : List α} (h : Ow (kT K T) w base e v xs) : Ow K w base e v xs := by
  obtain ⟨us, hl, ho, hr⟩ := h
  exact ⟨us, hl, ho, fun j u x h1 h2 => K.sub (hr j u x h1 h2) fun b hb hs => hs.1⟩
theorem Ap.step {v u v1 : Value} {N : Nat} (h : Ap v u) (hv : v1.ownBlock = v.ownBlock ∨ ∃ b, v1.ownBlock = some b ∧ N ≤ b) (hu : ∀ g, u.ownBlock = some g → g < N) : Ap v1 u := fun g h1 h2 => by
  rcases hv with e | ⟨b, e, hb⟩
  · exact h g (e ▸ h1) h2
  · rw [h1] at e; injection e with e; subst e; have := hu g h2; omega
end Pv
