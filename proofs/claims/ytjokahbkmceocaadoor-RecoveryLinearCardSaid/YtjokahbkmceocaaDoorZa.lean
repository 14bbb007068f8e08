import Derived.WalkKit
import Derived.Deep.QuietTactic
import Derived.BigQuiet
import Derived.Outline
import Derived.Maps.AppendAt
import Derived.Deep.OwnRows
import Derived.OneCell
import Derived.Deep.AppendLies
import Derived.KernelRfl
import Derived.StillTail
import Derived.Deep.RegionHeld
set_option linter.unusedVariables false
set_option linter.unusedSimpArgs false
namespace Pv
open Go Go.RowKit

theorem hide {p : Prop} (h : p) : Hid p := h
/-! ## worlds -/
/-- orders were drawn, nothing else -/
structure Dr (w w' : World) : Prop where mk :: (out : ∃ n, w' = w.drewN n)
theorem Dr.refl (w : World) : Dr w w := ⟨⟨0, rfl⟩⟩
theorem Dr.more {w w' : World} (h : Dr w w') (n : Nat) : Dr w (w'.drewN n) := by
  obtain ⟨m, rfl⟩ := h.out; exact ⟨⟨m + n, by rw [World.drewN_drewN]⟩⟩
theorem Dr.one {w w' : World} (h : Dr w w') : Dr w w'.drew := by rw [World.drew_is_drewN]; exact h.more 1
theorem Dr.trans {w w' w'' : World} (h : Dr w w') (k : Dr w' w'') : Dr w w'' := by
  obtain ⟨n, rfl⟩ := k.out; exact h.more n
theorem Dr.cell {w w' : World} (h : Dr w w') (a : Addr) : w'.cell? a = w.cell? a := by obtain ⟨m, rfl⟩ := h.out; rfl
theorem Dr.heap {w w' : World} (h : Dr w w') : w'.heap = w.heap := by obtain ⟨m, rfl⟩ := h.out; rfl
theorem Dr.below {w w' : World} (h : Dr w w') (B : Nat) : Below B w w' := by
  obtain ⟨m, rfl⟩ := h.out; exact ⟨rfl, rfl, rfl, Nat.le_refl _, fun _ _ => rfl⟩
theorem Dr.quiet {P : Program} {f : FuncId} {args : Array Value} {w : World} {n : Nat} {v : Value}
    (h : Calls P f args (w.drewN n) fun e w' => e = .returned v ∧ Dr (w.drewN n) w') : Calls P f args (w.drewN n) fun e w'' => e = .returned v ∧ ∃ m, w'' = w.drewN m :=
  h.mono fun _ _ ⟨he, ⟨m, hm⟩⟩ => ⟨he, n + m, by rw [hm, World.drewN_drewN]⟩

/-- all blocks that were there when the call began are as they were -/
abbrev Bl (w w' : World) : Prop := Below w.heap.size w w'
theorem Bl.drewN {B : Nat} {a w : World} (h : Below B a w) (n : Nat) : Below B a (w.drewN n) := ⟨h.os, h.tape, h.output, h.size, h.block⟩
theorem Bl.dr {B : Nat} {a w w' : World} (h : Below B a w) (k : Dr w w') : Below B a w' := by obtain ⟨n, rfl⟩ := k.out; exact Bl.drewN h n
theorem Bl.then {B : Nat} {a w w' : World} (h : Below B a w) (hB : B ≤ w.heap.size) (k : Bl w w') : Below B a w' := h.trans (k.mono hB)
theorem Bl.le {B : Nat} {a w : World} (h : Below B a w) (hB : B ≤ a.heap.size) : B ≤ w.heap.size := Nat.le_trans hB h.size

/-- blocks in S are as they were -/
def Kp (S : Nat → Prop) (w w' : World) : Prop := ∀ b, b < w.heap.size → S b → w'.heap[b]? = w.heap[b]?
theorem Kp.refl (S : Nat → Prop) (w : World) : Kp S w w := fun _ _ _ => rfl
theorem Kp.of_bl {S : Nat → Prop} {B : Nat} {w w' : World} (h : Below B w w') (hS : ∀ b, b < w.heap.size → S b → b < B) : Kp S w w' := fun b hb hs => h.block b (hS b hb hs)
theorem Bl.kp {w w' : World} (h : Bl w w') (S : Nat → Prop) : Kp S w w' := fun b hb _ => h.block b hb
theorem Dr.kp {w w' : World} (h : Dr w w') (S : Nat → Prop) : Kp S w w' := fun b _ _ => by rw [h.heap]
theorem Kp.grown {S : Nat → Prop} {w w' : World} {row : Option Nat} (h : w.grownBy w' row) (hS : ∀ b, S b → some b ≠ row) : Kp S w w' := fun b hb hs => h.block b hb (hS b hs)

/-! ## what values read as -/
/-- a kind of element: its cells, what they read as; S: the blocks that the reading may meet -/
structure Kn (α : Type) where
  sz : Nat
  R : World → (Nat → Prop) → List Value → α → Prop
  pos : 0 < sz
  len : ∀ {w S us x}, R w S us x → us.length = sz
  kp : ∀ {w w' S us x}, R w S us x → Kp S w w' → R w' S us x
  sub : ∀ {w S S' us x}, R w S us x → (∀ b, b < w.heap.size → S b → S' b) → R w S' us x
  one : ∀ {w S us x}, R w S us x → ∀ u, u ∈ us → u.oneCell' = true

def Any : Nat → Prop := fun _ => True
def Ne (o : Option Nat) : Nat → Prop := fun b => some b ≠ o

theorem Kn.any {α : Type} (K : Kn α) {w : World} {S : Nat → Prop} {us : List Value} {x : α} (h : K.R w S us x) : K.R w Any us x := K.sub h fun _ _ _ => trivial

/-- a uint64 -/
def kU : Kn Nat where
  sz := 1
  pos := by decide
  R := fun _ _ us x => us = [.int .u64 (x : Int)] ∧ x < 18446744073709551616
  len := fun h => by rw [h.1]; rfl
  kp := fun h _ => h
  sub := fun h _ => h
  one := fun h u hu => by rw [h.1] at hu; simp at hu; subst hu; rfl
/-- an int -/
def kI : Kn Int where
  sz := 1
  pos := by decide
  R := fun _ _ us x => us = [.int .i64 x] ∧ -9223372036854775808 ≤ x ∧ x ≤ 9223372036854775807
  len := fun h => by rw [h.1]; rfl
  kp := fun h _ => h
  sub := fun h _ => h
  one := fun h u hu => by rw [h.1] at hu; simp at hu; subst hu; rfl
def kB : Kn Bool where
  sz := 1
  pos := by decide
  R := fun _ _ us x => us = [.bool x]
  len := fun h => by rw [h]; rfl
  kp := fun h _ => h
  sub := fun h _ => h
  one := fun h u hu => by rw [h] at hu; simp at hu; subst hu; rfl
/-- two things side by side -/
def kP {α β : Type} (K : Kn α) (L : Kn β) : Kn (α × β) where
  sz := K.sz + L.sz
  pos := Nat.add_pos_left K.pos _
  R := fun w S us x => ∃ u v, us = u ++ v ∧ K.R w S u x.1 ∧ L.R w S v x.2
  len := fun ⟨u, v, e, h, k⟩ => by rw [e, List.length_append, K.len h, L.len k]
  kp := fun ⟨u, v, e, h, k⟩ hk => ⟨u, v, e, K.kp h hk, L.kp k hk⟩
  sub := fun ⟨u, v, e, h, k⟩ hk => ⟨u, v, e, K.sub h hk, L.sub k hk⟩
  one := fun ⟨u, v, e, h, k⟩ x hx => by
    subst e
    rcases List.mem_append.1 hx with hx | hx
    · exact K.one h x hx
    · exact L.one k x hx
def kM {α β : Type} (f : β → α) (K : Kn α) : Kn β where
  sz := K.sz
  pos := K.pos
  R := fun w S us x => K.R w S us (f x)
  len := K.len
  kp := K.kp
  sub := K.sub
  one := K.one

theorem cell_kp {S : Nat → Prop} {w w' : World} (hk : Kp S w w') {a : Addr} {v : Value} (h : w.cell? a = some v) (hS : S a.block) : w'.cell? a = some v :=
  (World.cell?_of_block (hk a.block (World.block_lt_of_cell? w a h) hS)).trans h

theorem add_block (a : Addr) (j : Nat) : (a.add j).block = a.block := by unfold Addr.add; split <;> rfl

/-- a slice, element by element -/
def kS {α : Type} (K : Kn α) : Kn (List α) where
  sz := 1
  pos := by decide
  R := fun w S us xs => ∃ A n c, us = [.slice A n c] ∧ xs.length = n ∧ (n ≤ c ∧ c ≤ 9223372036854775807) ∧
    ∀ (j : Nat) x, xs[j]? = some x → ∃ ad vs, A = some ad ∧ S ad.block ∧ K.R w S vs x ∧ ∀ (t : Nat) u, vs[t]? = some u → w.cell? (ad.add (j * K.sz + t)) = some u
  len := fun ⟨_, _, _, e, _⟩ => by rw [e]; rfl
  kp := fun ⟨A, n, c, e, h1, h2, h⟩ hk => ⟨A, n, c, e, h1, h2, fun j x hx => by
    obtain ⟨ad, vs, e1, e2, e3, e4⟩ := h j x hx
    exact ⟨ad, vs, e1, e2, K.kp e3 hk, fun t u hu => cell_kp hk (e4 t u hu) (by rw [add_block]; exact e2)⟩⟩
  sub := fun {w S S' us xs} ⟨A, n, c, e, h1, h2, h⟩ hk => ⟨A, n, c, e, h1, h2, fun j x hx => by
    obtain ⟨ad, vs, e1, e2, e3, e4⟩ := h j x hx
    have hp := K.pos
    rw [← K.len e3] at hp
    have hl : ad.block < w.heap.size := by
      have := World.block_lt_of_cell? w _ (e4 0 vs[0] (by simp [List.getElem?_eq_getElem hp]))
      rwa [add_block] at this
    exact ⟨ad, vs, e1, hk _ hl e2, K.sub e3 hk, e4⟩⟩
  one := fun ⟨_, _, _, e, _⟩ u hu => by rw [e] at hu; simp at hu; subst hu; rfl

theorem kS_len {α : Type} {K : Kn α} {w : World} {S : Nat → Prop} {v : Value} {xs : List α} (h : (kS K).R w S [v] xs) :
    ∃ A c, v = .slice A xs.length c ∧ xs.length ≤ c ∧ c ≤ 9223372036854775807 := by
  obtain ⟨A, n, c, e, h1, h2, _⟩ := h
  simp at e; subst e; subst h1
  exact ⟨A, c, rfl, h2⟩

/-! ## rows that the call itself made -/
/-- v is the header of a row made here (block from base on, cells of type e), it holds xs; what the elements lead to avoids that row -/
def Ow {α : Type} (K : Kn α) (w : World) (base : Nat) (e : TypeId) (v : Value) (xs : List α) : Prop :=
  ∃ us : List (List Value), us.length = xs.length ∧ w.ownsRow base e K.sz v xs.length us.flatten ∧
    ∀ (j : Nat) u x, us[j]? = some u → xs[j]? = some x → K.R w (Ne v.ownBlock) u x

theorem Ow.nil {α : Type} (K : Kn α) (w : World) (base : Nat) (e : TypeId) : Ow K w base e (.slice none 0 0) ([] : List α) :=
  ⟨[], rfl, World.ownsRow_nil w base e K.sz, fun j u x h => by simp at h⟩

theorem flat_at {α : Type} (K : Kn α) : ∀ (us : List (List Value)), (∀ u, u ∈ us → u.length = K.sz) → ∀ (j t : Nat) (u : List Value) (y : Value), us[j]? = some u → u[t]? = some y → us.flatten[j * K.sz + t]? = some y
  | [], _, j, t, u, y, h, _ => by simp at h
  | v :: us, hl, 0, t, u, y, h, k => by
    simp at h; subst h
    simp only [List.flatten_cons, Nat.zero_mul, Nat.zero_add]
    rw [List.getElem?_append_left (by exact (List.getElem?_eq_some_iff.1 k).1)]; exact k
  | v :: us, hl, j + 1, t, u, y, h, k => by
    have ih := flat_at K us (fun u hu => hl u (by simp [hu])) j t u y (by simpa using h) k
    have hv := hl v (by simp)
    simp only [List.flatten_cons]
    rw [List.getElem?_append_right (by rw [hv, Nat.add_mul]; omega), hv]
    rw [show (j + 1) * K.sz + t - K.sz = j * K.sz + t by rw [Nat.add_mul]; omega]; exact ih

theorem Ow.lens {α : Type} {K : Kn α} {w : World} {v : Value} {xs : List α} {us : List (List Value)} (hl : us.length = xs.length)
    (h : ∀ (j : Nat) u x, us[j]? = some u → xs[j]? = some x → K.R w (Ne v.ownBlock) u x) : ∀ u, u ∈ us → u.length = K.sz := by
  intro u hu
  obtain ⟨j, hj, rfl⟩ := List.getElem_of_mem hu
  exact K.len (h j _ (xs[j]'(by omega)) (List.getElem?_eq_getElem hj) (List.getElem?_eq_getElem (by omega)))

/-- what is owned reads as its list -/
theorem Ow.reads {α : Type} {K : Kn α} {w : World} {base : Nat} {e : TypeId} {v : Value} {xs : List α} (h : Ow K w base e v xs) : (kS K).R w Any [v] xs := by
  obtain ⟨us, hl, ho, hr⟩ := h
  have hlen := Ow.lens hl hr
  rcases ho.2 with ⟨rfl, h0⟩ | ⟨g, cap, cur, rfl, hb, hg, hn, hm, hc, ht⟩
  · have : xs = [] := List.eq_nil_of_length_eq_zero h0
    subst this
    exact ⟨none, 0, 0, rfl, rfl, ⟨by simp, by omega⟩, fun j x hx => by simp at hx⟩
  · refine ⟨_, _, _, rfl, rfl, ⟨hn, by simp only [maxLen] at hm; omega⟩, fun j x hx => ?_⟩
    have hj : j < us.length := by rw [hl]; exact (List.getElem?_eq_some_iff.1 hx).1
    refine ⟨⟨g, 0, none⟩, us[j], rfl, trivial, K.any (hr j _ x (List.getElem?_eq_getElem hj) hx), fun t u hu => ?_⟩
    exact ho.cells (g := g) rfl _ _ (flat_at K us hlen j t _ u (List.getElem?_eq_getElem hj) hu)

/-- .. and its blocks lie where the row was made or in S -/
theorem Ow.kp {α : Type} {K : Kn α} {w w' : World} {base : Nat} {e : TypeId} {v : Value} {xs : List α} (h : Ow K w base e v xs) (hk : Kp Any w w') : Ow K w' base e v xs := by
  obtain ⟨us, hl, ho, hr⟩ := h
  refine ⟨us, hl, ?_, fun j u x h1 h2 => K.kp (hr j u x h1 h2) fun b hb _ => hk b hb trivial⟩
  refine ⟨ho.1, ?_⟩
  rcases ho.2 with hn | ⟨g, cap, cur, rfl, hb, hg, rest⟩
  · exact .inl hn
  · exact .inr ⟨g, cap, cur, rfl, hb, by rw [hk g (Array.getElem?_eq_some_iff.1 hg).1 trivial]; exact hg, rest⟩
theorem Ow.bl {α : Type} {K : Kn α} {w w' : World} {base : Nat} {e : TypeId} {v : Value} {xs : List α} (h : Ow K w base e v xs) (hk : Bl w w') : Ow K w' base e v xs := h.kp (hk.kp Any)
theorem Ow.dr {α : Type} {K : Kn α} {w w' : World} {base : Nat} {e : TypeId} {v : Value} {xs : List α} (h : Ow K w base e v xs) (hk : Dr w w') : Ow K w' base e v xs := h.kp (hk.kp Any)
theorem Ow.mono {α : Type} {K : Kn α} {w : World} {base base' : Nat} {e : TypeId} {v : Value} {xs : List α} (h : Ow K w base e v xs) (hb : base' ≤ base) : Ow K w base' e v xs := by
  obtain ⟨us, hl, ho, hr⟩ := h
  refine ⟨us, hl, ⟨ho.1, ?_⟩, hr⟩
  rcases ho.2 with hn | ⟨g, cap, cur, h1, h2, rest⟩
  · exact .inl hn
  · exact .inr ⟨g, cap, cur, h1, Nat.le_trans hb h2, rest⟩
theorem Ow.base {α : Type} {K : Kn α} {w : World} {base : Nat} {e : TypeId} {v : Value} {xs : List α} (h : Ow K w base e v xs) : ∀ k, v.ownBlock = some k → base ≤ k ∧ k < w.heap.size := by
  obtain ⟨us, hl, ho, hr⟩ := h
  exact ho.lt
theorem Ow.slice {α : Type} {K : Kn α} {w : World} {base : Nat} {e : TypeId} {v : Value} {xs : List α} (h : Ow K w base e v xs) : ∃ A c, v = .slice A xs.length c ∧ xs.length ≤ c ∧ c ≤ 9223372036854775807 := kS_len h.reads

/-- append(v, x): the law for the walk; 'hS': what x leads to avoids the row -/
theorem Ow.append {α : Type} {P : Program} {ops : Array Oper} {rest : List Oper} {o : Oper} {a : Act} {Q : Exit → Act → World → Prop} (K : Kn α) {w0 W : World} (base : Nat)
    (hgd : o.guard = none) (s y : Operand) (t e : TypeId) (z : Value) (bytes : Nat)
    (ho : o.op = .call { callee := .builtin .append, args := #[s, y], argTypes := #[t, t] })
    (ht : P.underlying t = some (.slice e)) (hinfo : (P.info? e).map (fun i => (i.zero, i.size, i.bytes)) = some (some z, K.sz, bytes)) (hz : z.cells.size = K.sz)
    (v : Value) (xs : List α) (us : List Value) (x : α) (hs : a.eval s = v) (hy : a.eval y = .slice (some ⟨W.heap.size, 0, none⟩) 1 1)
    (HO : Ow K W base e v xs) (HB : Below base w0 W) (hbase : base ≤ W.heap.size) (HX : K.R W (Ne v.ownBlock) us x) (hl : (xs.length + 1) * bytes ≤ 140737488355328) (hb0 : 0 < bytes)
    (h : ∀ v1 w1, Ow K w1 base e v1 (xs ++ [x]) → Below base w0 w1 → W.grownBy w1 v.ownBlock → (v1.ownBlock = v.ownBlock ∨ ∃ b, v1.ownBlock = some b ∧ W.heap.size ≤ b) → wpList P ops Q rest (a.put o.dst v1) w1) :
    wpList P ops Q (o :: rest) a (W.alloc (.cells us.toArray e)) := by
  obtain ⟨i0, hi, hzz⟩ := Option.map_eq_some_iff.1 hinfo
  simp only [Prod.mk.injEq] at hzz
  obtain ⟨hz0, hz1, hz2⟩ := hzz
  have hlen : xs.length + 1 ≤ 140737488355328 := Nat.le_trans (Nat.le_mul_of_pos_right _ hb0) hl
  obtain ⟨uss, hul, HO1, HO2⟩ := HO
  have hub := K.len HX
  refine wpList_append_own_at (W.alloc (.cells us.toArray e)) hgd s y t ho base e i0 z K.sz bytes ht hi hz0 hz1 hz2 hz K.pos v xs.length uss.flatten hs (HO1.alloc _) ⟨W.heap.size, 0, none⟩ 1 1 us hy (by rw [hub, Nat.one_mul])
    (World.news_of_block (cs := us.toArray) (t := e) (fr := (0, 0)) (heap_alloc_new W _)) (K.one HX) (by simp only [maxLen]; omega) hl (by simp; omega) ?_
  intro v1 w1 hown hg _ hat
  have hg' : W.grownBy w1 v.ownBlock := World.grownBy.trans (World.grownBy_alloc W _ _) hg
  have hat' : v1.ownBlock = v.ownBlock ∨ ∃ b, v1.ownBlock = some b ∧ W.heap.size ≤ b := by
    rcases hat with hat | hat
    · exact .inl hat
    · exact .inr ⟨_, hat, by simp⟩
  have keep : ∀ {u : List Value} {x : α}, K.R W (Ne v.ownBlock) u x → K.R w1 (Ne v1.ownBlock) u x := by
    intro u x hr
    have h1 : K.R W (fun b => Ne v.ownBlock b ∧ b < W.heap.size) u x := K.sub hr fun b hb hs => ⟨hs, hb⟩
    refine K.sub (K.kp h1 (Kp.grown hg' fun b hb => hb.1)) fun b _ hb => ?_
    rcases hat' with e | ⟨c, e, hc⟩
    · show some b ≠ _; rw [e]; exact hb.1
    · show some b ≠ _; rw [e]; intro e'; injection e' with e'; have := hb.2; omega
  refine h v1 w1 ⟨uss ++ [us], by simp [hul], by simpa using hown, fun j u x' h1 h2 => ?_⟩ ((HB.alloc hbase _).grown hg (by simp; omega) (fun k hk => (HO1.lt k hk).1)) hg' hat'
  rcases Nat.lt_trichotomy j xs.length with hj | hj | hj
  · rw [List.getElem?_append_left (by omega)] at h1 h2
    exact keep (HO2 j u x' h1 h2)
  · subst hj
    rw [List.getElem?_append_right (by omega)] at h1 h2
    simp [hul] at h1 h2
    subst h1; subst h2
    exact keep HX
  · rw [List.getElem?_append_right (by omega)] at h2
    have : j - xs.length ≠ 0 := by omega
    simp [List.getElem?_cons, this] at h2

end Pv

set_option linter.unusedVariables false
set_option linter.unusedSimpArgs false
namespace Pv
open Go Go.RowKit

theorem exists_list {β : Type} (Q : Nat → β → Prop) : ∀ n : Nat, (∀ j, j < n → ∃ u, Q j u) → ∃ l : List β, l.length = n ∧ ∀ (j : Nat) u, l[j]? = some u → Q j u
  | 0, _ => ⟨[], rfl, fun j u h => by simp at h⟩
  | n + 1, h => by
    obtain ⟨l, hl, hq⟩ := exists_list Q n (fun j hj => h j (by omega))
    obtain ⟨u, hu⟩ := h n (by omega)
    refine ⟨l ++ [u], by simp [hl], fun j v hv => ?_⟩
    rcases Nat.lt_trichotomy j n with hj | hj | hj
    · rw [List.getElem?_append_left (by omega)] at hv; exact hq j v hv
    · subst hj
      rw [List.getElem?_append_right (by omega)] at hv
      simp [hl] at hv; subst hv; exact hu
    · rw [List.getElem?_append_right (by omega)] at hv
      have : j - l.length ≠ 0 := by omega
      simp [List.getElem?_cons, this] at hv

/-- the cells of a slice that is read -/
theorem kS_cells {α : Type} {K : Kn α} {w : World} {S : Nat → Prop} {v : Value} {xs : List α} (h : (kS K).R w S [v] xs) :
    ∃ A c, v = .slice A xs.length c ∧ (xs.length ≤ c ∧ c ≤ 9223372036854775807) ∧ (A = none → xs = []) ∧
      ∃ uss : List (List Value), uss.length = xs.length ∧ (∀ (j : Nat) u x, uss[j]? = some u → xs[j]? = some x → K.R w S u x) ∧
        ∀ ad, A = some ad → (0 < xs.length → S ad.block) ∧ ∀ (j : Nat) y, uss.flatten[j]? = some y → w.cell? (ad.add j) = some y := by
  obtain ⟨A, n, c, e, h1, h2, h⟩ := h
  simp at e; subst e; subst h1
  refine ⟨A, c, rfl, h2, fun hA => ?_, ?_⟩
  · cases xs with
    | nil => rfl
    | cons x xs => obtain ⟨ad, _, e, _⟩ := h 0 x rfl; rw [hA] at e; cases e
  · obtain ⟨uss, hl, hq⟩ := exists_list (fun j u => ∀ x, xs[j]? = some x → K.R w S u x ∧ ∀ ad, A = some ad → S ad.block ∧ ∀ (t : Nat) y, u[t]? = some y → w.cell? (ad.add (j * K.sz + t)) = some y) xs.length (fun j hj => by
      obtain ⟨ad, vs, e1, e2, e3, e4⟩ := h j xs[j] (List.getElem?_eq_getElem hj)
      refine ⟨vs, fun x hx => ?_⟩
      have : x = xs[j] := by rw [List.getElem?_eq_getElem hj] at hx; injection hx with hx; exact hx.symm
      subst this
      refine ⟨e3, fun ad' hA => ?_⟩
      rw [e1] at hA; injection hA with hA; subst hA
      exact ⟨e2, e4⟩)
    refine ⟨uss, hl, fun j u x h1 h2 => (hq j u h1 x h2).1, fun ad hA => ⟨fun h0 => ?_, ?_⟩⟩
    · exact ((hq 0 (uss[0]'(by omega)) (List.getElem?_eq_getElem (by omega)) xs[0] (List.getElem?_eq_getElem h0)).2 ad hA).1
    · -- by walking down the list
      have key : ∀ (us : List (List Value)) (k : Nat), (∀ (j : Nat) u, us[j]? = some u → u.length = K.sz ∧ ∀ (t : Nat) y, u[t]? = some y → w.cell? (ad.add ((k + j) * K.sz + t)) = some y) →
          ∀ (j : Nat) y, us.flatten[j]? = some y → w.cell? (ad.add (k * K.sz + j)) = some y := by
        intro us
        induction us with
        | nil => intro k _ j y hy; simp at hy
        | cons u us ih =>
          intro k hk j y hy
          obtain ⟨hul, hut⟩ := hk 0 u rfl
          simp only [List.flatten_cons] at hy
          by_cases hj : j < u.length
          · rw [List.getElem?_append_left hj] at hy
            have := hut j y hy
            simpa using this
          · rw [List.getElem?_append_right (by omega)] at hy
            have := ih (k + 1) (fun j' u' hu' => by
              obtain ⟨a, b⟩ := hk (j' + 1) u' (by simpa using hu')
              exact ⟨a, fun t y hy => by have := b t y hy; rwa [show k + (j' + 1) = k + 1 + j' by omega] at this⟩) (j - u.length) y hy
            rw [show (k + 1) * K.sz + (j - u.length) = k * K.sz + j by rw [Nat.add_mul, hul]; omega] at this
            exact this
      intro j y hy
      have := key uss 0 (fun j u hu => by
        have hj : j < xs.length := by have := (List.getElem?_eq_some_iff.1 hu).1; omega
        have := hq j u hu xs[j] (List.getElem?_eq_getElem hj)
        exact ⟨K.len this.1, fun t y hy => by rw [Nat.zero_add]; exact (this.2 ad hA).2 t y hy⟩) j y hy
      simpa using this

/-- append(v, ys...): ys a slice that is read -/
theorem Ow.append_row {α : Type} {P : Program} {ops : Array Oper} {rest : List Oper} {o : Oper} {a : Act} {Q : Exit → Act → World → Prop} (K : Kn α) {w0 W : World} (base : Nat)
    (hgd : o.guard = none) (s y : Operand) (t e : TypeId) (z : Value) (bytes : Nat)
    (ho : o.op = .call { callee := .builtin .append, args := #[s, y], argTypes := #[t, t] })
    (ht : P.underlying t = some (.slice e)) (hinfo : (P.info? e).map (fun i => (i.zero, i.size, i.bytes)) = some (some z, K.sz, bytes)) (hz : z.cells.size = K.sz)
    (v vy : Value) (xs ys : List α) (hs : a.eval s = v) (hy : a.eval y = vy)
    (HO : Ow K W base e v xs) (HB : Below base w0 W) (hbase : base ≤ W.heap.size) (HX : (kS K).R W (Ne v.ownBlock) [vy] ys) (hl : (xs.length + ys.length) * bytes ≤ 140737488355328) (hb0 : 0 < bytes)
    (h : ∀ v1 w1, Ow K w1 base e v1 (xs ++ ys) → Below base w0 w1 → W.grownBy w1 v.ownBlock → (v1.ownBlock = v.ownBlock ∨ ∃ b, v1.ownBlock = some b ∧ W.heap.size ≤ b) → wpList P ops Q rest (a.put o.dst v1) w1) :
    wpList P ops Q (o :: rest) a W := by
  obtain ⟨i0, hi, hzz⟩ := Option.map_eq_some_iff.1 hinfo
  simp only [Prod.mk.injEq] at hzz
  obtain ⟨hz0, hz1, hz2⟩ := hzz
  have hlen : xs.length + ys.length ≤ 140737488355328 := Nat.le_trans (Nat.le_mul_of_pos_right _ hb0) hl
  obtain ⟨uss, hul, HO1, HO2⟩ := HO
  obtain ⟨A, c, rfl, hyl, hnil, vss, hvl, HY, HC⟩ := kS_cells HX
  have hvlen : ∀ u, u ∈ vss → u.length = K.sz := by
    intro u hu
    obtain ⟨j, hj, rfl⟩ := List.getElem_of_mem hu
    exact K.len (HY j _ (ys[j]'(by omega)) (List.getElem?_eq_getElem hj) (List.getElem?_eq_getElem (by omega)))
  have hflat : vss.flatten.length = ys.length * K.sz := by
    rw [← hvl]
    clear HY HC hvl
    induction vss with
    | nil => simp
    | cons u us ih => simp only [List.flatten_cons, List.length_append, List.length_cons]; rw [ih (fun u hu => hvlen u (by simp [hu])), hvlen u (by simp), Nat.add_mul, Nat.one_mul, Nat.add_comm]
  have hrun : ∃ v1 w1, (Builtin.append_ #[t, t] o.type #[v, .slice A ys.length c]).run P W = .ok v1 w1 ∧ w1.ownsRow base e K.sz v1 (xs ++ ys).length (uss ++ vss).flatten ∧ W.grownBy w1 v.ownBlock ∧ (v1.ownBlock = v.ownBlock ∨ v1.ownBlock = some W.heap.size) := by
    rcases A with _ | ad
    · obtain rfl := hnil rfl
      obtain rfl : vss = [] := List.eq_nil_of_length_eq_zero hvl
      refine ⟨v, W, ?_, by simpa using HO1, World.grownBy.refl W _, .inl rfl⟩
      rcases HO1.2 with ⟨rfl, hn⟩ | ⟨g, cap, cur, rfl, _, _, hnc, _⟩
      · simp [Builtin.append_, run_underlying ht, Go.sizeOf, typeInfo, hi, Builtin.lenOf, Builtin.firstCells]
      · simp [Builtin.append_, run_underlying ht, Go.sizeOf, typeInfo, hi, Builtin.lenOf, Builtin.firstCells, hnc, storeCells]
    · obtain ⟨v1, w1, hr, h2, h3, _, h5⟩ := run_append_own_at (P := P) W base t o.type e i0 z K.sz bytes ht hi hz0 hz1 hz2 hz K.pos v xs.length uss.flatten HO1 ad ys.length c vss.flatten hflat ((HC ad rfl).2)
        (by
          intro u hu
          obtain ⟨us, hus, hu'⟩ := List.mem_flatten.1 hu
          obtain ⟨j, hj, rfl⟩ := List.getElem_of_mem hus
          exact K.one (HY j _ (ys[j]'(by omega)) (List.getElem?_eq_getElem hj) (List.getElem?_eq_getElem (by omega))) u hu') (by simp only [maxLen]; omega) hl hbase
      exact ⟨v1, w1, hr, by simpa [hvl] using h2, h3, h5⟩
  obtain ⟨v1, w1, hr, hown, hg, hat⟩ := hrun
  have hat' : v1.ownBlock = v.ownBlock ∨ ∃ b, v1.ownBlock = some b ∧ W.heap.size ≤ b := by
    rcases hat with hat | hat
    · exact .inl hat
    · exact .inr ⟨_, hat, Nat.le_refl _⟩
  have keep : ∀ {u : List Value} {x : α}, K.R W (Ne v.ownBlock) u x → K.R w1 (Ne v1.ownBlock) u x := by
    intro u x hr
    have h1 : K.R W (fun b => Ne v.ownBlock b ∧ b < W.heap.size) u x := K.sub hr fun b hb hs => ⟨hs, hb⟩
    refine K.sub (K.kp h1 (Kp.grown hg fun b hb => hb.1)) fun b _ hb => ?_
    rcases hat' with e | ⟨c, e, hc⟩
    · show some b ≠ _; rw [e]; exact hb.1
    · show some b ≠ _; rw [e]; intro e'; injection e' with e'; have := hb.2; omega
  refine wpList_plain hgd fun K' hK => ?_
  unfold Oper.wp execOp
  simp only [ho, resolve, invoke, builtin, Sem.run_bind, Sem.run_pure, Result.andThen_ok, List.map_toArray, List.map_cons, List.map_nil, hs, hy, hr]
  refine hK _ _ (h v1 w1 ⟨uss ++ vss, by simp [hul, hvl], hown, fun j u x h1 h2 => ?_⟩ (HB.grown hg hbase (fun k hk => (HO1.lt k hk).1)) hg hat')
  by_cases hj : j < xs.length
  · rw [List.getElem?_append_left (by omega)] at h1 h2
    exact keep (HO2 j u x h1 h2)
  · rw [List.getElem?_append_right (by omega)] at h1 h2
    rw [hul] at h1
    exact keep (HY _ u x h1 h2)

theorem Bl.of_grown {w w' : World} (h : w.grownBy w' none) : Bl w w' := ⟨h.os, h.tape, h.output, h.size, fun k hk => h.block k hk (by simp)⟩

theorem flat_rep (us : List Value) : ∀ n : Nat, (List.replicate n us).flatten.length = n * us.length
  | 0 => by simp
  | n + 1 => by simp [List.replicate_succ, flat_rep us n, Nat.add_mul]; omega

theorem rep_one (z : Value) : ∀ n : Nat, (List.replicate n [z]).flatten = List.replicate n z
  | 0 => rfl
  | n + 1 => by rw [List.replicate_succ, List.flatten_cons, rep_one z n, List.replicate_succ]; rfl
/-- make([]T, n) -/
theorem Ow.make {α : Type} {P : Program} {ops : Array Oper} {rest : List Oper} {o : Oper} {a : Act} {Q : Exit → Act → World → Prop} (K : Kn α) {w0 W : World} (base : Nat)
    (hgd : o.guard = none) (l c : Operand) (t e : TypeId) (z : Value) (bytes : Nat) (hop : o.op = Op.makeSlice t l c)
    (ht : P.underlying t = some (.slice e)) (hinfo : (P.info? e).map (fun i => (i.zero, i.size, i.bytes)) = some (some z, 1, bytes)) (hz : z.cells = #[z]) (hsz : K.sz = 1)
    (n : Nat) (hl : a.eval l = .int .i64 (n : Int)) (hc : a.eval c = .int .i64 (n : Int)) (hb : bytes * n ≤ 281474976710656) (hb0 : 0 < bytes)
    (x0 : α) (HX : ∀ (w : World) S, K.R w S [z] x0) (HB : Below base w0 W) (hbase : base ≤ W.heap.size)
    (h : ∀ w1, Ow K w1 base e (.slice (some ⟨W.heap.size, 0, none⟩) n n) (List.replicate n x0) → Below base w0 w1 → Bl W w1 → wpList P ops Q rest (a.put o.dst (.slice (some ⟨W.heap.size, 0, none⟩) n n)) w1) :
    wpList P ops Q (o :: rest) a W := by
  obtain ⟨i0, hi, hzz⟩ := Option.map_eq_some_iff.1 hinfo
  simp only [Prod.mk.injEq] at hzz
  obtain ⟨hz0, hz1, hz2⟩ := hzz
  have hn : n ≤ 281474976710656 := Nat.le_trans (Nat.le_mul_of_pos_left _ hb0) hb
  refine wpList_make_full W hgd l c t hop base e i0 z 1 ht hi hz0 hz1 .i64 .i64 n n n hl hc rfl rfl (by rw [hz2]; exact hb) (by simp only [maxLen]; omega) hbase ?_
  intro w1 hown hg
  refine h w1 ⟨List.replicate n [z], by simp, ?_, fun j u x h1 h2 => ?_⟩ (HB.grown hg hbase (by simp)) (Bl.of_grown hg)
  · rw [hsz]
    have e1 : (madeCells z.cells (n * 1)).toList = (List.replicate n [z]).flatten := by
      rw [hz, Nat.mul_one, toList_madeCells_one]
      exact (rep_one z n).symm
    rw [e1] at hown
    simpa using hown
  · have : u = [z] := by
      have := List.mem_of_getElem? h1; exact (List.mem_replicate.1 this).2
    subst this
    have : x = x0 := by
      have := List.mem_of_getElem? h2; exact (List.mem_replicate.1 this).2
    subst this
    exact HX _ _

/-! ## reading and writing, element by element -/
theorem rd_open {α : Type} {K : Kn α} (hK : K.sz = 1) {w : World} {S : Nat → Prop} {v : Value} {xs : List α} (h : (kS K).R w S [v] xs) :
    ∃ A c, v = .slice A xs.length c ∧ (xs.length ≤ c ∧ c ≤ 9223372036854775807) ∧
      ∀ (j : Nat) x, xs[j]? = some x → ∃ ad u, A = some ad ∧ S ad.block ∧ K.R w S [u] x ∧ w.cell? (ad.add j) = some u := by
  obtain ⟨A, n, c, e, h1, h2, h⟩ := h
  simp at e; subst e; subst h1
  refine ⟨A, c, rfl, h2, fun j x hx => ?_⟩
  obtain ⟨ad, vs, e1, e2, e3, e4⟩ := h j x hx
  have hl := K.len e3
  rw [hK] at hl
  match vs, hl with
  | [u], _ =>
    refine ⟨ad, u, e1, e2, e3, ?_⟩
    have := e4 0 u rfl
    rwa [hK, Nat.mul_one, Nat.add_zero] at this
theorem rd_mk {α : Type} {K : Kn α} (hK : K.sz = 1) {w : World} {S : Nat → Prop} {A : Option Addr} {n c : Nat} {xs : List α} (hn : xs.length = n) (hm : n ≤ c ∧ c ≤ 9223372036854775807)
    (h : ∀ (j : Nat) x, xs[j]? = some x → ∃ ad u, A = some ad ∧ S ad.block ∧ K.R w S [u] x ∧ w.cell? (ad.add j) = some u) : (kS K).R w S [.slice A n c] xs := by
  refine ⟨A, n, c, rfl, hn, hm, fun j x hx => ?_⟩
  obtain ⟨ad, u, e1, e2, e3, e4⟩ := h j x hx
  refine ⟨ad, [u], e1, e2, e3, fun t y hy => ?_⟩
  match t, hy with
  | 0, hy =>
    simp at hy; subst hy
    rw [hK, Nat.mul_one, Nat.add_zero]; exact e4
/-- a slice of uint64 -/
theorem rdU {w : World} {S : Nat → Prop} {v : Value} {xs : List Nat} (h : (kS kU).R w S [v] xs) :
    ∃ A c, v = .slice A xs.length c ∧ (xs.length ≤ c ∧ c ≤ 9223372036854775807) ∧
      ∀ j, j < xs.length → ∃ ad, A = some ad ∧ S ad.block ∧ w.cell? (ad.add j) = some (.int .u64 (xs.getD j 0 : Nat)) ∧ xs.getD j 0 < 18446744073709551616 := by
  obtain ⟨A, c, e, h1, h⟩ := rd_open rfl h
  refine ⟨A, c, e, h1, fun j hj => ?_⟩
  obtain ⟨ad, u, e1, e2, e3, e4⟩ := h j _ (List.getElem?_eq_getElem hj)
  obtain ⟨e3, e5⟩ := e3
  simp at e3; subst e3
  rw [List.getD_eq_getElem?_getD, List.getElem?_eq_getElem hj]
  exact ⟨ad, e1, e2, e4, e5⟩
theorem rdU_lt {w : World} {S : Nat → Prop} {v : Value} {xs : List Nat} (h : (kS kU).R w S [v] xs) : ∀ x, x ∈ xs → x < 18446744073709551616 := by
  intro x hx
  obtain ⟨A, c, e, h1, h⟩ := rdU h
  obtain ⟨j, hj, rfl⟩ := List.getElem_of_mem hx
  obtain ⟨_, _, _, _, h2⟩ := h j hj
  rwa [List.getD_eq_getElem?_getD, List.getElem?_eq_getElem hj] at h2
theorem rdU_mk {w : World} {S : Nat → Prop} {A : Option Addr} {n c : Nat} {xs : List Nat} (hn : xs.length = n) (hm : n ≤ c ∧ c ≤ 9223372036854775807)
    (h : ∀ j, j < n → ∃ ad, A = some ad ∧ S ad.block ∧ w.cell? (ad.add j) = some (.int .u64 (xs.getD j 0 : Nat)) ∧ xs.getD j 0 < 18446744073709551616) : (kS kU).R w S [.slice A n c] xs :=
  rd_mk rfl hn hm fun j x hx => by
    obtain ⟨hj, e⟩ := List.getElem?_eq_some_iff.1 hx
    obtain ⟨ad, e1, e2, e3, e4⟩ := h j (by omega)
    rw [List.getD_eq_getElem?_getD, hx] at e3 e4
    exact ⟨ad, _, e1, e2, ⟨rfl, e4⟩, e3⟩
/-- xs[:m] -/
theorem kS_take {α : Type} {K : Kn α} {w : World} {S : Nat → Prop} {A : Option Addr} {n c m : Nat} {xs : List α} (h : (kS K).R w S [.slice A n c] xs) (hm : m ≤ n) : (kS K).R w S [.slice A m c] (xs.take m) := by
  obtain ⟨A', n', c', e, h1, h2, h⟩ := h
  simp at e; obtain ⟨rfl, rfl, rfl⟩ := e
  refine ⟨A, m, c, rfl, by rw [List.length_take]; omega, ⟨by omega, h2.2⟩, fun j x hx => ?_⟩
  rw [List.getElem?_take] at hx
  split at hx
  · exact h j x hx
  · cases hx
theorem ownBlock_slice (g o : Nat) (s : Option Nat) (n c : Nat) : (Value.slice (some ⟨g, o, s⟩) n c).ownBlock = some g := rfl

/-- an owned row with something in it -/
theorem Ow.form {α : Type} {K : Kn α} {w : World} {base : Nat} {e : TypeId} {v : Value} {xs : List α} (h : Ow K w base e v xs) (hx : 0 < xs.length) :
    ∃ g c, v = .slice (some ⟨g, 0, none⟩) xs.length c ∧ base ≤ g ∧ g < w.heap.size := by
  obtain ⟨us, hl, ho, hr⟩ := h
  rcases ho.2 with ⟨_, h0⟩ | ⟨g, cap, cur, rfl, hb, hg, _⟩
  · omega
  · exact ⟨g, cap, rfl, hb, (Array.getElem?_eq_some_iff.1 hg).1⟩
theorem Ow.at_ {α : Type} {K : Kn α} (hK : K.sz = 1) {w : World} {base : Nat} {e : TypeId} {g n c : Nat} {xs : List α} (h : Ow K w base e (.slice (some ⟨g, 0, none⟩) n c) xs) (i : Nat) (x : α) (hx : xs[i]? = some x) :
    ∃ u, w.cell? ⟨g, i, none⟩ = some u ∧ w.frozen? ⟨g, i, none⟩ = false ∧ K.R w (Ne (some g)) [u] x := by
  obtain ⟨us, hl, ho, hr⟩ := h
  have hlen := Ow.lens hl hr
  have hi : i < us.length := by rw [hl]; exact (List.getElem?_eq_some_iff.1 hx).1
  have hu := hr i _ x (List.getElem?_eq_getElem hi) hx
  have hul := K.len hu
  rw [hK] at hul
  generalize hus : us[i] = u' at *
  match u', hul with
  | [u], _ =>
    refine ⟨u, ?_, ?_, hu⟩
    · have := ho.cells (g := g) rfl _ _ (flat_at K us hlen i 0 [u] u (by rw [List.getElem?_eq_getElem hi, hus]) rfl)
      rw [hK, Nat.mul_one, Nat.add_zero] at this
      have ha : (⟨g, 0, none⟩ : Addr).add i = ⟨g, i, none⟩ := by unfold Addr.add; split <;> simp_all
      rwa [ha] at this
    · rcases ho.2 with ⟨h', _⟩ | ⟨g', cap', cur, h', _, hh, _⟩
      · cases h'
      · injection h' with h'; injection h' with h'; injection h' with h'
        subst h'
        simp [World.frozen?, hh]
theorem Ow.stored {α : Type} {K : Kn α} (hK : K.sz = 1) {w : World} {base : Nat} {e : TypeId} {g n c : Nat} {xs : List α} (h : Ow K w base e (.slice (some ⟨g, 0, none⟩) n c) xs) (i : Nat) (hi : i < xs.length) (u : Value) (x : α)
    (hx : K.R w (Ne (some g)) [u] x) : Ow K (w.setCell ⟨g, i, none⟩ u) base e (.slice (some ⟨g, 0, none⟩) n c) (xs.set i x) ∧ w.grownBy (w.setCell ⟨g, i, none⟩ u) (some g) := by
  obtain ⟨us, hl, ho, hr⟩ := h
  have hlen := Ow.lens hl hr
  obtain ⟨rfl⟩ : n = xs.length := by
    rcases ho.2 with ⟨h', _⟩ | ⟨g', cap', cur, h', _⟩
    · cases h'
    · injection h'
  have hst := World.ownsRow.stored ho i u
  have hflat : us.flatten.set i u = (us.set i [u]).flatten := by
    have key : ∀ (us : List (List Value)) (i : Nat), (∀ u, u ∈ us → u.length = K.sz) → i < us.length → us.flatten.set i u = (us.set i [u]).flatten := by
      intro us
      induction us with
      | nil => intro i _ hi; simp at hi
      | cons v us ih =>
        intro i hv hi
        have h1 := hv v (by simp)
        rw [hK] at h1
        match v, h1 with
        | [y], _ =>
          cases i with
          | zero => simp
          | succ i => simp; exact ih i (fun u hu => hv u (by simp [hu])) (by simpa using hi)
    exact key us i hlen (by omega)
  rw [hflat] at hst
  refine ⟨⟨us.set i [u], by simp [hl], by simpa using hst.1, fun j u' x' h1 h2 => ?_⟩, hst.2⟩
  have hk : Kp (Ne (some g)) w (w.setCell ⟨g, i, none⟩ u) := Kp.grown hst.2 fun b hb => hb
  rw [List.getElem?_set] at h1 h2
  by_cases e : i = j
  · subst e
    simp [hi, show i < us.length by omega] at h1 h2
    subst h1; subst h2
    exact K.kp hx hk
  · simp [e] at h1 h2
    exact K.kp (hr j u' x' h1 h2) hk
/-- the elements lead to T: the row leads to T and its own block -/
theorem Ow.readsIn {α : Type} {K : Kn α} {w : World} {base : Nat} {e : TypeId} {v : Value} {xs : List α} (S : Nat → Prop) (h : Ow K w base e v xs) (hS : ∀ b, v.ownBlock = some b → S b)
    (hE : ∀ u x, x ∈ xs → K.R w (Ne v.ownBlock) u x → K.R w S u x) : (kS K).R w S [v] xs := by
  obtain ⟨us, hl, ho, hr⟩ := h
  have hlen := Ow.lens hl hr
  rcases ho.2 with ⟨rfl, h0⟩ | ⟨g, cap, cur, rfl, hb, hg, hn, hm, hc, ht⟩
  · have : xs = [] := List.eq_nil_of_length_eq_zero h0
    subst this
    exact ⟨none, 0, 0, rfl, rfl, ⟨by simp, by omega⟩, fun j x hx => by simp at hx⟩
  · refine ⟨_, _, _, rfl, rfl, ⟨hn, by simp only [maxLen] at hm; omega⟩, fun j x hx => ?_⟩
    have hj : j < us.length := by rw [hl]; exact (List.getElem?_eq_some_iff.1 hx).1
    refine ⟨⟨g, 0, none⟩, us[j], rfl, hS g rfl, hE _ _ (List.mem_of_getElem? hx) (hr j _ x (List.getElem?_eq_getElem hj) hx), fun t u hu => ?_⟩
    exact ho.cells (g := g) rfl _ _ (flat_at K us hlen j t _ u (List.getElem?_eq_getElem hj) hu)
/-- an owned row of numbers leads to its own block alone -/
theorem Ow.readsU {w : World} {base : Nat} {e : TypeId} {v : Value} {xs : List Nat} (S : Nat → Prop) (h : Ow kU w base e v xs) (hS : ∀ b, v.ownBlock = some b → S b) : (kS kU).R w S [v] xs := h.readsIn S hS fun _ _ _ h => h
theorem Ow.ltU {w : World} {base : Nat} {e : TypeId} {v : Value} {xs : List Nat} (h : Ow kU w base e v xs) : ∀ x, x ∈ xs → x < 18446744073709551616 := rdU_lt h.reads
theorem Ow.keep {α : Type} {K : Kn α} {w w' : World} {base : Nat} {e : TypeId} {v : Value} {xs : List α} {row : Option Nat} (h : Ow K w base e v xs) (hg : w.grownBy w' row) (hne : v.ownBlock = none ∨ v.ownBlock ≠ row)
    (hE : ∀ u x, x ∈ xs → K.R w (Ne v.ownBlock) u x → K.R w (fun b => Ne v.ownBlock b ∧ Ne row b) u x) : Ow K w' base e v xs := by
  obtain ⟨us, hl, ho, hr⟩ := h
  exact ⟨us, hl, ho.kept hg hne, fun j u x h1 h2 => K.sub (K.kp (hE u x (List.mem_of_getElem? h2) (hr j u x h1 h2)) (Kp.grown hg fun b hb => hb.2)) fun b _ hb => hb.1⟩
theorem Ow.keepU {w w' : World} {base : Nat} {e : TypeId} {v : Value} {xs : List Nat} {row : Option Nat} (h : Ow kU w base e v xs) (hg : w.grownBy w' row) (hne : v.ownBlock = none ∨ v.ownBlock ≠ row) : Ow kU w' base e v xs :=
  h.keep hg hne fun _ _ _ h => h

/-- a nil slice reads as nothing -/
theorem kS_nil0 {α : Type} {K : Kn α} {w : World} {S : Nat → Prop} {n c : Nat} {xs : List α} (h : (kS K).R w S [.slice none n c] xs) : xs = [] ∧ n = 0 := by
  obtain ⟨A', n', c', e, h1, h2, h⟩ := h
  simp at e; obtain ⟨rfl, rfl, rfl⟩ := e
  cases xs with
  | nil => exact ⟨rfl, h1.symm⟩
  | cons x t => obtain ⟨ad, _, e, _⟩ := h 0 x rfl; cases e
theorem kS_nil {α : Type} (K : Kn α) (w : World) (S : Nat → Prop) : (kS K).R w S [.slice none 0 0] ([] : List α) := ⟨none, 0, 0, rfl, rfl, ⟨by simp, by omega⟩, fun j x hx => by simp at hx⟩

theorem Ow.atU {w : World} {base : Nat} {e : TypeId} {g n c : Nat} {xs : List Nat} (h : Ow kU w base e (.slice (some ⟨g, 0, none⟩) n c) xs) (i : Nat) (hi : i < xs.length) :
    w.cell? ⟨g, i, none⟩ = some (.int .u64 (xs.getD i 0 : Nat)) ∧ w.frozen? ⟨g, i, none⟩ = false ∧ xs.getD i 0 < 18446744073709551616 := by
  have e : xs[i]? = some (xs.getD i 0) := by rw [List.getD_eq_getElem?_getD, List.getElem?_eq_getElem hi]; rfl
  obtain ⟨u, h1, h2, h3, h4⟩ := h.at_ rfl i _ e
  simp only [List.cons.injEq, and_true] at h3
  subst h3
  exact ⟨h1, h2, h4⟩
theorem Ow.storedU {w : World} {base : Nat} {e : TypeId} {g n c : Nat} {xs : List Nat} (h : Ow kU w base e (.slice (some ⟨g, 0, none⟩) n c) xs) (i : Nat) (hi : i < xs.length) (x : Nat) (hx : x < 18446744073709551616) :
    Ow kU (w.setCell ⟨g, i, none⟩ (.int .u64 (x : Int))) base e (.slice (some ⟨g, 0, none⟩) n c) (xs.set i x) ∧ w.grownBy (w.setCell ⟨g, i, none⟩ (.int .u64 (x : Int))) (some g) :=
  h.stored rfl i hi _ x ⟨rfl, hx⟩
theorem getD_lt {l : List Nat} {p i : Nat} (h : ∀ y, y ∈ l → y < p) (hi : i < l.length) : l.getD i 0 < p := by
  rw [List.getD_eq_getElem?_getD, List.getElem?_eq_getElem hi]; exact h _ (List.getElem_mem _)
/-- two rows apart -/
def Ap (v v' : Value) : Prop := ∀ g, v.ownBlock = some g → v'.ownBlock ≠ some g
theorem Ap.symm {v v' : Value} (h : Ap v v') : Ap v' v := fun g h1 h2 => h g h2 h1
theorem Ow.ap {α β : Type} {K : Kn α} {L : Kn β} {w w' : World} {b b' : Nat} {e e' : TypeId} {v v' : Value} {xs : List α} {ys : List β} (h : Ow K w b e v xs) (h' : Ow L w' b' e' v' ys) (hb : w.heap.size ≤ b') : Ap v v' := fun g h1 h2 => by
  have := (h.base g h1).2; have := (h'.base g h2).1; omega

theorem Ow.ap_new {α : Type} {K : Kn α} {w : World} {b : Nat} {e : TypeId} {v : Value} {xs : List α} (h : Ow K w b e v xs) (o : Nat) (s : Option Nat) : ∀ n c, Ap v (.slice (some ⟨w.heap.size, o, s⟩) n c) := fun n c g h1 h2 => by
  have h3 := (h.base g h1).2
  have h2 : some w.heap.size = some g := h2
  injection h2 with h2; omega
theorem Ap.ne {v v' : Value} (h : Ap v v') : v.ownBlock = none ∨ v.ownBlock ≠ v'.ownBlock := by
  cases e : v.ownBlock with
  | none => exact .inl rfl
  | some g => exact .inr fun e' => h g e e'.symm
theorem Ap.ne' {v : Value} {g o n c : Nat} {s : Option Nat} (h : Ap v (.slice (some ⟨g, o, s⟩) n c)) : v.ownBlock = none ∨ v.ownBlock ≠ some g := h.ne
def lenV : Value → Nat | .slice _ n _ => n | _ => 0
theorem Ow.len_eq {α : Type} {K : Kn α} {w : World} {b : Nat} {e : TypeId} {A : Option Addr} {n c : Nat} {xs : List α} (h : Ow K w b e (.slice A n c) xs) : xs.length = n := by
  obtain ⟨A', c', e, _⟩ := h.slice
  injection e with _ e; exact e.symm
/-- a reading that may meet S alone, below the heap's size -/
theorem Kn.low {α : Type} (K : Kn α) {w : World} {S : Nat → Prop} {us : List Value} {x : α} (h : K.R w S us x) : K.R w (fun b => b < w.heap.size) us x := K.sub h fun b hb _ => hb
theorem Kn.bl {α : Type} (K : Kn α) {w w' : World} {us : List Value} {x : α} {B : Nat} (h : K.R w (fun b => b < B) us x) (k : Below B w w') : K.R w' (fun b => b < B) us x := K.kp h fun b _ hb => k.block b hb

theorem Ow.lit0 {α : Type} (K : Kn α) (w : World) (base : Nat) (e : TypeId) (hb : base ≤ w.heap.size) : Ow K (w.alloc (.cells #[] e)) base e (.slice (some ⟨w.heap.size, 0, none⟩) 0 0) ([] : List α) :=
  ⟨[], rfl, World.ownsRow_lit w #[] 0 hb (by simp [maxLen]) (by simp), fun j u x h => by simp at h⟩
/-- what a cell holds, whatever it is: for a cell that a region stores into -/
def peek (w : World) (a : Addr) : Value := (w.cell? a).getD undef
theorem peek_of {w : World} {a : Addr} {v : Value} (h : w.cell? a = some v) : w.cell? a = some (peek w a) := by rw [h, peek, h]; rfl
@[simp] theorem peek_drew (w : World) (a : Addr) : peek w.drew a = peek w a := rfl
@[simp] theorem peek_drewN (w : World) (n : Nat) (a : Addr) : peek (w.drewN n) a = peek w a := rfl
theorem peek_bl {w w' : World} (hB : Bl w w') {a : Addr} (h : w.cell? a = some (peek w a)) : w'.cell? a = some (peek w' a) :=
  peek_of ((hB.cell (World.block_lt_of_cell? w a h)).trans h)
theorem cell_bl {w w' : World} (hB : Bl w w') {a : Addr} {v : Value} (h : w.cell? a = some v) : w'.cell? a = some v := (hB.cell (World.block_lt_of_cell? w a h)).trans h
theorem free_bl {w w' : World} (hB : Bl w w') {a : Addr} {v : Value} (h : w.cell? a = some v) (hf : w.frozen? a = false) : w'.frozen? a = false := (hB.frozen (World.block_lt_of_cell? w a h)).trans hf
theorem peek_set {w : World} {a b : Addr} (v : Value) (h : w.cell? a = some (peek w a)) : (w.setCell b v).cell? a = some (peek (w.setCell b v) a) := by
  obtain ⟨u, hu⟩ := cell?_setCell_some (w := w) (p := b) (x := v) (q := a) h
  exact peek_of hu
theorem cell_set_ne {w : World} {a b : Addr} {u : Value} (v : Value) (hne : b.block ≠ a.block) (h : w.cell? a = some u) : (w.setCell b v).cell? a = some u := by
  rw [World.cell?_of_block (w := w) (Below.heap_setCell w b v a.block (fun e => hne e.symm))]; exact h
theorem free_set {w : World} {a b : Addr} (v : Value) (h : w.frozen? a = false) : (w.setCell b v).frozen? a = false := by
  have e : (w.setCell b v).frozen? a = w.frozen? a := by simp
  rw [e]; exact h
end Pv

set_option linter.unusedVariables false
set_option linter.unusedSimpArgs false
namespace Pv
open Go Go.RowKit

/-- .. at a step of a region that draws its order -/
theorem Ow.append_step {α : Type} {P : Program} {ops : Array Oper} {o : Oper} {a : Act} {K' : Act → World → Prop} {Q : Exit → Act → World → Prop} {E : Prop} (K : Kn α) {w0 W : World} (base : Nat)
    (hgd : o.guard = none) (s y : Operand) (t e : TypeId) (z : Value) (bytes : Nat)
    (ho : o.op = .call { callee := .builtin .append, args := #[s, y], argTypes := #[t, t] })
    (ht : P.underlying t = some (.slice e)) (hinfo : (P.info? e).map (fun i => (i.zero, i.size, i.bytes)) = some (some z, K.sz, bytes)) (hz : z.cells.size = K.sz)
    (v vy : Value) (xs ys : List α) (hs : a.eval s = v) (hy : a.eval y = vy)
    (HO : Ow K W base e v xs) (HB : Below base w0 W) (hbase : base ≤ W.heap.size) (HX : (kS K).R W (Ne v.ownBlock) [vy] ys) (hl : (xs.length + ys.length) * bytes ≤ 140737488355328) (hb0 : 0 < bytes)
    (h : ∀ v1 w1, Ow K w1 base e v1 (xs ++ ys) → Below base w0 w1 → W.grownBy w1 v.ownBlock → (v1.ownBlock = v.ownBlock ∨ ∃ b, v1.ownBlock = some b ∧ W.heap.size ≤ b) → K' (a.put o.dst v1) w1) :
    if Region.wanted o (yielded ops a.tmps) = true then Oper.wp P o a W K' Q else E := by
  obtain ⟨i0, hi, hzz⟩ := Option.map_eq_some_iff.1 hinfo
  simp only [Prod.mk.injEq] at hzz
  obtain ⟨hz0, hz1, hz2⟩ := hzz
  have hlen : xs.length + ys.length ≤ 140737488355328 := Nat.le_trans (Nat.le_mul_of_pos_right _ hb0) hl
  obtain ⟨uss, hul, HO1, HO2⟩ := HO
  obtain ⟨A, c, rfl, hyl, hnil, vss, hvl, HY, HC⟩ := kS_cells HX
  have hvlen : ∀ u, u ∈ vss → u.length = K.sz := by
    intro u hu
    obtain ⟨j, hj, rfl⟩ := List.getElem_of_mem hu
    exact K.len (HY j _ (ys[j]'(by omega)) (List.getElem?_eq_getElem hj) (List.getElem?_eq_getElem (by omega)))
  have hflat : vss.flatten.length = ys.length * K.sz := by
    rw [← hvl]
    clear HY HC hvl
    induction vss with
    | nil => simp
    | cons u us ih => simp only [List.flatten_cons, List.length_append, List.length_cons]; rw [ih (fun u hu => hvlen u (by simp [hu])), hvlen u (by simp), Nat.add_mul, Nat.one_mul, Nat.add_comm]
  have hrun : ∃ v1 w1, (Builtin.append_ #[t, t] o.type #[v, .slice A ys.length c]).run P W = .ok v1 w1 ∧ w1.ownsRow base e K.sz v1 (xs ++ ys).length (uss ++ vss).flatten ∧ W.grownBy w1 v.ownBlock ∧ (v1.ownBlock = v.ownBlock ∨ v1.ownBlock = some W.heap.size) := by
    rcases A with _ | ad
    · obtain rfl := hnil rfl
      obtain rfl : vss = [] := List.eq_nil_of_length_eq_zero hvl
      refine ⟨v, W, ?_, by simpa using HO1, World.grownBy.refl W _, .inl rfl⟩
      rcases HO1.2 with ⟨rfl, hn⟩ | ⟨g, cap, cur, rfl, _, _, hnc, _⟩
      · simp [Builtin.append_, run_underlying ht, Go.sizeOf, typeInfo, hi, Builtin.lenOf, Builtin.firstCells]
      · simp [Builtin.append_, run_underlying ht, Go.sizeOf, typeInfo, hi, Builtin.lenOf, Builtin.firstCells, hnc, storeCells]
    · obtain ⟨v1, w1, hr, h2, h3, _, h5⟩ := run_append_own_at (P := P) W base t o.type e i0 z K.sz bytes ht hi hz0 hz1 hz2 hz K.pos v xs.length uss.flatten HO1 ad ys.length c vss.flatten hflat ((HC ad rfl).2)
        (by
          intro u hu
          obtain ⟨us, hus, hu'⟩ := List.mem_flatten.1 hu
          obtain ⟨j, hj, rfl⟩ := List.getElem_of_mem hus
          exact K.one (HY j _ (ys[j]'(by omega)) (List.getElem?_eq_getElem hj) (List.getElem?_eq_getElem (by omega))) u hu') (by simp only [maxLen]; omega) hl hbase
      exact ⟨v1, w1, hr, by simpa [hvl] using h2, h3, h5⟩
  obtain ⟨v1, w1, hr, hown, hg, hat⟩ := hrun
  have hat' : v1.ownBlock = v.ownBlock ∨ ∃ b, v1.ownBlock = some b ∧ W.heap.size ≤ b := by
    rcases hat with hat | hat
    · exact .inl hat
    · exact .inr ⟨_, hat, Nat.le_refl _⟩
  have keep : ∀ {u : List Value} {x : α}, K.R W (Ne v.ownBlock) u x → K.R w1 (Ne v1.ownBlock) u x := by
    intro u x hr
    have h1 : K.R W (fun b => Ne v.ownBlock b ∧ b < W.heap.size) u x := K.sub hr fun b hb hs => ⟨hs, hb⟩
    refine K.sub (K.kp h1 (Kp.grown hg fun b hb => hb.1)) fun b _ hb => ?_
    rcases hat' with e | ⟨c, e, hc⟩
    · show some b ≠ _; rw [e]; exact hb.1
    · show some b ≠ _; rw [e]; intro e'; injection e' with e'; have := hb.2; omega
  rw [if_pos (by simp [Region.wanted, hgd])]
  unfold Oper.wp execOp
  simp only [ho, resolve, invoke, builtin, Sem.run_bind, Sem.run_pure, Result.andThen_ok, List.map_toArray, List.map_cons, List.map_nil, hs, hy, hr]
  refine (h v1 w1 ⟨uss ++ vss, by simp [hul, hvl], hown, fun j u x h1 h2 => ?_⟩ (HB.grown hg hbase (fun k hk => (HO1.lt k hk).1)) hg hat')
  by_cases hj : j < xs.length
  · rw [List.getElem?_append_left (by omega)] at h1 h2
    exact keep (HO2 j u x h1 h2)
  · rw [List.getElem?_append_right (by omega)] at h1 h2
    rw [hul] at h1
    exact keep (HY _ u x h1 h2)


/-- a literal slice of one element reads as it -/
theorem litK {α : Type} {K : Kn α} {W : World} {S : Nat → Prop} {us : List Value} {x : α} (h : K.R W S us x) (e : TypeId) : (kS K).R (W.alloc (.cells us.toArray e)) (fun b => (S b ∧ b < W.heap.size) ∨ b = W.heap.size) [.slice (some ⟨W.heap.size, 0, none⟩) 1 1] [x] := by
  refine ⟨_, 1, 1, rfl, rfl, ⟨by omega, by omega⟩, fun j y hy => ?_⟩
  have h' := K.len h
  match j, hy with
  | 0, hy =>
    simp at hy; subst hy
    refine ⟨⟨W.heap.size, 0, none⟩, us, rfl, .inr rfl, ?_, fun t u hu => ?_⟩
    · exact K.sub (K.kp (K.sub h fun b hb hs => (⟨hs, hb⟩ : S b ∧ b < W.heap.size)) (Bl.kp ((Below.refl _ _).alloc (Nat.le_refl _) _) _)) fun b _ hb => .inl hb
    · have ha : (⟨W.heap.size, 0, none⟩ : Addr).add (0 * K.sz + t) = ⟨W.heap.size, t, none⟩ := by unfold Addr.add; simp; exact fun e => e.symm
      rw [ha, World.cell?_alloc_at _ _ _ _ rfl]
      simpa using hu
end Pv

set_option linter.unusedVariables false
namespace Pv
open Go
/-! a drawn region whose last operation waits for all others: the others are walked under a condition, the last one behind them -/
section
variable {P : Program} {ops : Array Oper} {md : Region.Mode} {Q : Exit → Act → World → Prop} {S : World → Prop}
/-- the edges of a region lead back -/
def forwB (md : Region.Mode) (ops : Array Oper) : Bool := (List.range ops.size).all fun j => match ops[j]? with | some o => o.after.all fun e => !Region.binds md e || decide (e.on < j) | none => true
theorem forwB_spec (hf : forwB md ops = true) {j : Nat} {o : Oper} (ho : ops[j]? = some o) {e} (he : e ∈ o.after) (hb : Region.binds md e = true) : e.on < j := by
  have hlt : j < ops.size := (Array.getElem?_eq_some_iff.1 ho).1
  have h1 := List.all_eq_true.1 hf j (List.mem_range.2 hlt)
  simp only [ho] at h1
  have h2 := Array.all_eq_true_iff_forall_mem.1 h1 e he
  simpa [hb] using h2
theorem forw_ready (hf : forwB md ops = true) {listed : Array Bool} (hs : listed.size = ops.size) : ∀ (j : Nat), j < ops.size → listed.getD j true = false → ∃ i, i ≤ j ∧ i ∈ Region.ready md ops listed := by
  intro j
  induction j using Nat.strongRecOn with
  | _ j ih =>
    intro hj hun
    have ho : ops[j]? = some ops[j] := by simp [hj]
    by_cases hall : ∀ e ∈ ops[j].after, Region.binds md e = true → listed.getD e.on false = true
    · exact ⟨j, Nat.le_refl _, mem_ready.2 ⟨hun, ops[j], ho, hall⟩⟩
    · have : ∃ e, e ∈ ops[j].after ∧ Region.binds md e = true ∧ listed.getD e.on false = false := by
        apply Classical.byContradiction
        intro hno
        refine hall fun e he hb => ?_
        cases h : listed.getD e.on false with
        | true => rfl
        | false => exact absurd ⟨e, he, hb, h⟩ hno
      obtain ⟨e, he, hb, hl⟩ := this
      have hlt := forwB_spec hf ho he hb
      obtain ⟨i, hi, hr⟩ := ih e.on hlt (by omega) (getD_in (by omega) hl)
      exact ⟨i, by omega, hr⟩
/-- the exits of the others; where they are done the last one comes -/
def lastQ (P : Program) (ops : Array Oper) (Q : Exit → Act → World → Prop) (n : Nat) : Exit → Act → World → Prop := fun e a w =>
  match e with
  | .normal => wpOp P ops Q n (fun a' w' => Q .normal a' w') a w
  | e => Q e a w
theorem lastQ_normal {n : Nat} {a : Act} {w : World} (h : wpOp P ops Q n (fun a' w' => Q .normal a' w') a w) : lastQ P ops Q n .normal a w := h
theorem wpOp_last {n i : Nat} {K : Act → World → Prop} {a : Act} {w : World} (h : wpOp P ops (lastQ P ops Q n) i K a w) : wpOp P ops Q i K a w := by
  unfold wpOp at *
  split
  · rename_i ho; simpa [ho] using h
  · rename_i o ho
    simp only [ho] at h
    split
    · rename_i hw
      simp only [hw, if_true] at h
      refine h.imp (fun h => ?_) (fun h => ⟨h.1, h.2⟩)
      unfold Oper.wp at *
      generalize (execOp a.eval o).run P w = r at *
      cases r with
      | ok nx w' =>
        cases nx <;> simp only [Oper.upon] at h ⊢ <;> first
          | exact h
          | exact Calls.mono h fun e w'' he => by cases e <;> exact he
      | halt x w' => cases x <;> simp only [Oper.upon] at h ⊢ <;> exact h
    · rename_i hw; simp only [hw] at h; exact h
theorem wpAny_of_last {n : Nat} (hf : forwB md ops = true) (hs : Region.sinkB md ops n = true) (hn : n + 1 = ops.size) :
    ∀ (fuel : Nat) (listed : Array Bool) (a : Act) (w : World), HeadInv md ops n listed → wpAnyH P md ops (lastQ P ops Q n) S fuel (listed.setIfInBounds n true) a w → wpAny P md ops Q (fuel + 1) listed a w := by
  have hc : Region.chainB md ops n = true := List.all_eq_true.2 fun t ht => by
    have := List.mem_range.1 ht
    rw [Bool.or_eq_true]; exact .inl (decide_eq_true (by omega))
  intro fuel
  have base : ∀ (fuel : Nat) (listed : Array Bool) (a : Act) (w : World), HeadInv md ops n listed → (Region.ready md ops (listed.setIfInBounds n true) = [] → lastQ P ops Q n .normal a w) → n ∈ Region.ready md ops listed →
      wpOp P ops Q n (wpAny P md ops Q fuel (listed.setIfInBounds n true)) a w := by
    intro fuel listed a w inv h hr
    have hnil : Region.ready md ops (listed.setIfInBounds n true) = [] := by
      refine List.eq_nil_iff_forall_not_mem.2 fun i hi => ?_
      obtain ⟨h0, o, ho, hall⟩ := mem_ready.1 hi
      have hlt : i < ops.size := (Array.getElem?_eq_some_iff.1 ho).1
      by_cases e : i = n
      · subst e; simp [inv.size, hlt] at h0
      · rw [getD_set_ne true (Ne.symm e)] at h0
        exact tail_waits hs hc (by omega) inv _ i rfl (by omega) h0 n (Nat.le_refl _) hr
    refine wpOp_mono (fun a' w' hq => ?_) (h hnil)
    cases fuel with
    | zero => exact ⟨hnil, hq⟩
    | succ f => exact ⟨fun _ => hq, by rw [hnil]; simp⟩
  have nonempty : ∀ (listed : Array Bool), HeadInv md ops n listed → Region.ready md ops listed = [] → False := fun listed inv h => by
    obtain ⟨i, _, hr⟩ := forw_ready hf inv.size n (by omega) (inv.tail n (Nat.le_refl _) (by omega))
    rw [h] at hr; cases hr
  induction fuel with
  | zero =>
    intro listed a w inv h
    refine ⟨fun h0 => (nonempty listed inv h0).elim, fun i hi => ?_⟩
    by_cases e : i = n
    · subst e; exact base 0 listed a w inv (fun _ => h.2) hi
    · have := ready_mono hi e
      rw [h.1] at this; cases this
  | succ fuel ih =>
    intro listed a w inv h
    refine ⟨fun h0 => (nonempty listed inv h0).elim, fun i hi => ?_⟩
    by_cases e : i = n
    · subst e; exact base (fuel + 1) listed a w inv h.1 hi
    · have hlt : i < ops.size := by obtain ⟨_, o, ho, _⟩ := mem_ready.1 hi; exact (Array.getElem?_eq_some_iff.1 ho).1
      refine wpOp_mono (fun a' w' h' => ih (listed.setIfInBounds i true) a' w' (inv.set hi (by omega)) ?_) (wpOp_last (h.2 i (ready_mono hi e)))
      rw [Array.setIfInBounds_comm _ _ e]
      exact h'.2
/-- the beginning -/
theorem wp_region_last {id n : Nat} {a : Act} {w : World} (S : World → Prop) (hm : P.follows .mixedOrders = true) (hf : forwB .any ops = true) (hsk : Region.sinkB .any ops n = true) (hn : n + 1 = ops.size) (hS : S w.drew)
    (h : S w.drew → wpAnyH P .any ops (lastQ P ops Q n) S n ((Array.replicate ops.size false).setIfInBounds n true) a w.drew) : (Code.region id ops true).wp P Q a w := by
  have key : wpAny P .any ops Q (n + 1) (Array.replicate ops.size false) a w.drew := wpAny_of_last (S := S) hf hsk hn n _ a _ ⟨by simp, fun j oj _ hl => (by rw [getD_replicate_false] at hl; cases hl), fun t _ ht => (by simp [ht])⟩ (h hS)
  rw [hn] at key
  exact wp_region_any hm key
end
end Pv
