
set_option linter.unusedVariables false
namespace Pv
section
variable {p : Nat} [NeZero p]

def sm : Nat → (Nat → Fin p) → Fin p
  | 0, _ => 0
  | n + 1, f => sm n f + f n
theorem sm_congr {n : Nat} {f g : Nat → Fin p} (h : ∀ i, i < n → f i = g i) : sm n f = sm n g := by
  induction n with
  | zero => rfl
  | succ n ih => rw [sm, sm, ih (fun i hi => h i (by omega)), h n (by omega)]
theorem sm_zero {n : Nat} {f : Nat → Fin p} (h : ∀ i, i < n → f i = 0) : sm n f = 0 := by
  induction n with
  | zero => rfl
  | succ n ih => rw [sm, ih (fun i hi => h i (by omega)), h n (by omega)]; grind
theorem sm_add (n : Nat) (f g : Nat → Fin p) : sm n (fun i => f i + g i) = sm n f + sm n g := by
  induction n with
  | zero => simp [sm]
  | succ n ih => simp only [sm, ih]; grind
theorem sm_mul (n : Nat) (k : Fin p) (f : Nat → Fin p) : sm n (fun i => k * f i) = k * sm n f := by
  induction n with
  | zero => simp [sm]; grind
  | succ n ih => simp only [sm, ih]; grind
theorem sm_one {n : Nat} {f : Nat → Fin p} (j : Nat) (hj : j < n) (h : ∀ i, i < n → i ≠ j → f i = 0) : sm n f = f j := by
  induction n with
  | zero => omega
  | succ n ih =>
    rw [sm]
    by_cases e : j = n
    · subst e; rw [sm_zero (fun i hi => h i (by omega) (by omega))]; grind
    · rw [ih (by omega) (fun i hi => h i (by omega)), h n (by omega) (by omega)]; grind

/-- row operations, matrices as functions; L: the width -/
abbrev Mx (p : Nat) := Nat → Nat → Fin p
def Sol (R L : Nat) (m : Mx p) (u : Nat → Fin p) : Prop := ∀ i, i < R → sm L (fun j => m i j * u j) = 0

def swp (m : Mx p) (a b : Nat) : Mx p := fun i => if i = a then m b else if i = b then m a else m i
def scl (m : Mx p) (r : Nat) (k : Fin p) : Mx p := fun i j => if i = r then k * m r j else m i j
def elim (m : Mx p) (r c : Nat) : Mx p := fun i j => if i = r then m r j else m i j - m i c * m r j

theorem Sol_swp {R L : Nat} {m : Mx p} {a b : Nat} (ha : a < R) (hb : b < R) (u : Nat → Fin p) : Sol R L (swp m a b) u ↔ Sol R L m u := by
  constructor
  · intro h i hi
    by_cases e1 : i = a
    · subst e1
      by_cases e2 : b = i
      · subst e2; have := h b hi; simpa [swp] using this
      · have := h b hb; simpa [swp, e2] using this
    · by_cases e2 : i = b
      · subst e2; have := h a ha; simpa [swp] using this
      · have := h i hi; simpa [swp, e1, e2] using this
  · intro h i hi
    by_cases e1 : i = a
    · subst e1; have := h b hb; simpa [swp] using this
    · by_cases e2 : i = b
      · subst e2; have := h a ha; simpa [swp, e1] using this
      · have := h i hi; simpa [swp, e1, e2] using this

theorem Sol_scl {R L : Nat} {m : Mx p} {r : Nat} {k k' : Fin p} (hk : k' * k = 1) (u : Nat → Fin p) : Sol R L (scl m r k) u ↔ Sol R L m u := by
  have key : sm L (fun j => k * m r j * u j) = k * sm L (fun j => m r j * u j) := by
    rw [← sm_mul]; exact sm_congr fun j _ => by grind
  constructor
  · intro h i hi
    by_cases e : i = r
    · subst e
      have := h i hi
      simp only [scl, if_true] at this
      rw [key] at this
      grind
    · have := h i hi; simpa [scl, e] using this
  · intro h i hi
    by_cases e : i = r
    · subst e
      simp only [scl, if_true]
      rw [key, h i hi]; grind
    · have := h i hi; simpa [scl, e] using this

theorem Sol_elim {R L : Nat} {m : Mx p} {r c : Nat} (hr : r < R) (u : Nat → Fin p) : Sol R L (elim m r c) u ↔ Sol R L m u := by
  have key : ∀ i, sm L (fun j => (m i j - m i c * m r j) * u j) = sm L (fun j => m i j * u j) - m i c * sm L (fun j => m r j * u j) := by
    intro i
    have : sm L (fun j => (m i j - m i c * m r j) * u j) = sm L (fun j => m i j * u j + (- m i c) * (m r j * u j)) := sm_congr fun j _ => by grind
    rw [this, sm_add, sm_mul]; grind
  have hrow : ∀ u, Sol R L (elim m r c) u → sm L (fun j => m r j * u j) = 0 := by
    intro u h; have := h r hr; simpa [elim] using this
  constructor
  · intro h i hi
    by_cases e : i = r
    · subst e; exact hrow u h
    · have h1 := h i hi
      simp only [elim, e, if_false] at h1
      rw [key, hrow u h] at h1; grind
  · intro h i hi
    by_cases e : i = r
    · subst e; have := h i hi; simpa [elim] using this
    · simp only [elim, e, if_false]
      rw [key, h i hi, h r hr]; grind

/-- the state of Gauss-Jordan elimination: R rows, n columns searched, width n + 1, columns below c done, pivots pv -/
structure Rdc (R n c : Nat) (m0 m : Mx p) (pv : List Nat) : Prop where
  len : pv.length ≤ R
  lt : ∀ i, i < pv.length → pv.getD i 0 < c
  cn : c ≤ n
  one : ∀ i, i < pv.length → m i (pv.getD i 0) = 1
  off : ∀ i k, i < pv.length → k < R → k ≠ i → m k (pv.getD i 0) = 0
  low : ∀ i j, pv.length ≤ i → i < R → j < c → m i j = 0
  sol : ∀ u, Sol R (n + 1) m u ↔ Sol R (n + 1) m0 u

theorem Rdc.init (R n : Nat) (m : Mx p) : Rdc R n 0 m m [] :=
  ⟨by simp, by simp, by omega, by simp, by simp, fun _ _ _ _ h => by omega, fun _ => Iff.rfl⟩

theorem Rdc.skip {R n c : Nat} {m0 m : Mx p} {pv : List Nat} (h : Rdc R n c m0 m pv) (hc : c < n) (hz : ∀ i, pv.length ≤ i → i < R → m i c = 0) : Rdc R n (c + 1) m0 m pv :=
  ⟨h.len, fun i hi => Nat.lt_succ_of_lt (h.lt i hi), hc, h.one, h.off, fun i j h1 h2 h3 => by
    by_cases e : j = c
    · subst e; exact hz i h1 h2
    · exact h.low i j h1 h2 (by omega), h.sol⟩

theorem Rdc.step {R n c at_ : Nat} {m0 m : Mx p} {pv : List Nat} {k : Fin p} (h : Rdc R n c m0 m pv) (hc : c < n) (ha : pv.length ≤ at_) (haR : at_ < R) (hk : m at_ c * k = 1) :
    Rdc R n (c + 1) m0 (elim (scl (swp m at_ pv.length) pv.length k) pv.length c) (pv ++ [c]) := by
  have hrR : pv.length < R := by omega
  -- the swapped matrix
  have low1 : ∀ i j, pv.length ≤ i → i < R → j < c → swp m at_ pv.length i j = 0 := by
    intro i j h1 h2 h3
    simp only [swp]
    split
    · exact h.low _ j (Nat.le_refl _) hrR h3
    · split
      · exact h.low _ j ha haR h3
      · exact h.low i j h1 h2 h3
  have up1 : ∀ i, i < pv.length → swp m at_ pv.length i = m i := by
    intro i hi
    simp only [swp]
    rw [if_neg (by omega), if_neg (by omega)]
  have piv : swp m at_ pv.length pv.length c = m at_ c := by
    simp only [swp]
    by_cases e : pv.length = at_
    · rw [if_pos e, e]
    · rw [if_neg e, if_pos trivial]
  have low2 : ∀ i j, pv.length ≤ i → i < R → j < c → scl (swp m at_ pv.length) pv.length k i j = 0 := by
    intro i j h1 h2 h3
    simp only [scl]
    split
    · rw [low1 _ j (Nat.le_refl _) hrR h3]; grind
    · exact low1 i j h1 h2 h3
  have up2 : ∀ i, i < pv.length → scl (swp m at_ pv.length) pv.length k i = m i := by
    intro i hi; funext j
    simp only [scl]; rw [if_neg (by omega), up1 i hi]
  have piv2 : scl (swp m at_ pv.length) pv.length k pv.length c = 1 := by
    simp only [scl, if_true, piv]; grind
  generalize hm2 : scl (swp m at_ pv.length) pv.length k = m2 at *
  have sol2 : ∀ u, Sol R (n + 1) m2 u ↔ Sol R (n + 1) m0 u := fun u => by
    rw [← hm2, Sol_scl (k' := m at_ c) hk u, Sol_swp haR hrR u]; exact h.sol u
  have oldcol : ∀ i, i < pv.length → m2 pv.length (pv.getD i 0) = 0 := fun i hi => low2 _ _ (Nat.le_refl _) hrR (h.lt i hi)
  have gl : ∀ i, i < pv.length → (pv ++ [c]).getD i 0 = pv.getD i 0 := fun i hi => by
    simp [List.getElem?_append_left hi]
  have gr : (pv ++ [c]).getD pv.length 0 = c := by simp
  refine ⟨by simp; omega, ?_, by omega, ?_, ?_, ?_, fun u => (Sol_elim hrR u).trans (sol2 u)⟩
  · intro i hi
    by_cases e : i = pv.length
    · subst e; rw [gr]; omega
    · have hi' : i < pv.length := by simp at hi; omega
      rw [gl i hi']; have := h.lt i hi'; omega
  · intro i hi
    by_cases e : i = pv.length
    · subst e; rw [gr]; simp only [elim, if_true]; exact piv2
    · have hi' : i < pv.length := by simp at hi; omega
      rw [gl i hi']; simp only [elim]; rw [if_neg e, oldcol i hi', up2 i hi', h.one i hi']; grind
  · intro i q hi hq hne
    by_cases e : i = pv.length
    · subst e; rw [gr]; simp only [elim]; rw [if_neg hne, piv2]; grind
    · have hi' : i < pv.length := by simp at hi; omega
      rw [gl i hi']; simp only [elim]
      by_cases e2 : q = pv.length
      · rw [if_pos e2]; exact oldcol i hi'
      · rw [if_neg e2, oldcol i hi']
        have : m2 q (pv.getD i 0) = 0 := by
          by_cases e3 : q < pv.length
          · rw [up2 q e3]; exact h.off i q hi' hq hne
          · exact low2 q _ (by omega) hq (h.lt i hi')
        rw [this]; grind
  · intro i j h1 h2 h3
    have h1' : pv.length < i := by simp at h1; omega
    simp only [elim]; rw [if_neg (by omega)]
    by_cases e : j = c
    · subst e; rw [piv2]; grind
    · rw [low2 i j (by omega) h2 (by omega), low2 pv.length j (Nat.le_refl _) hrR (by omega)]; grind

/-- nothing solves it where a row of zeros has a right side -/
theorem Rdc.none {R n : Nat} {m0 m : Mx p} {pv : List Nat} (h : Rdc R n n m0 m pv) {i : Nat} (h1 : pv.length ≤ i) (h2 : i < R) (hne : m i n ≠ 0) :
    ∀ u, u n = -1 → ¬ Sol R (n + 1) m0 u := by
  intro u hu hs
  have := ((h.sol u).2 hs) i h2
  rw [sm, sm_zero (fun j hj => by rw [h.low i j h1 h2 hj]; grind), hu] at this
  apply hne; grind

/-- the solution that is read off -/
theorem Rdc.some {R n : Nat} {m0 m : Mx p} {pv : List Nat} (h : Rdc R n n m0 m pv) (hz : ∀ i, pv.length ≤ i → i < R → m i n = 0)
    (u : Nat → Fin p) (hu : u n = -1) (hp : ∀ i, i < pv.length → u (pv.getD i 0) = m i n) (ho : ∀ j, j < n → (∀ i, i < pv.length → pv.getD i 0 ≠ j) → u j = 0) :
    Sol R (n + 1) m0 u := by
  rw [← h.sol u]
  intro i hi
  rw [sm, hu]
  by_cases e : i < pv.length
  · rw [sm_one (pv.getD i 0) (h.lt i e) (fun j hj hne => ?_), h.one i e, hp i e]
    · grind
    · by_cases ex : ∃ k, k < pv.length ∧ pv.getD k 0 = j
      · obtain ⟨k, hk, rfl⟩ := ex
        have : k ≠ i := fun e => hne (by rw [e])
        rw [h.off k i hk hi (by omega)]; grind
      · rw [ho j hj (fun k hk hkj => ex ⟨k, hk, hkj⟩)]; grind
  · rw [sm_zero (fun j hj => by rw [h.low i j (by omega) hi hj]; grind), hz i (by omega) hi]; grind
end
end Pv

set_option linter.unusedVariables false
namespace Pv
/-! pigeonhole -/
theorem surj_of_inj (n : Nat) : ∀ (f : Nat → Nat), (∀ i, i < n → f i < n) → (∀ i j, i < n → j < n → f i = f j → i = j) → ∀ y, y < n → ∃ i, i < n ∧ f i = y := by
  induction n with
  | zero => intro f _ _ y hy; omega
  | succ n ih =>
    intro f hf inj y hy
    -- let v = f n; swap v with n in the codomain
    let g : Nat → Nat := fun i => if f i = n then f n else f i
    have hg : ∀ i, i < n → g i < n := by
      intro i hi
      show (if f i = n then f n else f i) < n
      have h1 := hf i (by omega); have h2 := hf n (by omega)
      by_cases e : f i = n
      · rw [if_pos e]
        have : f n ≠ n := fun h => by have := inj i n (by omega) (by omega) (by omega); omega
        omega
      · rw [if_neg e]; omega
    have ginj : ∀ i j, i < n → j < n → g i = g j → i = j := by
      intro i j hi hj h
      have h' : (if f i = n then f n else f i) = (if f j = n then f n else f j) := h
      by_cases e : f i = n <;> by_cases e' : f j = n
      · exact inj i j (by omega) (by omega) (by omega)
      · rw [if_pos e, if_neg e'] at h'; have := inj n j (by omega) (by omega) h'; omega
      · rw [if_neg e, if_pos e'] at h'; have := inj i n (by omega) (by omega) h'; omega
      · rw [if_neg e, if_neg e'] at h'; exact inj i j (by omega) (by omega) h'
    by_cases hyn : y = f n
    · exact ⟨n, by omega, hyn.symm⟩
    · by_cases hy' : y = n
      · -- y = n, f n ≠ n ; need i with f i = n. f n < n so exists i<n with g i = f n
        subst hy'
        have h2 := hf y (by omega)
        obtain ⟨i, hi, he⟩ := ih g hg ginj (f y) (by omega)
        have he' : (if f i = y then f y else f i) = f y := he
        by_cases e : f i = y
        · exact ⟨i, by omega, e⟩
        · rw [if_neg e] at he'; have := inj i y (by omega) (by omega) he'; omega
      · obtain ⟨i, hi, he⟩ := ih g hg ginj y (by omega)
        have he' : (if f i = n then f n else f i) = y := he
        by_cases e : f i = n
        · rw [if_pos e] at he'; omega
        · rw [if_neg e] at he'; exact ⟨i, by omega, he'⟩

theorem pow_mod_mul_one {g m a : Nat} (k : Nat) (hm : 1 < m) (h : g ^ a % m = 1) : g ^ (a * k) % m = 1 := by
  rw [Nat.pow_mul, Nat.pow_mod, h, Nat.one_pow]; exact Nat.mod_eq_of_lt hm

theorem pow_mod_sub {g m a b : Nat} (hab : a ≤ b) (ha : g ^ a % m = 1) (hb : g ^ b % m = 1) : g ^ (b - a) % m = 1 := by
  have h : g ^ b = g ^ a * g ^ (b - a) := by rw [← Nat.pow_add]; congr 1; omega
  rw [h, Nat.mul_mod, ha, Nat.one_mul, Nat.mod_mod] at hb; exact hb

theorem pow_mod_gcd {g m : Nat} (hm : 1 < m) : ∀ n a b, a + b ≤ n → g ^ a % m = 1 → g ^ b % m = 1 → g ^ (Nat.gcd a b) % m = 1 := by
  intro n
  induction n with
  | zero => intro a b h ha hb; have : a = 0 := (Nat.add_eq_zero_iff.1 (Nat.le_zero.1 h)).1
            subst this; rw [Nat.gcd_zero_left]; exact hb
  | succ n ih =>
    intro a b h ha hb
    rcases Nat.eq_zero_or_pos a with ha0 | ha0
    · subst ha0; rw [Nat.gcd_zero_left]; exact hb
    · rcases Nat.eq_zero_or_pos b with hb0 | hb0
      · subst hb0; rw [Nat.gcd_zero_right]; exact ha
      · rcases Nat.le_total a b with hab | hab
        · have := ih a (b - a) (by omega) ha (pow_mod_sub hab ha hb)
          rwa [Nat.gcd_sub_self_right hab] at this
        · have := ih (a - b) b (by omega) (pow_mod_sub hab hb ha) hb
          rwa [Nat.gcd_sub_self_left hab] at this

/-- small primes -/
def Prm (q : Nat) : Prop := 1 < q ∧ ∀ d, d ∣ q → d = 1 ∨ d = q

theorem exists_prm (n : Nat) : 1 < n → ∃ q, Prm q ∧ q ∣ n := by
  induction n using Nat.strongRecOn with
  | _ n ih =>
    intro hn
    by_cases h : ∀ d, d ∣ n → d = 1 ∨ d = n
    · exact ⟨n, ⟨hn, h⟩, Nat.dvd_refl n⟩
    · obtain ⟨d, hd⟩ := Classical.not_forall.1 h
      have hd' : d ∣ n ∧ ¬ (d = 1 ∨ d = n) := Classical.not_imp.1 hd
      obtain ⟨hdn, hne⟩ := hd'
      have hle := Nat.le_of_dvd (by omega) hdn
      have hd0 : d ≠ 0 := fun e => by subst e; have := Nat.eq_zero_of_zero_dvd hdn; omega
      have : d ≠ 1 := fun e => hne (.inl e)
      have : d ≠ n := fun e => hne (.inr e)
      obtain ⟨q, hq, hqd⟩ := ih d (by omega) (by omega)
      exact ⟨q, hq, Nat.dvd_trans hqd hdn⟩

theorem prm_dvd_mul {q a b : Nat} (hq : Prm q) (h : q ∣ a * b) : q ∣ a ∨ q ∣ b := by
  by_cases ha : q ∣ a
  · exact .inl ha
  · refine .inr ?_
    have hc : Nat.Coprime q a := by
      have hd := hq.2 (Nat.gcd q a) (Nat.gcd_dvd_left q a)
      rcases hd with hd | hd
      · exact hd
      · exact absurd (hd ▸ Nat.gcd_dvd_right q a) ha
    exact Nat.Coprime.dvd_of_dvd_mul_left hc h

theorem prm_dvd_prod {q : Nat} (hq : Prm q) : ∀ l : List Nat, (∀ r, r ∈ l → Prm r) → q ∣ l.foldr (· * ·) 1 → q ∈ l := by
  intro l
  induction l with
  | nil => intro _ h; have := Nat.le_of_dvd (by simp) h; have := hq.1; simp at *; omega
  | cons r l ih =>
    intro hr h
    rcases prm_dvd_mul hq h with h | h
    · have := (hr r (by simp)).2 q h
      have := hq.1
      rcases ‹q = 1 ∨ q = r› with e | e
      · omega
      · simp [e]
    · have := ih (fun x hx => hr x (by simp [hx])) h
      simp [this]

/-- if every 'g^((m-1)/q)' differs from 1, no smaller power of g is 1 -/
theorem order_full {g m : Nat} (hm : 1 < m) (l : List Nat) (hl : ∀ r, r ∈ l → Prm r) (hprod : l.foldr (· * ·) 1 = m - 1)
    (h1 : g ^ (m - 1) % m = 1) (hq : ∀ r, r ∈ l → g ^ ((m - 1) / r) % m ≠ 1) : ∀ k, 0 < k → k < m - 1 → g ^ k % m ≠ 1 := by
  intro k hk0 hk h
  have hg := pow_mod_gcd hm _ k (m - 1) (Nat.le_refl _) h h1
  obtain ⟨c, hc⟩ := Nat.gcd_dvd_right k (m - 1)
  have hdk := Nat.le_of_dvd hk0 (Nat.gcd_dvd_left k (m - 1))
  have hd0 : 0 < Nat.gcd k (m - 1) := Nat.gcd_pos_of_pos_left _ hk0
  generalize hd : Nat.gcd k (m - 1) = d at *
  have hc1 : 1 < c := by
    rcases Nat.lt_or_ge 1 c with h | h
    · exact h
    · have : c = 0 ∨ c = 1 := by omega
      rcases this with e | e <;> subst e <;> simp at hc <;> omega
  obtain ⟨q, hqp, hqc⟩ := exists_prm c hc1
  obtain ⟨e, he⟩ := hqc
  have hmem : q ∈ l := prm_dvd_prod hqp l hl (by rw [hprod, hc, he]; exact ⟨d * e, by rw [← Nat.mul_assoc, ← Nat.mul_assoc, Nat.mul_comm d q]⟩)
  apply hq q hmem
  have : (m - 1) / q = d * e := by
    rw [hc, he, Nat.mul_left_comm]
    exact Nat.mul_div_cancel_left _ (by have := hqp.1; omega)
  rw [this]
  exact pow_mod_mul_one e hm hg

theorem fermat_of_root {g m : Nat} (hm : 2 < m) (h1 : g ^ (m - 1) % m = 1) (hk : ∀ k, 0 < k → k < m - 1 → g ^ k % m ≠ 1) :
    ∀ a, 0 < a → a < m → a ^ (m - 1) % m = 1 := by
  have hne : ∀ k, k < m - 1 → g ^ k % m ≠ 0 := by
    intro k hk h
    have : g ^ (m - 1) = g ^ k * g ^ (m - 1 - k) := by rw [← Nat.pow_add]; congr 1; omega
    rw [this, Nat.mul_mod, h] at h1
    simp at h1
  have inj : ∀ i j, i < j → j < m - 1 → g ^ i % m ≠ g ^ j % m := by
    intro i j hij hj h
    have e1 : g ^ (m - 1) = g ^ i * g ^ (m - 1 - i) := by rw [← Nat.pow_add]; congr 1; omega
    have e2 : g ^ (j + (m - 1 - i)) = g ^ j * g ^ (m - 1 - i) := by rw [← Nat.pow_add]
    have h2 : g ^ (j + (m - 1 - i)) % m = 1 := by
      rw [e2, Nat.mul_mod, ← h, ← Nat.mul_mod, ← e1]; exact h1
    have := pow_mod_sub (by omega) h1 h2
    have e3 : j + (m - 1 - i) - (m - 1) = j - i := by omega
    rw [e3] at this
    exact hk (j - i) (by omega) (by omega) this
  intro a ha0 ham
  obtain ⟨i, hi, he⟩ := surj_of_inj (m - 1) (fun k => g ^ k % m - 1) (fun i hi => by
      have := hne i hi; have := Nat.mod_lt (g ^ i) (show m > 0 by omega)
      show g ^ i % m - 1 < m - 1
      omega) (fun i j hi hj h => by
      have h' : g ^ i % m - 1 = g ^ j % m - 1 := h
      have h1 := hne i hi; have h2 := hne j hj
      have h3 : g ^ i % m = g ^ j % m := by omega
      rcases Nat.lt_trichotomy i j with h | h | h
      · exact absurd h3 (inj i j h hj)
      · exact h
      · exact absurd h3.symm (inj j i h hi)) (a - 1) (by omega)
  have he' : g ^ i % m - 1 = a - 1 := he
  have hz := hne i hi
  have e : a = g ^ i % m := by omega
  rw [e, ← Nat.pow_mod, ← Nat.pow_mul, Nat.mul_comm]
  exact pow_mod_mul_one i (by omega) h1

/-! powers modulo m, for the kernel -/
def pm (m : Nat) : Nat → Nat → Nat → Nat → Nat
  | 0, _, _, acc => acc
  | f + 1, g, k, acc => pm m f (g * g % m) (k / 2) (if k % 2 = 1 then acc * g % m else acc)
theorem pm_eq (m : Nat) (hm : 1 < m) : ∀ f g k acc, k < 2 ^ f → acc < m → pm m f g k acc = acc * g ^ k % m := by
  intro f
  induction f with
  | zero => intro g k acc hk ha; have : k = 0 := by simpa using hk
            subst this; simp [pm, Nat.mod_eq_of_lt ha]
  | succ f ih =>
    intro g k acc hk ha
    have hk2 : k / 2 < 2 ^ f := by rw [Nat.pow_succ] at hk; omega
    have hlt : (if k % 2 = 1 then acc * g % m else acc) < m := by
      split
      · exact Nat.mod_lt _ (by omega)
      · exact ha
    rw [pm, ih _ _ _ hk2 hlt]
    have hg : (g * g % m) ^ (k / 2) % m = g ^ (2 * (k / 2)) % m := by
      rw [← Nat.pow_mod, Nat.pow_mul, Nat.pow_two]
    rw [Nat.mul_mod, hg, ← Nat.mul_mod]
    by_cases h : k % 2 = 1
    · rw [if_pos h, Nat.mul_mod, Nat.mod_mod, ← Nat.mul_mod, Nat.mul_assoc, ← Nat.pow_add_one']
      congr 3; omega
    · rw [if_neg h]; congr 3; omega
theorem pm_pow (m g k f : Nat) (hm : 1 < m) (hk : k < 2 ^ f) : g ^ k % m = pm m f g k 1 := by
  rw [pm_eq m hm f g k 1 hk hm, Nat.one_mul]

def prmB (q : Nat) : Bool := decide (1 < q) && (List.range q).all (fun d => decide (d ≤ 1) || q % d != 0)
theorem prm_of (q : Nat) (h : prmB q = true) : Prm q := by
  unfold prmB at h
  simp only [Bool.and_eq_true, decide_eq_true_eq, List.all_eq_true, List.mem_range, Bool.or_eq_true, bne_iff_ne] at h
  refine ⟨h.1, fun d hd => ?_⟩
  have hle := Nat.le_of_dvd (by omega) hd
  rcases Nat.lt_or_ge d q with hlt | hge
  · rcases h.2 d hlt with h' | h'
    · have : d ≠ 0 := fun e => by subst e; have := Nat.eq_zero_of_zero_dvd hd; omega
      left; omega
    · exact absurd (Nat.mod_eq_zero_of_dvd hd) h'
  · right; omega

def chk (m g f : Nat) (l : List Nat) : Bool :=
  decide (2 < m) && decide (m < 2 ^ f) && l.all prmB && (l.foldr (· * ·) 1 == m - 1) && (pm m f g (m - 1) 1 == 1) && l.all (fun r => pm m f g ((m - 1) / r) 1 != 1)
theorem fermat_chk {m g f : Nat} {l : List Nat} (h : chk m g f l = true) : ∀ a, 0 < a → a < m → a ^ (m - 1) % m = 1 := by
  unfold chk at h
  simp only [Bool.and_eq_true, decide_eq_true_eq, List.all_eq_true, beq_iff_eq, bne_iff_ne] at h
  obtain ⟨⟨⟨⟨⟨h1, h2⟩, h3⟩, h4⟩, h5⟩, h6⟩ := h
  have hp : g ^ (m - 1) % m = 1 := by rw [pm_pow m g (m - 1) f (by omega) (by omega)]; exact h5
  refine fermat_of_root h1 hp ?_
  refine order_full (by omega) l (fun r hr => prm_of r (h3 r hr)) h4 hp (fun r hr => ?_)
  rw [pm_pow m g ((m - 1) / r) f (by omega) (by have := Nat.div_le_self (m - 1) r; omega)]
  exact h6 r hr

/-- the supported primes -/
def IsP (p : Nat) : Prop := p = 31 ∨ p = 127 ∨ p = 8191 ∨ p = 131071 ∨ p = 524287 ∨ p = 2147483647 ∨ p = 2305843009213693951

theorem IsP.fermat {p : Nat} (h : IsP p) : ∀ a, 0 < a → a < p → a ^ (p - 1) % p = 1 := by
  rcases h with rfl | rfl | rfl | rfl | rfl | rfl | rfl
  · exact fermat_chk (g := 3) (f := 64) (l := [2, 3, 5]) (by decide +kernel)
  · exact fermat_chk (g := 3) (f := 64) (l := [2, 3, 3, 7]) (by decide +kernel)
  · exact fermat_chk (g := 17) (f := 64) (l := [2, 3, 3, 5, 7, 13]) (by decide +kernel)
  · exact fermat_chk (g := 3) (f := 64) (l := [2, 3, 5, 17, 257]) (by decide +kernel)
  · exact fermat_chk (g := 3) (f := 64) (l := [2, 3, 3, 3, 7, 19, 73]) (by decide +kernel)
  · exact fermat_chk (g := 7) (f := 64) (l := [2, 3, 3, 7, 11, 31, 151, 331]) (by decide +kernel)
  · exact fermat_chk (g := 37) (f := 64) (l := [2, 3, 3, 5, 5, 7, 11, 13, 31, 41, 61, 151, 331, 1321]) (by decide +kernel)

theorem IsP.lo {p : Nat} (h : IsP p) : 31 ≤ p := by rcases h with rfl | rfl | rfl | rfl | rfl | rfl | rfl <;> decide
theorem IsP.hi {p : Nat} (h : IsP p) : p ≤ 2305843009213693951 := by rcases h with rfl | rfl | rfl | rfl | rfl | rfl | rfl <;> decide
theorem IsP.inv {p : Nat} (h : IsP p) (a : Nat) (h0 : 0 < a) (ha : a < p) : a * a ^ (p - 2) % p = 1 := by
  have := h.fermat a h0 ha
  have hlo := h.lo
  rw [← Nat.pow_add_one']; rwa [show p - 2 + 1 = p - 1 by omega]
end Pv
#print axioms Pv.IsP.inv

set_option linter.unusedVariables false
namespace Pv
/-! what the code computes, as plain functions on natural numbers -/
def fadd (p a b : Nat) : Nat := (a + b) % p
def fmul (p a b : Nat) : Nat := a * b % p
def fneg (p a : Nat) : Nat := if a = 0 then 0 else p - a
def fsub (p a b : Nat) : Nat := fadd p a (fneg p b)
theorem fadd_lt {p : Nat} (hp : 0 < p) (a b : Nat) : fadd p a b < p := Nat.mod_lt _ hp
theorem fmul_lt {p : Nat} (hp : 0 < p) (a b : Nat) : fmul p a b < p := Nat.mod_lt _ hp
theorem fneg_lt {p : Nat} (hp : 0 < p) (a : Nat) : fneg p a < p := by unfold fneg; split <;> omega
theorem fsub_lt {p : Nat} (hp : 0 < p) (a b : Nat) : fsub p a b < p := Nat.mod_lt _ hp

/-- the supported primes with their exponents -/
def PQ (p q : Nat) : Prop := (p = 31 ∧ q = 5) ∨ (p = 127 ∧ q = 7) ∨ (p = 8191 ∧ q = 13) ∨ (p = 131071 ∧ q = 17) ∨ (p = 524287 ∧ q = 19) ∨ (p = 2147483647 ∧ q = 31) ∨ (p = 2305843009213693951 ∧ q = 61)
theorem IsP.pq {p : Nat} (h : IsP p) : ∃ q, PQ p q := by
  rcases h with rfl | rfl | rfl | rfl | rfl | rfl | rfl
  · exact ⟨5, by simp [PQ]⟩
  · exact ⟨7, by simp [PQ]⟩
  · exact ⟨13, by simp [PQ]⟩
  · exact ⟨17, by simp [PQ]⟩
  · exact ⟨19, by simp [PQ]⟩
  · exact ⟨31, by simp [PQ]⟩
  · exact ⟨61, by simp [PQ]⟩
theorem PQ.pow {p q : Nat} (h : PQ p q) : 2 ^ q = p + 1 := by
  rcases h with ⟨rfl, rfl⟩ | ⟨rfl, rfl⟩ | ⟨rfl, rfl⟩ | ⟨rfl, rfl⟩ | ⟨rfl, rfl⟩ | ⟨rfl, rfl⟩ | ⟨rfl, rfl⟩ <;> decide
theorem PQ.lo {p q : Nat} (h : PQ p q) : 1 ≤ q ∧ q ≤ 61 ∧ 31 ≤ p ∧ p ≤ 2305843009213693951 := by
  rcases h with ⟨rfl, rfl⟩ | ⟨rfl, rfl⟩ | ⟨rfl, rfl⟩ | ⟨rfl, rfl⟩ | ⟨rfl, rfl⟩ | ⟨rfl, rfl⟩ | ⟨rfl, rfl⟩ <;> decide
theorem PQ.isP {p q : Nat} (h : PQ p q) : IsP p := by
  rcases h with ⟨rfl, rfl⟩ | ⟨rfl, rfl⟩ | ⟨rfl, rfl⟩ | ⟨rfl, rfl⟩ | ⟨rfl, rfl⟩ | ⟨rfl, rfl⟩ | ⟨rfl, rfl⟩ <;> simp [IsP]

theorem mm1 (x y p : Nat) : x % p * y % p = x * y % p := by rw [Nat.mul_mod, Nat.mod_mod, ← Nat.mul_mod]
theorem mm2 (x y p : Nat) : x * (y % p) % p = x * y % p := by rw [Nat.mul_mod, Nat.mod_mod, ← Nat.mul_mod]
theorem mm3 (x y k p : Nat) : x * (y % p) ^ k % p = x * y ^ k % p := by rw [Nat.mul_mod, ← Nat.pow_mod, ← Nat.mul_mod]
/-- a^n by squaring, as the code goes: 'o' is what has been gathered -/
theorem fpow_step_odd (p o a n : Nat) (h : n % 2 = 1) : o * a ^ n % p = fmul p o a * (fmul p a a) ^ (n / 2) % p := by
  have e : n = 2 * (n / 2) + 1 := by omega
  unfold fmul
  rw [mm1, mm3]
  conv => lhs; rw [e, Nat.pow_add_one, Nat.pow_mul, Nat.pow_two]
  rw [Nat.mul_assoc o a, Nat.mul_comm ((a * a) ^ (n / 2)) a]
theorem fpow_step_even (p o a n : Nat) (h : n % 2 = 0) : o * a ^ n % p = o * (fmul p a a) ^ (n / 2) % p := by
  have e : n = 2 * (n / 2) := by omega
  unfold fmul
  rw [mm3]
  conv => lhs; rw [e, Nat.pow_mul, Nat.pow_two]
def fpow (p a n : Nat) : Nat := a ^ n % p
def finv (p a : Nat) : Nat := a ^ (p - 2) % p

/-- Horner's scheme -/
def hor (p : Nat) (f : List Nat) (x : Nat) : Nat := f.foldr (fun c r => fadd p (fmul p r x) c) 0
theorem hor_lt (p x : Nat) (hp : 0 < p) : ∀ f, hor p f x < p := by
  intro f; cases f with
  | nil => exact hp
  | cons c f => exact Nat.mod_lt _ hp
theorem hor_drop (p : Nat) (f : List Nat) (x k : Nat) (h : k < f.length) : hor p (f.drop k) x = fadd p (fmul p (hor p (f.drop (k + 1)) x) x) (f.getD k 0) := by
  rw [List.drop_eq_getElem_cons h, List.getD_eq_getElem?_getD, List.getElem?_eq_getElem h]; rfl

/-- without trailing zeros -/
def trm : List Nat → List Nat
  | [] => []
  | x :: xs => if x = 0 ∧ trm xs = [] then [] else x :: trm xs
theorem trm_take : ∀ (f : List Nat) (k : Nat), k ≤ f.length → (∀ j, k ≤ j → j < f.length → f.getD j 0 = 0) → (0 < k → f.getD (k - 1) 0 ≠ 0) → trm f = f.take k
  | [], k, _, _, _ => by simp [trm]
  | x :: xs, 0, _, h, _ => by
    have h0 : x = 0 := h 0 (by omega) (by simp)
    have ih := trm_take xs 0 (by omega) (fun j _ hj => h (j + 1) (by omega) (by simpa using hj)) (by omega)
    simp at ih
    simp [trm, h0, ih]
  | x :: xs, k + 1, hk, h, h1 => by
    have ih := trm_take xs k (by simpa using hk) (fun j hj hj2 => h (j + 1) (by omega) (by simpa using hj2)) (fun h0 => by
      have := h1 (by omega)
      rwa [show k + 1 - 1 = (k - 1) + 1 by omega, List.getD_cons_succ] at this)
    unfold trm
    rw [ih]
    have : ¬ (x = 0 ∧ xs.take k = []) := by
      rintro ⟨e1, e2⟩
      rcases Nat.eq_zero_or_pos k with hk0 | hk0
      · subst hk0; exact h1 (by omega) (by simpa using e1)
      · have h3 : min k xs.length = 0 := by rw [← List.length_take, e2]; rfl
        have h4 : k ≤ xs.length := by simpa using hk
        omega
    rw [if_neg this]; rfl
theorem trm_len : ∀ f : List Nat, (trm f).length ≤ f.length
  | [] => by simp [trm]
  | x :: xs => by
    unfold trm
    split
    · simp
    · simp; exact trm_len xs
theorem trm_mem : ∀ (f : List Nat) (y : Nat), y ∈ trm f → y ∈ f
  | [], y, h => by simp [trm] at h
  | x :: xs, y, h => by
    unfold trm at h
    split at h
    · simp at h
    · rcases List.mem_cons.1 h with h | h
      · simp [h]
      · simp [trm_mem xs y h]
theorem trm_last : ∀ (f : List Nat), 0 < (trm f).length → (trm f).getD ((trm f).length - 1) 0 ≠ 0
  | [], h => by simp [trm] at h
  | x :: xs, h => by
    unfold trm at h ⊢
    split at h
    · simp at h
    · rename_i hn
      rw [if_neg hn]
      rcases Nat.eq_zero_or_pos (trm xs).length with h0 | h0
      · have : trm xs = [] := List.eq_nil_of_length_eq_zero h0
        simp [this] at hn ⊢; exact hn
      · have := trm_last xs h0
        rw [List.length_cons, show (trm xs).length + 1 - 1 = ((trm xs).length - 1) + 1 by omega, List.getD_cons_succ]; exact this
theorem trm_getD : ∀ (f : List Nat) (j : Nat), (trm f).getD j 0 = f.getD j 0
  | [], j => by simp [trm]
  | x :: xs, j => by
    unfold trm
    split
    · rename_i h
      cases j with
      | zero => simp [h.1]
      | succ j => rw [List.getD_cons_succ, ← trm_getD xs j, h.2]; simp
    · cases j with
      | zero => rfl
      | succ j => rw [List.getD_cons_succ, List.getD_cons_succ, trm_getD xs j]
theorem trm_take_self : ∀ f : List Nat, trm f = f.take (trm f).length
  | [] => by simp [trm]
  | x :: xs => by
    unfold trm
    split
    · simp
    · rw [List.length_cons, List.take_succ_cons, ← trm_take_self xs]
theorem trm_fix {f : List Nat} (h : 0 < f.length → f.getD (f.length - 1) 0 ≠ 0) : trm f = f := by
  have := trm_take f f.length (Nat.le_refl _) (fun j h1 h2 => by omega) h
  rwa [List.take_length] at this
end Pv

set_option linter.unusedVariables false
namespace Pv
section
variable {p : Nat} [NeZero p]

structure Fld (p : Nat) [NeZero p] : Prop where
  inv : ∀ a : Fin p, a ≠ 0 → ∃ b, a * b = 1
  one : (1 : Fin p) ≠ 0

theorem Fld.mul_zero {p : Nat} [NeZero p] (h : Fld p) {a b : Fin p} (hab : a * b = 0) : a = 0 ∨ b = 0 := by
  by_cases ha : a = 0
  · exact .inl ha
  · obtain ⟨c, hc⟩ := h.inv a ha
    right; grind

def ev (f : List (Fin p)) (x : Fin p) : Fin p := f.foldr (fun c r => c + x * r) 0
@[simp] theorem ev_nil (x : Fin p) : ev [] x = 0 := rfl
@[simp] theorem ev_cons (c : Fin p) (f : List (Fin p)) (x : Fin p) : ev (c :: f) x = c + x * ev f x := rfl

/-- the quotient of f by X - a -/
def syn (a : Fin p) : List (Fin p) → List (Fin p)
  | [] => []
  | [_] => []
  | _ :: c :: f => ev (c :: f) a :: syn a (c :: f)

theorem syn_length (a : Fin p) : ∀ f : List (Fin p), (syn a f).length = f.length - 1
  | [] => rfl
  | [_] => rfl
  | _ :: c :: f => by simp [syn, syn_length a (c :: f)]

theorem ev_syn (a x : Fin p) : ∀ f : List (Fin p), ev f x = (x - a) * ev (syn a f) x + ev f a
  | [] => by simp [syn]; grind
  | [c] => by simp [syn]; grind
  | b :: c :: f => by
    have ih := ev_syn a x (c :: f)
    rw [ev_cons b (c :: f) x, syn, ev_cons _ (syn a (c :: f)), ev_cons b (c :: f) a, ih]
    grind

theorem syn_zero (a : Fin p) : ∀ f : List (Fin p), (∀ c, c ∈ syn a f → c = 0) → ev f a = 0 → ∀ c, c ∈ f → c = 0
  | [], _, _ => by simp
  | [c], _, h => by simp at h; simp; grind
  | b :: c :: f, hs, h => by
    have h1 : ev (c :: f) a = 0 := hs _ (by simp [syn])
    have ih := syn_zero a (c :: f) (fun d hd => hs d (by simp [syn, hd])) h1
    rw [ev_cons, h1] at h
    intro d hd
    rcases List.mem_cons.1 hd with e | e
    · subst e; grind
    · exact ih d e

theorem roots_zero (h : Fld p) : ∀ (xs : List (Fin p)) (f : List (Fin p)), xs.Nodup → f.length ≤ xs.length → (∀ x, x ∈ xs → ev f x = 0) → ∀ c, c ∈ f → c = 0 := by
  intro xs
  induction xs with
  | nil => intro f _ hl _ c hc; have : f = [] := List.eq_nil_of_length_eq_zero (by simpa using hl)
           subst this; simp at hc
  | cons a xs ih =>
    intro f hnd hl hr
    have ha : ev f a = 0 := hr a (by simp)
    have hnd' := List.nodup_cons.1 hnd
    refine syn_zero a f (ih (syn a f) hnd'.2 (by rw [syn_length]; simp at hl; omega) (fun x hx => ?_)) ha
    have h1 := ev_syn a x f
    rw [hr x (by simp [hx]), ha] at h1
    have h2 : (x - a) * ev (syn a f) x = 0 := by grind
    rcases h.mul_zero h2 with h3 | h3
    · exfalso; apply hnd'.1
      have : x = a := by grind
      rwa [← this]
    · exact h3

/-! coefficients, sums, products -/
def co (f : List (Fin p)) (i : Nat) : Fin p := f.getD i 0

def padd : List (Fin p) → List (Fin p) → List (Fin p)
  | [], g => g
  | f, [] => f
  | a :: f, b :: g => (a + b) :: padd f g
theorem ev_padd (x : Fin p) : ∀ f g : List (Fin p), ev (padd f g) x = ev f x + ev g x
  | [], g => by simp [padd]
  | a :: f, [] => by simp [padd]
  | a :: f, b :: g => by simp [padd, ev_padd x f g]; grind
omit [NeZero p] in
theorem padd_length : ∀ f g : List (Fin p), (padd f g).length = max f.length g.length
  | [], g => by simp [padd]
  | a :: f, [] => by simp [padd]
  | a :: f, b :: g => by simp [padd, padd_length f g]
def psmul (k : Fin p) (f : List (Fin p)) : List (Fin p) := f.map (k * ·)
theorem ev_psmul (k x : Fin p) : ∀ f : List (Fin p), ev (psmul k f) x = k * ev f x
  | [] => by simp [psmul]; grind
  | a :: f => by have := ev_psmul k x f; simp [psmul] at *; rw [this]; grind
def pmul : List (Fin p) → List (Fin p) → List (Fin p)
  | [], _ => []
  | a :: f, g => padd (psmul a g) (0 :: pmul f g)
theorem ev_pmul (x : Fin p) : ∀ f g : List (Fin p), ev (pmul f g) x = ev f x * ev g x
  | [], g => by simp [pmul]; grind
  | a :: f, g => by simp [pmul, ev_padd, ev_psmul, ev_pmul x f g]; grind
theorem pmul_length : ∀ f g : List (Fin p), f ≠ [] → g ≠ [] → (pmul f g).length = f.length + g.length - 1
  | [], g, h, _ => absurd rfl h
  | [a], g, _, hg => by
    have := List.length_pos_iff.2 hg
    simp [pmul, padd_length, psmul]; omega
  | a :: b :: f, g, _, hg => by
    have := List.length_pos_iff.2 hg
    have ih := pmul_length (b :: f) g (by simp) hg
    rw [pmul, padd_length]; simp [psmul, ih]; omega
end
end Pv

set_option linter.unusedVariables false
namespace Pv
/-! Nat lists and the field Fin p -/
section
variable {p : Nat} [NeZero p]
def K (x : Nat) : Fin p := Fin.ofNat p x
theorem K_val (x : Nat) : (K x : Fin p).val = x % p := rfl
theorem K_eq {x y : Nat} (h : x % p = y % p) : (K x : Fin p) = K y := Fin.ext h
theorem K_inj {x y : Nat} (hx : x < p) (hy : y < p) (h : (K x : Fin p) = K y) : x = y := by
  have := congrArg Fin.val h
  rwa [K_val, K_val, Nat.mod_eq_of_lt hx, Nat.mod_eq_of_lt hy] at this
theorem K_mod (x : Nat) : (K (x % p) : Fin p) = K x := K_eq (by simp)
theorem K_add (x y : Nat) : (K (x + y) : Fin p) = K x + K y := by
  apply Fin.ext; rw [Fin.val_add, K_val, K_val, K_val, ← Nat.add_mod]
theorem K_mul (x y : Nat) : (K (x * y) : Fin p) = K x * K y := by
  apply Fin.ext; rw [Fin.val_mul, K_val, K_val, K_val, ← Nat.mul_mod]
theorem K_zero : (K 0 : Fin p) = 0 := by apply Fin.ext; simp [K_val]
theorem K_one (h : 1 < p) : (K 1 : Fin p) = 1 := by
  apply Fin.ext; rw [K_val]; obtain ⟨q, rfl⟩ : ∃ q, p = q + 1 := ⟨p - 1, by omega⟩; rfl
theorem K_fadd (x y : Nat) : (K (fadd p x y) : Fin p) = K x + K y := by unfold fadd; rw [K_mod, K_add]
theorem K_fmul (x y : Nat) : (K (fmul p x y) : Fin p) = K x * K y := by unfold fmul; rw [K_mod, K_mul]
theorem K_fneg {x : Nat} (hx : x < p) : (K (fneg p x) : Fin p) = - K x := by
  have : (K (fneg p x) : Fin p) + K x = 0 := by
    rw [← K_add]
    have h : fneg p x + x = 0 ∨ fneg p x + x = p := by unfold fneg; split <;> omega
    rcases h with h | h <;> rw [h]
    · exact K_zero
    · rw [show (K p : Fin p) = K 0 from K_eq (by simp)]; exact K_zero
  grind
theorem K_fsub {x y : Nat} (hy : y < p) : (K (fsub p x y) : Fin p) = K x - K y := by
  unfold fsub; rw [K_fadd, K_fneg hy]; grind
theorem K_ne {x : Nat} (hx : x < p) (h : x ≠ 0) : (K x : Fin p) ≠ 0 := by
  intro e; rw [← K_zero] at e; exact h (K_inj hx (by omega) e)
theorem fld (hp : IsP p) : Fld p := by
  have hlo := hp.lo
  refine ⟨fun a ha => ⟨K (a.val ^ (p - 2)), ?_⟩, ?_⟩
  · have e : a = K a.val := by apply Fin.ext; rw [K_val, Nat.mod_eq_of_lt a.isLt]
    conv => lhs; lhs; rw [e]
    rw [← K_mul, ← K_one (by omega)]
    apply Fin.ext; rw [K_val, K_val, hp.inv a.val (by
      rcases Nat.eq_zero_or_pos a.val with h | h
      · exact absurd (Fin.ext (by rw [h]; simp)) ha
      · exact h) a.isLt, Nat.mod_eq_of_lt (by omega)]
  · rw [← K_one (by omega)]; exact K_ne (by omega) (by omega)
theorem K_finv (hp : IsP p) {a : Nat} (ha : a < p) (h0 : a ≠ 0) : (K a : Fin p) * K (finv p a) = 1 := by
  have hlo := hp.lo
  unfold finv
  rw [K_mod, ← K_mul, ← K_one (by omega)]
  apply Fin.ext; rw [K_val, K_val, hp.inv a (by omega) ha, Nat.mod_eq_of_lt (by omega)]

def E (f : List Nat) (x : Fin p) : Fin p := ev (f.map K) x
theorem E_nil (x : Fin p) : E [] x = 0 := rfl
theorem E_cons (c : Nat) (f : List Nat) (x : Fin p) : E (c :: f) x = K c + x * E f x := rfl
theorem E_hor (f : List Nat) (x : Nat) : (K (hor p f x) : Fin p) = E f (K x) := by
  induction f with
  | nil => exact K_zero
  | cons c f ih =>
    show K (fadd p (fmul p (hor p f x) x) c) = _
    rw [K_fadd, K_fmul, ih, E_cons]; grind
theorem E_trm : ∀ (f : List Nat) (x : Fin p), E (trm f) x = E f x
  | [], x => by simp [trm]
  | c :: f, x => by
    have ih := E_trm f x
    unfold trm
    split
    · rename_i h
      rw [h.2] at ih
      rw [E_cons, ← ih, h.1, K_zero, E_nil]; grind
    · rw [E_cons, E_cons, ih]
def pw (x : Fin p) : Nat → Fin p
  | 0 => 1
  | n + 1 => x * pw x n
theorem E_set : ∀ (f : List Nat) (i c : Nat) (x : Fin p), i < f.length → E (f.set i c) x = E f x + (K c - K (f.getD i 0)) * pw x i
  | [], i, c, x, h => by simp at h
  | d :: f, 0, c, x, h => by simp [E_cons, pw]; grind
  | d :: f, i + 1, c, x, h => by
    have ih := E_set f i c x (by simpa using h)
    rw [List.set_cons_succ, E_cons, E_cons, ih, List.getD_cons_succ, pw]; grind
theorem E_snoc : ∀ (f : List Nat) (c : Nat) (x : Fin p), E (f ++ [c]) x = E f x + K c * pw x f.length
  | [], c, x => by simp [E_cons, E_nil, pw]; grind
  | d :: f, c, x => by
    rw [List.cons_append, E_cons, E_cons, E_snoc f c x, List.length_cons, pw]; grind
theorem E_take_succ (f : List Nat) (j : Nat) (x : Fin p) (h : j < f.length) : E (f.take (j + 1)) x = E (f.take j) x + K (f.getD j 0) * pw x j := by
  have e : f.take (j + 1) = f.take j ++ [f.getD j 0] := by
    rw [List.take_succ_eq_append_getElem h, List.getD_eq_getElem?_getD, List.getElem?_eq_getElem h]; rfl
  rw [e, E_snoc, List.length_take, Nat.min_eq_left (by omega)]
theorem pw_add (x : Fin p) (a : Nat) : ∀ b, pw x (a + b) = pw x a * pw x b
  | 0 => by simp [pw]; grind
  | b + 1 => by rw [← Nat.add_assoc, pw, pw_add x a b, pw]; grind
theorem E_rep (n : Nat) (x : Fin p) : E (List.replicate n 0) x = 0 := by
  induction n with
  | zero => rfl
  | succ n ih => rw [List.replicate_succ, E_cons, ih, K_zero]; grind
end

/-! one round of the division: k x^at b is taken from rest, coefficient by coefficient -/
def subN (p k at_ : Nat) (b : List Nat) : Nat → List Nat → List Nat
  | 0, r => r
  | j + 1, r => (subN p k at_ b j r).set (at_ + j) (fsub p ((subN p k at_ b j r).getD (at_ + j) 0) (fmul p k (b.getD j 0)))
theorem subN_length (p k at_ : Nat) (b r : List Nat) : ∀ j, (subN p k at_ b j r).length = r.length
  | 0 => rfl
  | j + 1 => by rw [subN, List.length_set, subN_length p k at_ b r j]
theorem set_mem {f : List Nat} {i c y : Nat} (h : y ∈ f.set i c) : y ∈ f ∨ y = c := List.mem_or_eq_of_mem_set h
theorem subN_lt {p : Nat} (hp : 0 < p) (k at_ : Nat) (b r : List Nat) (hr : ∀ y, y ∈ r → y < p) : ∀ j, ∀ y, y ∈ subN p k at_ b j r → y < p
  | 0, y, h => hr y h
  | j + 1, y, h => by
    rw [subN] at h
    rcases set_mem h with h | h
    · exact subN_lt hp k at_ b r hr j y h
    · rw [h]; exact fsub_lt hp _ _
theorem subN_far (p k at_ : Nat) (b r : List Nat) : ∀ j t, at_ + j ≤ t → (subN p k at_ b j r).getD t 0 = r.getD t 0
  | 0, t, _ => rfl
  | j + 1, t, h => by
    rw [subN, List.getD_eq_getElem?_getD, List.getElem?_set_ne (by omega), ← List.getD_eq_getElem?_getD, subN_far p k at_ b r j t (by omega)]
theorem subN_E {p : Nat} [NeZero p] (hp : 0 < p) (k at_ : Nat) (b r : List Nat) (x : Fin p) : ∀ j, j ≤ b.length → at_ + j ≤ r.length →
    E (subN p k at_ b j r) x = E r x - K k * pw x at_ * E (b.take j) x
  | 0, _, _ => by simp [subN, E_nil]; grind
  | j + 1, h1, h2 => by
    have ih := subN_E hp k at_ b r x j (by omega) (by omega)
    rw [subN, E_set _ _ _ _ (by rw [subN_length]; omega), ih, E_take_succ b j x (by omega), K_fsub (fmul_lt hp _ _), K_fmul, pw_add]
    grind

theorem trm_len_lt (f : List Nat) (h0 : 0 < f.length) (h : f.getD (f.length - 1) 0 = 0) : (trm f).length < f.length := by
  have h1 := trm_len f
  rcases Nat.lt_or_ge (trm f).length f.length with h2 | h2
  · exact h2
  · exfalso
    have e : trm f = f := by
      have := trm_take_self f
      rwa [show (trm f).length = f.length by omega, List.take_length] at this
    have := trm_last f (by omega)
    rw [e] at this; exact this h
/-- the state of a division: a = quot b + rest -/
structure DInv (p : Nat) (a b quot rest : List Nat) : Prop where
  ha : ∀ y, y ∈ rest → y < p
  hq : ∀ y, y ∈ quot → y < p
  tr : 0 < rest.length → rest.getD (rest.length - 1) 0 ≠ 0
  ql : rest.length < quot.length + b.length
  al : quot.length = 0 ∨ quot.length + b.length ≤ a.length + 1
  rl : rest.length ≤ a.length
  eq : ∀ [NeZero p] (x : Fin p), E a x = E quot x * E b x + E rest x
  z : ∀ i, i + b.length ≤ rest.length → quot.getD i 0 = 0

/-- .. as it begins -/
theorem DInv.init {p : Nat} (hp : 0 < p) (a b : List Nat) (hb : 0 < b.length) (ha : ∀ y, y ∈ a → y < p) :
    DInv p a b (List.replicate ((trm a).length + 1 - b.length) 0) (trm a) where
  ha := fun y hy => ha y (trm_mem a y hy)
  hq := fun y hy => by rw [(List.mem_replicate.1 hy).2]; exact hp
  tr := trm_last a
  ql := by simp; omega
  al := by have := trm_len a; simp; omega
  rl := trm_len a
  eq := fun x => by rw [E_rep, E_trm]; grind
  z := fun i _ => by
    rw [List.getD_eq_getElem?_getD, List.getElem?_replicate]; split <;> rfl

theorem DInv.step {p : Nat} (hp : IsP p) {a b quot rest : List Nat} (h : DInv p a b quot rest) (hb : 0 < b.length) (hbp : ∀ y, y ∈ b → y < p) (hbl : b.getD (b.length - 1) 0 ≠ 0) (hge : b.length ≤ rest.length) (k : Nat)
    (hk : k = fmul p (rest.getD (rest.length - 1) 0) (finv p (b.getD (b.length - 1) 0))) :
    DInv p a b (quot.set (rest.length - b.length) k) (trm (subN p k (rest.length - b.length) b b.length rest)) ∧
    (trm (subN p k (rest.length - b.length) b b.length rest)).length < rest.length := by
  have hlo := hp.lo
  have hp0 : 0 < p := by omega
  have hkp : k < p := by rw [hk]; exact fmul_lt hp0 _ _
  have hat : rest.length - b.length < quot.length := by have := h.ql; omega
  have hz := h.z (rest.length - b.length) (by omega)
  have hlt : (trm (subN p k (rest.length - b.length) b b.length rest)).length < rest.length := by
    have := trm_len_lt (subN p k (rest.length - b.length) b b.length rest) (by rw [subN_length]; omega) (by
      rw [subN_length]
      obtain ⟨j, hj⟩ : ∃ j, b.length = j + 1 := ⟨b.length - 1, by omega⟩
      rw [hj, subN, show rest.length - 1 = rest.length - (j + 1) + j by omega, List.getD_eq_getElem?_getD, List.getElem?_set_self (by rw [subN_length]; omega)]
      rw [subN_far _ _ _ _ _ j _ (Nat.le_refl _)]
      show fsub p _ _ = 0
      haveI : NeZero p := ⟨by omega⟩
      apply K_inj (p := p) (fsub_lt hp0 _ _) hp0
      have hb2 : b.getD j 0 < p := by
        rw [List.getD_eq_getElem?_getD, List.getElem?_eq_getElem (by omega)]; exact hbp _ (List.getElem_mem _)
      have hb1 : b.getD j 0 ≠ 0 := by rw [hj] at hbl; simpa using hbl
      have := K_finv hp hb2 hb1
      rw [K_fsub (fmul_lt hp0 _ _), K_fmul, hk, hj, K_fmul, K_zero, show rest.length - (j + 1) + j = rest.length - 1 by omega, show j + 1 - 1 = j by omega]
      grind)
    rwa [subN_length] at this
  refine ⟨⟨fun y hy => subN_lt hp0 _ _ _ _ h.ha _ y (trm_mem _ y hy), fun y hy => ?_, trm_last _, ?_, ?_, ?_, ?_, ?_⟩, hlt⟩
  · rcases set_mem hy with hy | hy
    · exact h.hq y hy
    · rw [hy]; exact hkp
  · rw [List.length_set]; have := h.ql; omega
  · rw [List.length_set]; exact h.al
  · have := h.rl; omega
  · intro _ x
    rw [E_trm, subN_E hp0 _ _ _ _ _ _ (Nat.le_refl _) (by omega), E_set _ _ _ _ hat, hz, K_zero, List.take_length, h.eq x]
    grind
  · intro i hi
    rw [List.getD_eq_getElem?_getD, List.getElem?_set_ne (by omega), ← List.getD_eq_getElem?_getD]
    exact h.z i (by omega)
end Pv

set_option linter.unusedVariables false
namespace Pv
/-- elimination over natural numbers, the pivots pv -/
structure RD (p R n c : Nat) (m0 M : Nat → Nat → Nat) (pv : List Nat) : Prop where mk ::
  out : ∀ (_ : NeZero p), Rdc R n c (fun i j => (K (m0 i j) : Fin p)) (fun i j => K (M i j)) pv
theorem RD.init (p R n : Nat) (M : Nat → Nat → Nat) : RD p R n 0 M M [] := ⟨fun _ => Rdc.init R n _⟩
theorem RD.len {p R n c : Nat} {m0 M : Nat → Nat → Nat} {pv : List Nat} (hp : 0 < p) (h : RD p R n c m0 M pv) : pv.length ≤ R := by
  haveI : NeZero p := ⟨by omega⟩
  exact Rdc.len (h.out _)
theorem RD.skip {p R n c : Nat} {m0 M : Nat → Nat → Nat} {pv : List Nat} (h : RD p R n c m0 M pv) (hc : c < n) (hz : ∀ i, pv.length ≤ i → i < R → M i c = 0) : RD p R n (c + 1) m0 M pv :=
  ⟨fun _ => Rdc.skip (h.out _) hc fun i h1 h2 => by rw [hz i h1 h2]; exact K_zero⟩
/-- the swapped matrix, the scaled one, the eliminated one -/
def mswp (M : Nat → Nat → Nat) (a b : Nat) : Nat → Nat → Nat := fun i => if i = a then M b else if i = b then M a else M i
def mscl (p : Nat) (M : Nat → Nat → Nat) (r iv : Nat) : Nat → Nat → Nat := fun i j => if i = r then fmul p iv (M r j) else M i j
def melim (p : Nat) (M : Nat → Nat → Nat) (r c : Nat) : Nat → Nat → Nat := fun i j => if i = r then M r j else if M i c = 0 then M i j else fsub p (M i j) (fmul p (M i c) (M r j))
theorem mswp_self (M : Nat → Nat → Nat) (a : Nat) : mswp M a a = M := by
  funext i; unfold mswp; split
  · rename_i h; rw [h]
  · rfl
theorem RD.step {p R n c at_ : Nat} {m0 M : Nat → Nat → Nat} {pv : List Nat} (hp : IsP p) (h : RD p R n c m0 M pv) (hc : c < n) (ha : pv.length ≤ at_) (haR : at_ < R) (hM : M at_ c < p) (h0 : M at_ c ≠ 0) (iv : Nat) (hiv : iv = finv p (M at_ c)) :
    RD p R n (c + 1) m0 (melim p (mscl p (mswp M at_ pv.length) pv.length iv) pv.length c) (pv ++ [c]) := by
  refine ⟨fun _ => ?_⟩
  have hlo := hp.lo
  have hs := Rdc.step (at_ := at_) (h.out _) (k := K iv) hc ha haR (by rw [hiv]; exact K_finv hp hM h0)
  have e : (fun i j => (K (melim p (mscl p (mswp M at_ pv.length) pv.length iv) pv.length c i j) : Fin p)) = elim (scl (swp (fun i j => (K (M i j) : Fin p)) at_ pv.length) pv.length (K iv)) pv.length c := by
    have e1 : ∀ i j, (K (mscl p (mswp M at_ pv.length) pv.length iv i j) : Fin p) = scl (swp (fun i j => (K (M i j) : Fin p)) at_ pv.length) pv.length (K iv) i j := by
      intro i j
      unfold mscl scl mswp swp
      split
      · rw [K_fmul]; congr 1; split <;> (try split) <;> rfl
      · split <;> (try split) <;> rfl
    funext i j
    unfold melim elim
    split
    · exact e1 _ _
    · split
      · rename_i h1 h2
        rw [← e1, ← e1, ← e1, h2, K_zero]; grind
      · rw [K_fsub (fmul_lt (by omega) _ _), K_fmul, e1, e1, e1]
  rw [e]; exact hs
end Pv

set_option linter.unusedVariables false
namespace Pv
def aug (m : List (List Nat)) (b : List Nat) : List (List Nat) := List.zipWith (fun r y => r ++ [y]) m b
theorem aug_len {m : List (List Nat)} {b : List Nat} (h : b.length = m.length) : (aug m b).length = m.length := by simp [aug, h]
theorem aug_at {m : List (List Nat)} {b : List Nat} (h : b.length = m.length) {i : Nat} (hi : i < m.length) : (aug m b).getD i [] = m.getD i [] ++ [b.getD i 0] := by
  simp [aug, List.getD_eq_getElem?_getD, List.getElem?_zipWith, List.getElem?_eq_getElem hi, List.getElem?_eq_getElem (show i < b.length by omega)]
theorem aug_lo {m : List (List Nat)} {b : List Nat} (h : b.length = m.length) {i j n : Nat} (hi : i < m.length) (hn : (m.getD i []).length = n) (hj : j < n) : ((aug m b).getD i []).getD j 0 = (m.getD i []).getD j 0 := by
  rw [aug_at h hi, List.getD_eq_getElem?_getD, List.getElem?_append_left (by omega), ← List.getD_eq_getElem?_getD]
theorem aug_hi {m : List (List Nat)} {b : List Nat} (h : b.length = m.length) {i n : Nat} (hi : i < m.length) (hn : (m.getD i []).length = n) : ((aug m b).getD i []).getD n 0 = b.getD i 0 := by
  rw [aug_at h hi, List.getD_eq_getElem?_getD, List.getElem?_append_right (by omega), hn]; simp
theorem aug_take {m : List (List Nat)} {b : List Nat} (h : b.length = m.length) {k : Nat} (hk : k < m.length) : (aug m b).take (k + 1) = (aug m b).take k ++ [m.getD k [] ++ [b.getD k 0]] := by
  rw [List.take_add_one]
  congr 1
  have e := aug_at h hk
  rw [List.getD_eq_getElem?_getD] at e
  have hl : k < (aug m b).length := by rw [aug_len h]; exact hk
  rw [List.getElem?_eq_getElem hl] at e ⊢
  simp at e
  simp [e]

/-- nothing solves the equations; xs solves them -/
structure NoSol (p n R : Nat) (m : Nat → Nat → Nat) (b : Nat → Nat) : Prop where mk ::
  out : ∀ (_ : NeZero p) (u : Nat → Fin p), ¬ ∀ i, i < R → sm n (fun j => K (m i j) * u j) = K (b i)
structure IsSol (p n R : Nat) (m : Nat → Nat → Nat) (b : Nat → Nat) (x : Nat → Nat) : Prop where mk ::
  out : ∀ (_ : NeZero p), ∀ i, i < R → sm n (fun j => (K (m i j) : Fin p) * K (x j)) = K (b i)

theorem sol_iff {p n R : Nat} [NeZero p] (m : Nat → Nat → Fin p) (u : Nat → Fin p) : Sol R (n + 1) m (fun j => if j = n then -1 else u j) ↔ ∀ i, i < R → sm n (fun j => m i j * u j) = m i n := by
  have key : ∀ i, sm (n + 1) (fun j => m i j * (if j = n then -1 else u j)) = sm n (fun j => m i j * u j) - m i n := by
    intro i
    rw [sm]
    rw [sm_congr (g := fun j => m i j * u j) (fun j hj => by rw [if_neg (by omega)])]
    simp; grind
  unfold Sol
  constructor
  · intro h i hi
    have := h i hi
    rw [key] at this; grind
  · intro h i hi
    rw [key, h i hi]; grind
theorem RD.none {p R n : Nat} {m0 M : Nat → Nat → Nat} {pv : List Nat} (h : RD p R n n m0 M pv) {i : Nat} (h1 : pv.length ≤ i) (h2 : i < R) (hne : M i n ≠ 0) (hlt : M i n < p) :
    NoSol p n R m0 (fun i => m0 i n) :=
  ⟨fun _ u hs => Rdc.none (h.out _) h1 h2 (K_ne hlt hne) (fun j => if j = n then -1 else u j) (by simp) ((sol_iff _ u).2 hs)⟩
/-- what is read off, the first k pivots -/
def rdoff (M : Nat → Nat → Nat) (n : Nat) (pv : List Nat) : Nat → Nat → Nat
  | 0, _ => 0
  | k + 1, j => if j = pv.getD k 0 then M k n else rdoff M n pv k j
theorem rdoff_no (M : Nat → Nat → Nat) (n : Nat) (pv : List Nat) : ∀ k j, (∀ i, i < k → pv.getD i 0 ≠ j) → rdoff M n pv k j = 0
  | 0, _, _ => rfl
  | k + 1, j, h => by rw [rdoff, if_neg (fun e => h k (by omega) e.symm), rdoff_no M n pv k j fun i hi => h i (by omega)]
theorem rdoff_at (M : Nat → Nat → Nat) (n : Nat) (pv : List Nat) : ∀ k i, i < k → (∀ i', i' < k → i' ≠ i → pv.getD i' 0 ≠ pv.getD i 0) → rdoff M n pv k (pv.getD i 0) = M i n
  | k + 1, i, h, hd => by
    rw [rdoff]
    by_cases e : i = k
    · subst e; rw [if_pos rfl]
    · rw [if_neg (fun e' => hd k (by omega) (fun e2 => e e2.symm) e'.symm), rdoff_at M n pv k i (by omega) fun i' h1 h2 => hd i' (by omega) h2]
theorem RD.piv_lt {p R n c : Nat} {m0 M : Nat → Nat → Nat} {pv : List Nat} (hp : 0 < p) (h : RD p R n c m0 M pv) {i : Nat} (hi : i < pv.length) : pv.getD i 0 < c := by
  haveI : NeZero p := ⟨by omega⟩
  exact Rdc.lt (h.out _) i hi
theorem RD.some {p R n : Nat} {m0 M : Nat → Nat → Nat} {pv : List Nat} (hp : 1 < p) (h : RD p R n n m0 M pv) (hz : ∀ i, pv.length ≤ i → i < R → M i n = 0) :
    IsSol p n R m0 (fun i => m0 i n) (rdoff M n pv pv.length) := by
  refine ⟨fun _ => ?_⟩
  have hr := h.out ‹_›
  have dist : ∀ i i', i < pv.length → i' < pv.length → i' ≠ i → pv.getD i' 0 ≠ pv.getD i 0 := by
    intro i i' hi hi' hne e
    have h1 := hr.one i' hi'
    have h2 := hr.off i i' hi (by have := hr.len; omega) hne
    rw [e] at h1
    rw [h1] at h2
    have := congrArg Fin.val h2
    simp at this
    omega
  have := Rdc.some hr (fun i h1 h2 => by rw [hz i h1 h2]; exact K_zero) (fun j => if j = n then -1 else K (rdoff M n pv pv.length j)) (by simp)
    (fun i hi => by
      have := hr.lt i hi
      rw [if_neg (by omega), rdoff_at M n pv _ i hi fun i' h1 h2 => dist i i' hi h1 h2])
    (fun j hj hno => by rw [if_neg (by omega), rdoff_no M n pv _ j hno]; exact K_zero)
  exact (sol_iff _ _).1 this
theorem IsSol.congr {p n R : Nat} {m m' : Nat → Nat → Nat} {b b' x x' : Nat → Nat} (h : IsSol p n R m b x) (hm : ∀ i j, i < R → j < n → m i j = m' i j) (hb : ∀ i, i < R → b i = b' i) (hx : ∀ j, j < n → x j = x' j) : IsSol p n R m' b' x' :=
  ⟨fun z i hi => by
    have := h.out z i hi
    rw [hb i hi] at this
    rw [← this]
    exact sm_congr fun j hj => by rw [hm i j hi hj, hx j hj]⟩
theorem NoSol.congr {p n R : Nat} {m m' : Nat → Nat → Nat} {b b' : Nat → Nat} (h : NoSol p n R m b) (hm : ∀ i j, i < R → j < n → m i j = m' i j) (hb : ∀ i, i < R → b i = b' i) : NoSol p n R m' b' :=
  ⟨fun z u hu => h.out z u fun i hi => by
    rw [hb i hi, ← hu i hi]
    exact sm_congr fun j hj => by rw [hm i j hi hj]⟩
theorem rdoff_lt {p : Nat} (hp : 0 < p) (M : Nat → Nat → Nat) (n : Nat) (pv : List Nat) : ∀ k, (∀ i, i < k → M i n < p) → ∀ j, rdoff M n pv k j < p
  | 0, _, _ => hp
  | k + 1, h, j => by
    rw [rdoff]; split
    · exact h k (by omega)
    · exact rdoff_lt hp M n pv k (fun i hi => h i (by omega)) j
end Pv

set_option linter.unusedVariables false
namespace Pv
section
variable {p : Nat} [NeZero p]
theorem padd_co : ∀ (f g : List (Fin p)) (i : Nat), (padd f g).getD i 0 = f.getD i 0 + g.getD i 0
  | [], g, i => by simp [padd]
  | a :: f, [], i => by simp [padd]
  | a :: f, b :: g, 0 => by simp [padd]
  | a :: f, b :: g, i + 1 => by
    have := padd_co f g i
    simp only [padd, List.getD_cons_succ]; exact this
theorem psmul_co (k : Fin p) : ∀ (f : List (Fin p)) (i : Nat), (psmul k f).getD i 0 = k * f.getD i 0
  | [], i => by simp [psmul]; grind
  | a :: f, 0 => by simp [psmul]
  | a :: f, i + 1 => by
    have := psmul_co k f i
    simp only [psmul, List.map_cons, List.getD_cons_succ] at *; exact this
/-- the leading coefficient of a product -/
theorem pmul_top (e : List (Fin p)) (d : Nat) (he : e.length = d + 1) : ∀ (h : List (Fin p)) (n : Nat), h.length = n + 1 → (pmul h e).getD (n + d) 0 = h.getD n 0 * e.getD d 0
  | [a], n, hn => by
    obtain rfl : n = 0 := by simpa using hn.symm
    rw [pmul, padd_co, psmul_co]
    cases d with
    | zero => simp [pmul]
    | succ d => simp [pmul]
  | a :: b :: h, n, hn => by
    obtain ⟨n', rfl⟩ : ∃ n', n = n' + 1 := ⟨n - 1, by simp at hn; omega⟩
    rw [pmul, padd_co, psmul_co]
    have ih := pmul_top e d he (b :: h) n' (by simpa using hn)
    rw [show n' + 1 + d = (n' + d) + 1 by omega, List.getD_cons_succ, ih, List.getD_cons_succ]
    rw [List.getD_eq_getElem?_getD (l := e), List.getElem?_eq_none (by omega)]
    simp; grind
theorem all_of_every (hf : Fld p) (f : List (Fin p)) (hl : f.length ≤ p) (h : ∀ x, ev f x = 0) : ∀ c, c ∈ f → c = 0 :=
  roots_zero hf (List.finRange p) f (List.nodup_finRange p) (by simpa using hl) fun x _ => h x
/-- a product with a monic polynomial that is of low degree is none -/
theorem monic_zero (hf : Fld p) (e r : List (Fin p)) (d : Nat) (he : e.length = d + 1) (h1 : e.getD d 0 = 1) (hr : r.length ≤ d) :
    ∀ (n : Nat) (h : List (Fin p)), h.length = n → n + d + 1 ≤ p → (∀ x, ev h x * ev e x + ev r x = 0) → ∀ c, c ∈ h → c = 0
  | 0, h, hn, _, _ => by
    have : h = [] := List.eq_nil_of_length_eq_zero hn
    subst this; intro c hc; simp at hc
  | n + 1, h, hn, hp, hx => by
    have hz : ∀ c, c ∈ padd (pmul h e) r → c = 0 := all_of_every hf _ (by
      rw [padd_length, pmul_length h e (by intro e; subst e; simp at hn) (by intro e'; subst e'; simp at he)]; omega) fun x => by
        rw [ev_padd, ev_pmul]; exact hx x
    have htop : h.getD n 0 = 0 := by
      have h2 := pmul_top e d he h n hn
      have h3 : (padd (pmul h e) r).getD (n + d) 0 = 0 := by
        rw [List.getD_eq_getElem?_getD]
        cases e' : (padd (pmul h e) r)[n + d]? with
        | none => rfl
        | some c => exact hz c (List.mem_of_getElem? e')
      rw [padd_co, h2, h1, List.getD_eq_getElem?_getD (l := r), List.getElem?_eq_none (by omega)] at h3
      simp at h3; grind
    obtain ⟨h', c, rfl⟩ : ∃ h' c, h = h' ++ [c] := ⟨h.dropLast, h.getLast (by intro e; subst e; simp at hn), (List.dropLast_concat_getLast _).symm⟩
    have hl' : h'.length = n := by simpa using hn
    have hc0 : c = 0 := by
      rw [List.getD_eq_getElem?_getD, List.getElem?_append_right (by omega)] at htop
      simpa [hl'] using htop
    subst hc0
    have hev : ∀ (l : List (Fin p)) x, ev (l ++ [0]) x = ev l x := by
      intro l x
      induction l with
      | nil => simp; grind
      | cons a l ih => simp [ih]
    have ih := monic_zero hf e r d he h1 hr n h' hl' (by omega) fun x => by rw [← hev]; exact hx x
    intro y hy
    rcases List.mem_append.1 hy with hy | hy
    · exact ih y hy
    · simpa using hy
end
section
variable {p : Nat} [NeZero p]
theorem sm_split (a : Nat) (f : Nat → Fin p) : ∀ b, sm (a + b) f = sm a f + sm b (fun i => f (a + i))
  | 0 => by simp [sm]
  | b + 1 => by rw [← Nat.add_assoc, sm, sm_split a f b, sm]; grind
theorem ev_sum (x : Fin p) : ∀ (l : List (Fin p)) (n : Nat), l.length ≤ n → ev l x = sm n (fun j => l.getD j 0 * pw x j)
  | [], n, _ => by rw [sm_zero fun i _ => by simp; grind]; rfl
  | c :: l, 0, h => by simp at h
  | c :: l, n + 1, h => by
    rw [show n + 1 = 1 + n by omega, sm_split, ev_cons, ev_sum x l n (by simpa using h), ← sm_mul]
    have e : ∀ i, (c :: l).getD (1 + i) 0 = l.getD i 0 := fun i => by rw [Nat.add_comm, List.getD_cons_succ]
    have e2 : sm 1 (fun j => (c :: l).getD j 0 * pw x j) = c := by simp [sm, pw]; grind
    rw [e2]
    congr 1
    refine sm_congr fun i _ => ?_
    rw [e]
    have : pw x (1 + i) = x * pw x i := by rw [pw_add]; simp [pw]; grind
    rw [this]; grind
theorem E_sum (x : Fin p) (l : List Nat) (n : Nat) (h : l.length ≤ n) : E l x = sm n (fun j => K (l.getD j 0) * pw x j) := by
  rw [E, ev_sum x _ n (by simpa using h)]
  refine sm_congr fun j _ => ?_
  congr 1
  simp only [List.getD_eq_getElem?_getD, List.getElem?_map]
  cases l[j]? with
  | none => simp [K_zero]
  | some c => rfl
/-- powers, as the program makes them -/
def ipw (p x : Nat) : Nat → Nat → Nat
  | y, 0 => y
  | y, t + 1 => fmul p (ipw p x y t) x
theorem K_ipw (x y : Nat) : ∀ t, (K (ipw p x y t) : Fin p) = K y * pw (K x) t
  | 0 => by simp [ipw, pw]; grind
  | t + 1 => by rw [ipw, K_fmul, K_ipw x y t, pw_add]; simp [pw]; grind
/-- a row of the system -/
def drow (p D W : Nat) (x y : Nat) : List Nat := (List.range D).map (fun j => ipw p x 1 j) ++ (List.range W).map (fun t => fneg p (ipw p x y t))
theorem drow_len (p D W x y : Nat) : (drow p D W x y).length = D + W := by simp [drow]
theorem drow_lo (p D W x y j : Nat) (h : j < D) : (drow p D W x y).getD j 0 = ipw p x 1 j := by
  rw [drow, List.getD_eq_getElem?_getD, List.getElem?_append_left (by simpa using h)]; simp [h]
theorem drow_hi (p D W x y t : Nat) (h : t < W) : (drow p D W x y).getD (D + t) 0 = fneg p (ipw p x y t) := by
  rw [drow, List.getD_eq_getElem?_getD, List.getElem?_append_right (by simp)]; simp [h]
end
theorem ipw_lt {p : Nat} (hp : 1 < p) (x y : Nat) (hy : y < p) : ∀ t, ipw p x y t < p
  | 0 => hy
  | t + 1 => fmul_lt (by omega) _ _
section
variable {p : Nat} [NeZero p]
theorem drow_sum (hp : 1 < p) (D W x y : Nat) (hy : y < p) (u : Nat → Fin p) :
    sm (D + W) (fun j => K ((drow p D W x y).getD j 0) * u j) = sm D (fun j => u j * pw (K x) j) - K y * sm W (fun t => u (D + t) * pw (K x) t) := by
  rw [sm_split]
  have e1 : sm D (fun j => K ((drow p D W x y).getD j 0) * u j) = sm D (fun j => u j * pw (K x) j) := sm_congr fun j hj => by
    rw [drow_lo _ _ _ _ _ _ hj, K_ipw, K_one hp]; grind
  have e2 : sm W (fun t => K ((drow p D W x y).getD (D + t) 0) * u (D + t)) = sm W (fun t => (- K y) * (u (D + t) * pw (K x) t)) := sm_congr fun t ht => by
    rw [drow_hi _ _ _ _ _ _ ht, K_fneg (ipw_lt hp _ _ hy _), K_ipw]; grind
  rw [e1, e2, sm_mul]; grind
/-- the polynomials that a solution holds -/
theorem dec_sol (hp : 1 < p) (D W x y : Nat) (hy : y < p) (xs : List Nat) (hl : xs.length = D + W)
    (h : sm (D + W) (fun j => (K ((drow p D W x y).getD j 0) : Fin p) * K (xs.getD j 0)) = K (ipw p x y W)) :
    (E (xs.take D) (K x) : Fin p) = K y * E (xs.drop D ++ [1]) (K x) := by
  rw [drow_sum hp D W x y hy, K_ipw] at h
  rw [E_sum _ _ D (by rw [List.length_take]; omega), E_snoc, E_sum _ (xs.drop D) W (by rw [List.length_drop]; omega), List.length_drop, hl, K_one hp]
  have e1 : sm D (fun j => K ((xs.take D).getD j 0) * pw (K x) j) = sm D (fun j => (K (xs.getD j 0) : Fin p) * pw (K x) j) := sm_congr fun j hj => by
    rw [List.getD_eq_getElem?_getD, List.getElem?_take, if_pos hj, ← List.getD_eq_getElem?_getD]
  have e2 : sm W (fun t => (K ((xs.drop D).getD t 0) : Fin p) * pw (K x) t) = sm W (fun t => K (xs.getD (D + t) 0) * pw (K x) t) := sm_congr fun t ht => by
    rw [List.getD_eq_getElem?_getD, List.getElem?_drop, ← List.getD_eq_getElem?_getD]
  rw [e1, e2, show D + W - D = W by omega]; grind
/-- a monic polynomial with the given roots -/
def loc : List (Fin p) → List (Fin p)
  | [] => [1]
  | z :: zs => pmul [-z, 1] (loc zs)
theorem loc_len : ∀ zs : List (Fin p), (loc zs).length = zs.length + 1
  | [] => rfl
  | z :: zs => by
    have ih := loc_len zs
    rw [loc, pmul_length _ _ (by simp) (by intro e; rw [e] at ih; simp at ih), ih]; simp; omega
theorem loc_top : ∀ zs : List (Fin p), (loc zs).getD zs.length 0 = 1
  | [] => rfl
  | z :: zs => by
    have := pmul_top (loc zs) zs.length (loc_len zs) [-z, 1] 1 rfl
    rw [loc, List.length_cons, Nat.add_comm, this, loc_top zs]; simp; grind
theorem loc_root (x : Fin p) : ∀ zs : List (Fin p), x ∈ zs → ev (loc zs) x = 0
  | z :: zs, h => by
    rw [loc, ev_pmul]
    rcases List.mem_cons.1 h with e | e
    · subst e; simp; grind
    · rw [loc_root x zs e]; grind
end
end Pv

set_option linter.unusedVariables false
namespace Pv
/-- where a polynomial misses the points -/
def errs (p : Nat) (f : List Nat) (R : Nat) (x y : Nat → Nat) : List Nat := (List.range R).filter fun i => hor p f (x i) != y i
section
variable {p : Nat} [NeZero p]
def gpad (g : List Nat) : List (Fin p) := if g = [] then [0] else g.map K
theorem gpad_len (g : List Nat) (n : Nat) (h : g.length ≤ n + 1) : (gpad g : List (Fin p)).length ≤ n + 1 ∧ (gpad g : List (Fin p)) ≠ [] := by
  unfold gpad; split
  · simp
  · rename_i h0; simp [h0]; omega
theorem gpad_ev (g : List Nat) (z : Fin p) : ev (gpad g) z = E g z := by
  unfold gpad; split
  · rename_i h; subst h; simp [E]; grind
  · rfl
theorem gpad_co (g : List Nat) (i : Nat) : (gpad g : List (Fin p)).getD i 0 = K (g.getD i 0) := by
  unfold gpad; split
  · rename_i h; subst h
    cases i <;> simp [K_zero]
  · simp only [List.getD_eq_getElem?_getD, List.getElem?_map]
    cases g[i]? with
    | none => simp [K_zero]
    | some c => rfl
theorem map_co (g : List Nat) (i : Nat) : (g.map K : List (Fin p)).getD i 0 = K (g.getD i 0) := by
  simp only [List.getD_eq_getElem?_getD, List.getElem?_map]
  cases g[i]? with
  | none => simp [K_zero]
  | some c => rfl
theorem ev_all0 (z : Fin p) : ∀ f : List (Fin p), (∀ c, c ∈ f → c = 0) → ev f z = 0
  | [], _ => rfl
  | c :: f, h => by rw [ev_cons, h c (by simp), ev_all0 z f fun c hc => h c (by simp [hc])]; grind
theorem co_all0 {f : List (Fin p)} (h : ∀ c, c ∈ f → c = 0) (i : Nat) : f.getD i 0 = 0 := by
  rw [List.getD_eq_getElem?_getD]
  cases e : f[i]? with
  | none => rfl
  | some c => exact h c (List.mem_of_getElem? e)
theorem hor_K {f : List Nat} {x y : Nat} (hp : 0 < p) (hy : y < p) : hor p f x = y ↔ (E f (K x) : Fin p) = K y := by
  rw [← E_hor]
  exact ⟨fun h => by rw [h], fun h => K_inj (hor_lt p x hp f) hy h⟩
end
/-- where the system has no solution no polynomial serves -/
theorem dec_no {p deg W D R : Nat} {x y : Nat → Nat} (hp : 1 < p) (hD : D = deg + 1 + W) (hy : ∀ i, i < R → y i < p)
    (h : NoSol p (D + W) R (fun i j => (drow p D W (x i) (y i)).getD j 0) (fun i => ipw p (x i) (y i) W)) (g : List Nat) (hg : g.length ≤ deg + 1) : W < (errs p g R x y).length := by
  haveI : NeZero p := ⟨by omega⟩
  rcases Nat.lt_or_ge W (errs p g R x y).length with h' | hle
  · exact h'
  exfalso
  obtain ⟨zs, hzl, hzm⟩ : ∃ zs : List (Fin p), zs.length = W ∧ ∀ i, i ∈ errs p g R x y → K (x i) ∈ zs :=
    ⟨(errs p g R x y).map (fun i => K (x i)) ++ List.replicate (W - (errs p g R x y).length) 0, by simp; omega, fun i hi => List.mem_append_left _ (List.mem_map.2 ⟨i, hi, rfl⟩)⟩
  have hll := loc_len zs
  have hlt := loc_top zs
  rw [hzl] at hll hlt
  obtain ⟨hgl, hgn⟩ := gpad_len (p := p) g deg hg
  have hQ : (pmul (gpad g) (loc zs)).length ≤ D := by
    rw [pmul_length _ _ hgn (by intro e; rw [e] at hll; simp at hll), hll]; omega
  refine h.out ‹_› (fun j => if j < D then (pmul (gpad g) (loc zs)).getD j 0 else (loc zs).getD (j - D) 0) fun i hi => ?_
  rw [drow_sum hp D W _ _ (hy i hi), K_ipw]
  have e1 : sm D (fun j => (if j < D then (pmul (gpad g) (loc zs)).getD j 0 else (loc zs).getD (j - D) 0) * pw (K (x i)) j) = ev (pmul (gpad g) (loc zs)) (K (x i)) := by
    rw [ev_sum _ _ D hQ]; exact sm_congr fun j hj => by rw [if_pos hj]
  have e2 : sm W (fun t => (if D + t < D then (pmul (gpad g) (loc zs)).getD (D + t) 0 else (loc zs).getD (D + t - D) 0) * pw (K (x i)) t) = ev (loc zs) (K (x i)) - pw (K (x i)) W := by
    rw [ev_sum _ (loc zs) (W + 1) (by omega), sm, hlt]
    have : sm W (fun t => (if D + t < D then (pmul (gpad g) (loc zs)).getD (D + t) 0 else (loc zs).getD (D + t - D) 0) * pw (K (x i)) t) = sm W (fun t => (loc zs).getD t 0 * pw (K (x i)) t) := sm_congr fun t ht => by
      rw [if_neg (by omega), show D + t - D = t by omega]
    rw [this]; grind
  rw [e1, e2, ev_pmul, gpad_ev]
  by_cases he : hor p g (x i) = y i
  · rw [(hor_K (by omega) (hy i hi)).1 he]; grind
  · have : ev (loc zs) (K (x i)) = 0 := loc_root _ _ (hzm i (List.mem_filter.2 ⟨List.mem_range.2 hi, by simpa using he⟩))
    rw [this]; grind
theorem filter_two (P : Nat → Bool) : ∀ l : List Nat, (l.filter P).length + (l.filter fun i => !(P i)).length = l.length
  | [] => rfl
  | a :: l => by
    have ih := filter_two P l
    cases h : P a <;> simp [h] <;> omega
section
variable {p : Nat} [NeZero p]
/-- what vanishes at the points where g is right is nothing -/
theorem good_zero (hf : Fld p) {W R : Nat} {x y : Nat → Nat} (hx : ∀ i, i < R → x i < p) (hd : ∀ i j, i < R → j < R → x i = x j → i = j) (g : List Nat) (hg : (errs p g R x y).length ≤ W)
    (f : List (Fin p)) (hl : f.length + W ≤ R) (h : ∀ i, i < R → hor p g (x i) = y i → ev f (K (x i)) = 0) : ∀ c, c ∈ f → c = 0 := by
  refine roots_zero hf (((List.range R).filter fun i => hor p g (x i) == y i).map fun i => (K (x i) : Fin p)) f ?_ ?_ ?_
  · refine List.pairwise_map.2 ?_
    refine List.Pairwise.imp_of_mem (R := fun a b => a ≠ b) (fun {a b} ha hb hne e => ?_) (List.Pairwise.filter _ List.nodup_range)
    have ha := List.mem_range.1 (List.mem_filter.1 ha).1
    have hb := List.mem_range.1 (List.mem_filter.1 hb).1
    exact hne (hd a b ha hb (K_inj (hx a ha) (hx b hb) e))
  · have := filter_two (fun i => hor p g (x i) == y i) (List.range R)
    rw [List.length_map]
    rw [List.length_range] at this
    have h2 : ((List.range R).filter fun i => !(hor p g (x i) == y i)).length ≤ W := hg
    omega
  · intro z hz
    obtain ⟨i, hi, rfl⟩ := List.mem_map.1 hz
    obtain ⟨h1, h2⟩ := List.mem_filter.1 hi
    exact h i (List.mem_range.1 h1) (by simpa using h2)
end
theorem trm_ext {f g : List Nat} (h : ∀ i, f.getD i 0 = g.getD i 0) : trm f = trm g := by
  have hl : ∀ a b : List Nat, (∀ i, a.getD i 0 = b.getD i 0) → (trm a).length ≤ (trm b).length := by
    intro a b hab
    rcases Nat.lt_or_ge (trm b).length (trm a).length with hlt | hle
    · exfalso
      have h1 := trm_last a (by omega)
      rw [trm_getD, hab, ← trm_getD, List.getD_eq_getElem?_getD, List.getElem?_eq_none (by omega)] at h1
      exact h1 rfl
    · exact hle
  have e : (trm f).length = (trm g).length := Nat.le_antisymm (hl f g h) (hl g f fun i => (h i).symm)
  refine List.ext_getElem e fun i h1 h2 => ?_
  have := (trm_getD f i).trans ((h i).trans (trm_getD g i).symm)
  simpa [List.getD_eq_getElem?_getD, List.getElem?_eq_getElem h1, List.getElem?_eq_getElem h2] using this
/-- a polynomial that serves is the quotient, and nothing is left over -/
theorem dec_uniq {p deg W D R : Nat} {x y : Nat → Nat} (hp : IsP p) (hD : D = deg + 1 + W) (hDR : D + W ≤ R) (hRp : R + W + 1 ≤ p) (hx : ∀ i, i < R → x i < p) (hy : ∀ i, i < R → y i < p) (hd : ∀ i j, i < R → j < R → x i = x j → i = j)
    {q e f r : List Nat} (hq : q.length ≤ D) (he : e.length = W + 1) (he1 : e.getD W 0 = 1) (hs : ∀ [NeZero p], ∀ i, i < R → (E q (K (x i)) : Fin p) = K (y i) * E e (K (x i)))
    (heq : ∀ [NeZero p] (z : Fin p), E q z = E f z * E e z + E r z) (hr : r.length ≤ W) (hfl : f.length ≤ R) (hfp : ∀ c, c ∈ f → c < p) (hrp : ∀ c, c ∈ r → c < p) (hrl : 0 < r.length → r.getD (r.length - 1) 0 ≠ 0)
    (g : List Nat) (hg : g.length ≤ deg + 1) (hgp : ∀ c, c ∈ g → c < p) (hge : (errs p g R x y).length ≤ W) : r = [] ∧ trm f = trm g := by
  have hlo := hp.lo
  haveI : NeZero p := ⟨by omega⟩
  have hf := fld hp
  obtain ⟨hgl, hgn⟩ := gpad_len (p := p) g deg hg
  have hel : (e.map K : List (Fin p)).length = W + 1 := by simpa using he
  have hz := good_zero hf hx hd g hge (padd (q.map K) (psmul (-1) (pmul (gpad g) (e.map K)))) (by
    rw [padd_length, psmul, List.length_map, List.length_map, pmul_length _ _ hgn (by intro h; rw [h] at hel; simp at hel), hel]; omega) (fun i hi hgi => by
      rw [ev_padd, ev_psmul, ev_pmul, gpad_ev, (hor_K (by omega) (hy i hi)).1 hgi]
      have := hs i hi
      unfold E at this
      rw [this]; grind)
  have hqe : ∀ z : Fin p, E q z = E g z * E e z := fun z => by
    have := ev_all0 z _ hz
    rw [ev_padd, ev_psmul, ev_pmul, gpad_ev] at this
    unfold E at this ⊢; grind
  have hh := monic_zero hf (e.map K) (r.map K) W hel (by rw [map_co, he1, K_one (by omega)]) (by simpa using hr) _ (padd (f.map K) (psmul (-1) (gpad g))) rfl (by
    rw [padd_length, psmul, List.length_map, List.length_map]; omega) (fun z => by
      have h1 := heq z
      rw [hqe z] at h1
      rw [ev_padd, ev_psmul, gpad_ev]
      unfold E at h1 ⊢; grind)
  have hco : ∀ i, (K (f.getD i 0) : Fin p) = K (g.getD i 0) := fun i => by
    have := co_all0 hh i
    rw [padd_co, psmul_co, gpad_co, map_co] at this; grind
  have hlt : ∀ (l : List Nat), (∀ c, c ∈ l → c < p) → ∀ i, l.getD i 0 < p := fun l hl i => by
    rw [List.getD_eq_getElem?_getD]
    cases e' : l[i]? with
    | none => simp; omega
    | some c => exact hl c (List.mem_of_getElem? e')
  refine ⟨?_, trm_ext fun i => K_inj (hlt f hfp i) (hlt g hgp i) (hco i)⟩
  have hr0 := all_of_every hf (r.map K) (by simp; omega) (fun z => by
    have h1 := heq z
    have h2 := ev_all0 z _ hh
    rw [hqe z] at h1
    rw [ev_padd, ev_psmul, gpad_ev] at h2
    unfold E at h1 h2; grind)
  cases r with
  | nil => rfl
  | cons c r =>
    exfalso
    refine hrl (by simp) ?_
    have := co_all0 hr0 ((c :: r).length - 1)
    rw [map_co, ← K_zero] at this
    exact K_inj (hlt _ hrp _) (by omega) this
end Pv

set_option linter.unusedVariables false
namespace Pv
theorem filter_three (P Q : Nat → Bool) : ∀ l : List Nat, l.length ≤ (l.filter fun i => P i && Q i).length + (l.filter fun i => !(P i)).length + (l.filter fun i => !(Q i)).length
  | [] => Nat.le_refl _
  | a :: l => by
    have ih := filter_three P Q l
    cases h : P a <;> cases h2 : Q a <;> simp [h, h2] at ih ⊢ <;> omega
theorem getD_ltp {p : Nat} (hp : 0 < p) {l : List Nat} (hl : ∀ c, c ∈ l → c < p) (i : Nat) : l.getD i 0 < p := by
  rw [List.getD_eq_getElem?_getD]
  cases e' : l[i]? with
  | none => simpa using hp
  | some c => exact hl c (List.mem_of_getElem? e')
/-- two polynomials that miss few points are one -/
theorem two_good {p deg W R : Nat} {x y : Nat → Nat} (hp : IsP p) (hm : deg + 1 + 2 * W ≤ R) (hx : ∀ i, i < R → x i < p) (hy : ∀ i, i < R → y i < p) (hd : ∀ i j, i < R → j < R → x i = x j → i = j) {f g : List Nat}
    (hf : f.length ≤ deg + 1) (hfp : ∀ c, c ∈ f → c < p) (hfe : (errs p f R x y).length ≤ W) (hg : g.length ≤ deg + 1) (hgp : ∀ c, c ∈ g → c < p) (hge : (errs p g R x y).length ≤ W) : trm f = trm g := by
  have hlo := hp.lo
  haveI : NeZero p := ⟨by omega⟩
  have hfl := fld hp
  obtain ⟨hfl1, hfn⟩ := gpad_len (p := p) f deg hf
  obtain ⟨hgl, hgn⟩ := gpad_len (p := p) g deg hg
  have hz := roots_zero hfl (((List.range R).filter fun i => (hor p f (x i) == y i) && (hor p g (x i) == y i)).map fun i => (K (x i) : Fin p)) (padd (gpad f) (psmul (-1) (gpad g))) (by
    refine List.pairwise_map.2 ?_
    refine List.Pairwise.imp_of_mem (R := fun a b => a ≠ b) (fun {a b} ha hb hne e => ?_) (List.Pairwise.filter _ List.nodup_range)
    have ha := List.mem_range.1 (List.mem_filter.1 ha).1
    have hb := List.mem_range.1 (List.mem_filter.1 hb).1
    exact hne (hd a b ha hb (K_inj (hx a ha) (hx b hb) e))) (by
    have := filter_three (fun i => hor p f (x i) == y i) (fun i => hor p g (x i) == y i) (List.range R)
    rw [List.length_range] at this
    have h1 : ((List.range R).filter fun i => !(hor p f (x i) == y i)).length ≤ W := hfe
    have h2 : ((List.range R).filter fun i => !(hor p g (x i) == y i)).length ≤ W := hge
    rw [padd_length, psmul, List.length_map, List.length_map]
    omega) (by
    intro z hz
    obtain ⟨i, hi, rfl⟩ := List.mem_map.1 hz
    obtain ⟨h1, h2⟩ := List.mem_filter.1 hi
    have hi' := List.mem_range.1 h1
    simp only [Bool.and_eq_true, beq_iff_eq] at h2
    rw [ev_padd, ev_psmul, gpad_ev, gpad_ev, (hor_K (by omega) (hy i hi')).1 h2.1, (hor_K (by omega) (hy i hi')).1 h2.2]; grind)
  refine trm_ext fun i => K_inj (getD_ltp (by omega) hfp i) (getD_ltp (by omega) hgp i) ?_
  have := co_all0 hz i
  rw [padd_co, psmul_co, gpad_co, gpad_co] at this; grind
/-- a polynomial that serves -/
def Good (p deg W R : Nat) (x y : Nat → Nat) (f : List Nat) : Prop := f.length ≤ deg + 1 ∧ (∀ c, c ∈ f → c < p) ∧ (errs p f R x y).length ≤ W
open Classical in
/-- the polynomial that serves, trimmed; nothing where there is none -/
noncomputable def decF (p deg W R : Nat) (x y : Nat → Nat) : List Nat := if h : ∃ f, Good p deg W R x y f then trm (Classical.choose h) else []
theorem decF_of {p deg W R : Nat} {x y : Nat → Nat} (hp : IsP p) (hm : deg + 1 + 2 * W ≤ R) (hx : ∀ i, i < R → x i < p) (hy : ∀ i, i < R → y i < p) (hd : ∀ i j, i < R → j < R → x i = x j → i = j) {f : List Nat} (h : Good p deg W R x y f) : decF p deg W R x y = trm f := by
  have hh : ∃ f, Good p deg W R x y f := ⟨f, h⟩
  unfold decF
  rw [dif_pos hh]
  have hc := Classical.choose_spec hh
  exact two_good hp hm hx hy hd hc.1 hc.2.1 hc.2.2 h.1 h.2.1 h.2.2
theorem decF_no {p deg W R : Nat} {x y : Nat → Nat} (h : ¬ ∃ f, Good p deg W R x y f) : decF p deg W R x y = [] := by
  unfold decF; rw [dif_neg h]
theorem errs_congr {p : Nat} {f : List Nat} {R : Nat} {x y x' y' : Nat → Nat} (h : ∀ i, i < R → x i = x' i ∧ y i = y' i) : errs p f R x y = errs p f R x' y' := by
  unfold errs
  refine List.filter_congr fun i hi => ?_
  obtain ⟨h1, h2⟩ := h i (List.mem_range.1 hi)
  rw [h1, h2]
theorem decF_congr {p deg W R : Nat} {x y x' y' : Nat → Nat} (h : ∀ i, i < R → x i = x' i ∧ y i = y' i) : decF p deg W R x y = decF p deg W R x' y' := by
  have e : Good p deg W R x y = Good p deg W R x' y' := by funext f; unfold Good; rw [errs_congr h]
  unfold decF; rw [e]
end Pv

set_option linter.unusedVariables false
namespace Pv
section
variable {p : Nat} [NeZero p]
/-- a finite sum -/
def Sm : Nat → (Nat → Fin p) → Fin p
  | 0, _ => 0
  | n + 1, f => Sm n f + f n
theorem Sm_congr {f g : Nat → Fin p} : ∀ n : Nat, (∀ i, i < n → f i = g i) → Sm n f = Sm n g
  | 0, _ => rfl
  | n + 1, h => by rw [Sm, Sm, Sm_congr n fun i hi => h i (by omega), h n (by omega)]
theorem Sm_zero : ∀ n : Nat, Sm n (fun _ => (0 : Fin p)) = 0
  | 0 => rfl
  | n + 1 => by rw [Sm, Sm_zero n]; grind
theorem Sm_add (f g : Nat → Fin p) : ∀ n : Nat, Sm n (fun i => f i + g i) = Sm n f + Sm n g
  | 0 => by simp only [Sm]; grind
  | n + 1 => by rw [Sm, Sm, Sm, Sm_add f g n]; grind
theorem Sm_mul (f : Nat → Fin p) (a : Fin p) : ∀ n : Nat, Sm n (fun i => f i * a) = Sm n f * a
  | 0 => by simp only [Sm]; grind
  | n + 1 => by rw [Sm, Sm, Sm_mul f a n]; grind
theorem Sm_swap (f : Nat → Nat → Fin p) (m : Nat) : ∀ n : Nat, Sm n (fun i => Sm m (fun j => f i j)) = Sm m (fun j => Sm n fun i => f i j)
  | 0 => by rw [Sm]; exact (Sm_zero m).symm
  | n + 1 => by
    rw [Sm, Sm_swap f m n, ← Sm_add]; exact Sm_congr m fun i _ => rfl
theorem ev_snoc (c x : Fin p) : ∀ f : List (Fin p), ev (f ++ [c]) x = ev f x + c * pw x f.length
  | [] => by simp [pw]; grind
  | a :: f => by rw [List.cons_append, ev_cons, ev_cons, ev_snoc c x f, List.length_cons, pw]; grind
theorem ev_range (c : Nat → Fin p) (x : Fin p) : ∀ n : Nat, ev ((List.range n).map c) x = Sm n fun i => c i * pw x i
  | 0 => rfl
  | n + 1 => by
    rw [List.range_succ, List.map_append, List.map_cons, List.map_nil, ev_snoc, ev_range c x n, List.length_map, List.length_range, Sm]
theorem E_range (c : Nat → Nat) (x : Fin p) (n : Nat) : E ((List.range n).map c) x = Sm n fun i => K (c i) * pw x i := by
  unfold E; rw [List.map_map]; exact ev_range _ x n
end
/-- the row of a polynomial in two variables at x -/
def rowB (p n : Nat) (M : Nat → Nat → Nat) (x : Nat) : List Nat := (List.range n).map fun j => hor p ((List.range n).map fun i => M i j) x
theorem rowB_len (p n : Nat) (M : Nat → Nat → Nat) (x : Nat) : (rowB p n M x).length = n := by simp [rowB]
theorem rowB_lt {p : Nat} (hp : 0 < p) (n : Nat) (M : Nat → Nat → Nat) (x : Nat) : ∀ c, c ∈ rowB p n M x → c < p := fun c hc => by
  obtain ⟨j, _, rfl⟩ := List.mem_map.1 hc
  exact hor_lt p x hp _
/-- of a symmetric one: the row at x, at y, is the row at y, at x -/
theorem rowB_sym {p : Nat} (hp : 0 < p) (n : Nat) (M : Nat → Nat → Nat) (hM : ∀ i j, M i j = M j i) (x y : Nat) : hor p (rowB p n M x) y = hor p (rowB p n M y) x := by
  haveI : NeZero p := ⟨by omega⟩
  refine K_inj (p := p) (hor_lt p y hp _) (hor_lt p x hp _) ?_
  have key : ∀ x y : Nat, (K (hor p (rowB p n M x) y) : Fin p) = Sm n fun j => Sm n fun i => K (M i j) * pw (K x) i * pw (K y) j := fun x y => by
    rw [E_hor, rowB, E_range]
    refine Sm_congr n fun j _ => ?_
    rw [E_hor, E_range, ← Sm_mul]
  rw [key, key, Sm_swap]
  refine Sm_congr n fun j _ => Sm_congr n fun i _ => ?_
  rw [hM]; grind
end Pv
