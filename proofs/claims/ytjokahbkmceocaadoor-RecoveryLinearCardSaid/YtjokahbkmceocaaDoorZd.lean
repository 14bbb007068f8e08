import Derived.Test.YtjokahbkmceocaaDoorProg
import Derived.Test.YtjokahbkmceocaaDoorZa
import Derived.Lib.Mul64
import Derived.Laws.Bits64b
import Derived.Test.YtjokahbkmceocaaDoorZb
import Derived.Laws.Externs
set_option linter.unusedVariables false
set_option linter.unusedSimpArgs false
namespace Pv
open Go Go.RowKit Go.Proofs

set_option maxRecDepth 100000 in
theorem len64_5 (w : World) : Calls Tryd.prog 111 #[.int .u64 31] w fun e w' => e = .returned (.int .i64 5) ∧ w' = w := by
  go_enter Tryd.func111, Tryd.ntmps111
  go_wp2
  go_ret
  exact ⟨by kernel_rfl, rfl⟩
set_option maxRecDepth 100000 in
theorem len64_7 (w : World) : Calls Tryd.prog 111 #[.int .u64 127] w fun e w' => e = .returned (.int .i64 7) ∧ w' = w := by
  go_enter Tryd.func111, Tryd.ntmps111
  go_wp2
  go_ret
  exact ⟨by kernel_rfl, rfl⟩
set_option maxRecDepth 100000 in
theorem len64_13 (w : World) : Calls Tryd.prog 111 #[.int .u64 8191] w fun e w' => e = .returned (.int .i64 13) ∧ w' = w := by
  go_enter Tryd.func111, Tryd.ntmps111
  go_wp2
  go_ret
  exact ⟨by kernel_rfl, rfl⟩
set_option maxRecDepth 100000 in
theorem len64_17 (w : World) : Calls Tryd.prog 111 #[.int .u64 131071] w fun e w' => e = .returned (.int .i64 17) ∧ w' = w := by
  go_enter Tryd.func111, Tryd.ntmps111
  go_wp2
  go_ret
  exact ⟨by kernel_rfl, rfl⟩
set_option maxRecDepth 100000 in
theorem len64_19 (w : World) : Calls Tryd.prog 111 #[.int .u64 524287] w fun e w' => e = .returned (.int .i64 19) ∧ w' = w := by
  go_enter Tryd.func111, Tryd.ntmps111
  go_wp2
  go_ret
  exact ⟨by kernel_rfl, rfl⟩
set_option maxRecDepth 100000 in
theorem len64_31 (w : World) : Calls Tryd.prog 111 #[.int .u64 2147483647] w fun e w' => e = .returned (.int .i64 31) ∧ w' = w := by
  go_enter Tryd.func111, Tryd.ntmps111
  go_wp2
  go_ret
  exact ⟨by kernel_rfl, rfl⟩
set_option maxRecDepth 100000 in
theorem len64_61 (w : World) : Calls Tryd.prog 111 #[.int .u64 2305843009213693951] w fun e w' => e = .returned (.int .i64 61) ∧ w' = w := by
  go_enter Tryd.func111, Tryd.ntmps111
  go_wp2
  go_ret
  exact ⟨by kernel_rfl, rfl⟩

theorem maskN (a : Nat) (ha : a < 18446744073709551616) : bits .and .u64 (a : Int) 4294967295 = ((a % 4294967296 : Nat) : Int) := by
  have h := bits_and_u64_nat a 4294967295 ha (by omega)
  have e : a &&& 4294967295 = a % 4294967296 := Nat.and_two_pow_sub_one_eq_mod a 32
  rw [e] at h
  exact h
theorem divN (a : Nat) : (a : Int) / 4294967296 = ((a / 4294967296 : Nat) : Int) := by omega
theorem mulN (a b : Nat) : (a : Int) * (b : Int) = ((a * b : Nat) : Int) := (Int.natCast_mul a b).symm
theorem addN (a b : Nat) : (a : Int) + (b : Int) = ((a + b : Nat) : Int) := (Int.natCast_add a b).symm
theorem wrapN (a : Nat) (ha : a < 18446744073709551616) : IntKind.u64.wrap (a : Int) = (a : Int) := by rw [IntKind.wrap_u64]; omega
theorem wrapM (a : Nat) : IntKind.u64.wrap (a : Int) = ((a % 18446744073709551616 : Nat) : Int) := by rw [IntKind.wrap_u64]; omega

set_option maxHeartbeats 1000000 in
theorem mul64_any (x y : Nat) (hx : x < 18446744073709551616) (hy : y < 18446744073709551616) (w : World) :
    Calls Tryd.prog 85 #[.int .u64 x, .int .u64 y] w fun e w' => e = .returned (.tuple #[.int .u64 ((x * y / 18446744073709551616 : Nat) : Int), .int .u64 ((x * y % 18446744073709551616 : Nat) : Int)]) ∧ w' = w := by
  obtain ⟨bd, bt, bw, hhi⟩ := Lib.mul64_hi x y hx hy
  have ba := Lib.half_mul_le (a := x / 4294967296) (b := y / 4294967296) (by omega) (by omega)
  have bb := Lib.half_mul_le (a := x / 4294967296) (b := y % 4294967296) (by omega) (by omega)
  have bc := Lib.half_mul_le (a := x % 4294967296) (b := y / 4294967296) (by omega) (by omega)
  have ba' : x / 4294967296 * (y / 4294967296) < 18446744073709551616 := by omega
  have bb' : x / 4294967296 * (y % 4294967296) < 18446744073709551616 := by omega
  have bc' : x % 4294967296 * (y / 4294967296) < 18446744073709551616 := by omega
  have bh1 : x / 4294967296 * (y / 4294967296) + (x / 4294967296 * (y % 4294967296) + x % 4294967296 * (y % 4294967296) / 4294967296) / 4294967296 < 18446744073709551616 := by omega
  have bh : x / 4294967296 * (y / 4294967296) + (x / 4294967296 * (y % 4294967296) + x % 4294967296 * (y % 4294967296) / 4294967296) / 4294967296 + ((x / 4294967296 * (y % 4294967296) + x % 4294967296 * (y % 4294967296) / 4294967296) % 4294967296 + x % 4294967296 * (y / 4294967296)) / 4294967296 < 18446744073709551616 := by omega
  go_enter Tryd.func85, Tryd.ntmps85
  go_wp2
  simp only [maskN x hx, maskN y hy, divN, mulN, addN, wrapN _ bd, maskN _ bt, wrapN _ bb', wrapN _ bt, wrapN _ bc', wrapN _ bw, wrapN _ ba', wrapN _ bh1, wrapN _ bh, wrapM (x * y)]
  rw [hhi]
  go_ret2
  exact ⟨rfl, rfl⟩
end Pv

set_option linter.unusedVariables false
set_option linter.unusedSimpArgs false
namespace Pv
open Go Go.RowKit Go.Proofs

/-! ## the field: fold, Reduce, Add, Neg, Sub, Mul -/
set_option maxHeartbeats 400000 in
theorem width_any (p q : Nat) (w : World) (h : PQ p q) : Calls Tryd.prog 99 #[.int .u64 p] w fun e w' => e = .returned (.int .u64 (q : Nat)) ∧ w' = w := by
  rcases h with ⟨rfl, rfl⟩ | ⟨rfl, rfl⟩ | ⟨rfl, rfl⟩ | ⟨rfl, rfl⟩ | ⟨rfl, rfl⟩ | ⟨rfl, rfl⟩ | ⟨rfl, rfl⟩
  · go_enter Tryd.func99, Tryd.ntmps99
    go_wp2_with fail
    refine (len64_5 _).mono ?_
    rintro e w1 ⟨rfl, rfl⟩
    go_wp2_with fail
    go_ret
    exact ⟨rfl, rfl⟩
  · go_enter Tryd.func99, Tryd.ntmps99
    go_wp2_with fail
    refine (len64_7 _).mono ?_
    rintro e w1 ⟨rfl, rfl⟩
    go_wp2_with fail
    go_ret
    exact ⟨rfl, rfl⟩
  · go_enter Tryd.func99, Tryd.ntmps99
    go_wp2_with fail
    refine (len64_13 _).mono ?_
    rintro e w1 ⟨rfl, rfl⟩
    go_wp2_with fail
    go_ret
    exact ⟨rfl, rfl⟩
  · go_enter Tryd.func99, Tryd.ntmps99
    go_wp2_with fail
    refine (len64_17 _).mono ?_
    rintro e w1 ⟨rfl, rfl⟩
    go_wp2_with fail
    go_ret
    exact ⟨rfl, rfl⟩
  · go_enter Tryd.func99, Tryd.ntmps99
    go_wp2_with fail
    refine (len64_19 _).mono ?_
    rintro e w1 ⟨rfl, rfl⟩
    go_wp2_with fail
    go_ret
    exact ⟨rfl, rfl⟩
  · go_enter Tryd.func99, Tryd.ntmps99
    go_wp2_with fail
    refine (len64_31 _).mono ?_
    rintro e w1 ⟨rfl, rfl⟩
    go_wp2_with fail
    go_ret
    exact ⟨rfl, rfl⟩
  · go_enter Tryd.func99, Tryd.ntmps99
    go_wp2_with fail
    refine (len64_61 _).mono ?_
    rintro e w1 ⟨rfl, rfl⟩
    go_wp2_with fail
    go_ret
    exact ⟨rfl, rfl⟩

theorem bits_and_mask (b p q : Nat) (hq : 2 ^ q = p + 1) (hb : b < 18446744073709551616) (hp : p < 18446744073709551616) :
    bits .and .u64 (b : Int) (p : Int) = ((b % (p + 1) : Nat) : Int) := by
  have h1 : (BitVec.ofNat 64 b &&& BitVec.ofNat 64 p).toNat = b % (p + 1) := by
    rw [BitVec.toNat_and]
    simp only [BitVec.toNat_ofNat]
    rw [Nat.mod_eq_of_lt (by omega), Nat.mod_eq_of_lt (by omega), ← hq, ← Nat.and_two_pow_sub_one_eq_mod, hq]; rfl
  have h2 : IntKind.u64.wrap ((b % (p + 1) : Nat) : Int) = ((b % (p + 1) : Nat) : Int) := IntWalk.u64_in _ (by
    have := Nat.mod_le b (p + 1); omega)
  rw [← h1] at h2
  unfold bits
  simp only [BitVec.ofInt_natCast]
  exact h2.trans (by rw [h1])
theorem bits_or_apart (x y n : Nat) (hx : x < 2 ^ n) (hy : y % 2 ^ n = 0) (hxy : x + y < 18446744073709551616) :
    bits .or .u64 (x : Int) (y : Int) = ((x + y : Nat) : Int) := by
  have h0 : x ||| y = x + y := by
    obtain ⟨k, hk⟩ := Nat.dvd_of_mod_eq_zero hy
    rw [Nat.or_comm, hk, ← Nat.two_pow_add_eq_or_of_lt hx]; omega
  have h1 : (BitVec.ofNat 64 x ||| BitVec.ofNat 64 y).toNat = x + y := by
    rw [BitVec.toNat_or]
    simp only [BitVec.toNat_ofNat]
    rw [Nat.mod_eq_of_lt (by omega), Nat.mod_eq_of_lt (by omega)]; exact h0
  have h2 : IntKind.u64.wrap ((x + y : Nat) : Int) = ((x + y : Nat) : Int) := IntWalk.u64_in _ (by omega)
  rw [← h1] at h2
  unfold bits
  simp only [BitVec.ofInt_natCast]
  exact h2.trans (by rw [h1])
theorem shr_pow (b p q : Nat) (hq : 2 ^ q = p + 1) : (b : Int) / 2 ^ q = ((b / (p + 1) : Nat) : Int) := by
  rw [← hq, Int.natCast_ediv, Int.natCast_pow]; rfl
theorem shl_pow (a c : Nat) : IntKind.u64.wrap ((a : Int) * 2 ^ c) = ((a * 2 ^ c % 18446744073709551616 : Nat) : Int) := by
  rw [IntKind.wrap_u64]; simp

/-! what one round does -/
theorem fold_round (p q a b : Nat) (hq : 2 ^ q = p + 1) (hq1 : 1 ≤ q) (hq2 : q ≤ 61) (ha : a < 18446744073709551616) (hb : b < 18446744073709551616) :
    b / (p + 1) < 2 ^ (64 - q) ∧ (a * 2 ^ (64 - q) % 18446744073709551616) % 2 ^ (64 - q) = 0 ∧ b / (p + 1) + a * 2 ^ (64 - q) % 18446744073709551616 < 18446744073709551616 ∧
    a / (p + 1) * 18446744073709551616 + (b / (p + 1) + a * 2 ^ (64 - q) % 18446744073709551616) = (a * 18446744073709551616 + b) / (p + 1) := by
  have e64 : (18446744073709551616 : Nat) = 2 ^ (64 - q) * (p + 1) := by
    rw [← hq, ← Nat.pow_add, show 64 - q + q = 64 by omega]
  generalize hc : 2 ^ (64 - q) = c at *
  have hc0 : 0 < c := by rw [← hc]; exact Nat.two_pow_pos _
  have hp0 : 0 < p + 1 := by omega
  have h1 : b / (p + 1) < c := (Nat.div_lt_iff_lt_mul hp0).2 (by omega)
  have h2 : a * c % 18446744073709551616 = a % (p + 1) * c := by
    rw [e64, Nat.mul_comm a c, Nat.mul_mod_mul_left, Nat.mul_comm]
  have h3 : (a * 18446744073709551616 + b) / (p + 1) = a * c + b / (p + 1) := by
    rw [e64, ← Nat.mul_assoc, Nat.mul_comm (a * c), Nat.mul_add_div hp0]
  have h4 : a = (p + 1) * (a / (p + 1)) + a % (p + 1) := (Nat.div_add_mod a (p + 1)).symm
  have h5 : a % (p + 1) < p + 1 := Nat.mod_lt _ hp0
  have h6 : (a % (p + 1) + 1) * c ≤ (p + 1) * c := Nat.mul_le_mul_right _ h5
  refine ⟨h1, by rw [h2]; exact Nat.mul_mod_left _ _, ?_, ?_⟩
  · rw [h2]; rw [Nat.add_mul] at h6; rw [e64, Nat.mul_comm c]; omega
  · rw [h2, h3]
    have h7 : a * c = (p + 1) * (a / (p + 1)) * c + a % (p + 1) * c := by rw [← Nat.add_mul, ← h4]
    rw [h7, e64]
    have : a / (p + 1) * (c * (p + 1)) = (p + 1) * (a / (p + 1)) * c := by
      rw [Nat.mul_comm c, ← Nat.mul_assoc, Nat.mul_comm (p + 1)]
    omega
theorem fold_mod (p N : Nat) (hp : 0 < p) : (N / (p + 1) + N % (p + 1)) % p = N % p := by
  have h : N = p * (N / (p + 1)) + (N / (p + 1) + N % (p + 1)) := by
    have := Nat.div_add_mod N (p + 1)
    rw [Nat.add_mul, Nat.one_mul] at this; omega
  conv => rhs; rw [h]
  rw [Nat.mul_add_mod]
theorem fold_less (p N : Nat) (hp : 0 < p) (h : p < N) : N / (p + 1) + N % (p + 1) < N := by
  have h1 : 1 ≤ N / (p + 1) := (Nat.le_div_iff_mul_le (by omega)).2 (by omega)
  have h2 := Nat.div_add_mod N (p + 1)
  rw [Nat.add_mul, Nat.one_mul] at h2
  have h3 : p ≤ p * (N / (p + 1)) := Nat.le_mul_of_pos_right _ h1
  omega

def fval (p N : Nat) : Value := .int .u64 ((N % p : Nat) : Int)
structure FI (p N a b : Nat) : Prop where
  ha : a < 18446744073709551616
  hb : b < 18446744073709551616
  hab : (a * 18446744073709551616 + b) % p = N % p
def fms (h l : Value) : Nat := (intOf h * 18446744073709551616 + intOf l).toNat
theorem fms_lt {a b c d : Nat} (h : a * 18446744073709551616 + b < c * 18446744073709551616 + d) : fms (.int .u64 a) (.int .u64 b) < fms (.int .u64 c) (.int .u64 d) := by
  simp only [fms, intOf]; omega
def CarryFacts (x y s k : Nat) : Prop := s = (x + y) % 18446744073709551616 ∧ k = (x + y) / 18446744073709551616
theorem add64_run (x y : Nat) : ∃ s k : Nat, CarryFacts x y s k ∧ ∀ w, (callFunc 100 #[.int .u64 x, .int .u64 y, .int .u64 0]).run Tryd.prog w = .ok (.value (.tuple #[.int .u64 (s : Nat), .int .u64 (k : Nat)])) w := by
  refine ⟨(x + y) % 18446744073709551616, (x + y) / 18446744073709551616, ⟨rfl, rfl⟩, fun w => ?_⟩
  rw [run_callFunc_extern Tryd.func100 (by kernel_rfl) (by kernel_rfl) (by kernel_rfl) (e := add64Entry) (by kernel_rfl), run_add64 x y 0 (by omega) (by omega) (by omega) (by omega)]
  simp only [Result.andThen]
  congr 5 <;> omega

/-- what the round leaves -/
theorem round_arith {M p c a b s k N : Nat} (e64 : M = c * (p + 1)) (ha : a < M) (hb : b < M) (hab : (a * M + b) % p = N % p) (hp : 0 < p) (hgt : p < a * M + b)
    (r4 : a / (p + 1) * M + (b / (p + 1) + a * c % M) = (a * M + b) / (p + 1)) (c1 : s = (b / (p + 1) + a * c % M + b % (p + 1)) % M) (c2 : k = (b / (p + 1) + a * c % M + b % (p + 1)) / M) :
    (a / (p + 1) + k < M ∧ s < M ∧ ((a / (p + 1) + k) * M + s) % p = N % p) ∧ (a / (p + 1) + k) * M + s < a * M + b := by
  have hb2 : b % (p + 1) = (a * M + b) % (p + 1) := by
    rw [e64, ← Nat.mul_assoc, Nat.mul_comm (a * _), Nat.mul_add_mod]
  have hlt := fold_less p _ hp hgt
  have hmod := fold_mod p (a * M + b) hp
  rw [← r4, ← hb2] at hlt hmod
  have hN : (a / (p + 1) + k) * M + s = a / (p + 1) * M + (b / (p + 1) + a * c % M) + b % (p + 1) := by
    rw [Nat.add_mul, c1, c2]
    have := Nat.div_add_mod (b / (p + 1) + a * c % M + b % (p + 1)) M
    rw [Nat.mul_comm M] at this
    omega
  have hM : 0 < M := by omega
  have haM : a * M + b < M * M := by
    have : (a + 1) * M ≤ M * M := Nat.mul_le_mul_right _ ha
    rw [Nat.add_mul] at this; omega
  refine ⟨⟨?_, ?_, ?_⟩, ?_⟩
  · have : (a / (p + 1) + k) * M < M * M := by omega
    exact Nat.lt_of_mul_lt_mul_right this
  · rw [c1]; exact Nat.mod_lt _ hM
  · rw [hN, hmod]; exact hab
  · rw [hN]; exact hlt
theorem FI.round {p q N a b s k : Nat} (h : FI p N a b) (hq : 2 ^ q = p + 1) (hq1 : 1 ≤ q) (hq2 : q ≤ 61) (hp : 0 < p) (hgt : p < a * 18446744073709551616 + b)
    (hc : CarryFacts (b / (p + 1) + a * 2 ^ (64 - q) % 18446744073709551616) (b % (p + 1)) s k) :
    FI p N (a / (p + 1) + k) s ∧ (a / (p + 1) + k) * 18446744073709551616 + s < a * 18446744073709551616 + b := by
  obtain ⟨r1, r2, r3, r4⟩ := fold_round p q a b hq hq1 hq2 h.ha h.hb
  have e64 : (18446744073709551616 : Nat) = 2 ^ (64 - q) * (p + 1) := by
    rw [← hq, ← Nat.pow_add, show 64 - q + q = 64 by omega]
  obtain ⟨⟨h1, h2, h3⟩, h4⟩ := round_arith e64 h.ha h.hb h.hab hp hgt r4 hc.1 hc.2
  exact ⟨⟨h1, h2, h3⟩, h4⟩

theorem u64T : Tryd.prog.underlying 22 = some (.int .u64) := Tryd.underlying22
theorem uintT : Tryd.prog.underlying 97 = some (.int .u64) := Tryd.underlying97

set_option maxHeartbeats 800000 in
theorem fold_any (p q N a0 b0 : Nat) (w : World) (hpq : PQ p q) (hF : FI p N a0 b0) :
    Calls Tryd.prog 84 #[.int .u64 p, .int .u64 a0, .int .u64 b0] w fun e w' => e = .returned (fval p N) ∧ w' = w := by
  have hq : Hid (2 ^ q = p + 1) := hpq.pow
  obtain ⟨hq1, hq2, hp, hp2⟩ := hpq.lo
  replace hp : 0 < p := by omega
  go_enter Tryd.func84, Tryd.ntmps84
  go_wp2_with fail
  refine (width_any p q w hpq).mono ?_
  clear hpq
  rintro e w1 ⟨rfl, rfl⟩
  go_wp2_with fail
  go_loop [1, 2] (fun h l => ∃ a b : Nat, FI p N a b ∧ h = .int .u64 a ∧ l = .int .u64 b) (fun h l => fms h l)
  case atStart => exact ⟨a0, b0, hF, rfl, rfl⟩
  case round =>
    obtain ⟨a, b, hF', rfl, rfl⟩ := hrel
    by_cases hc : a = 0 ∧ b ≤ p
    · obtain ⟨rfl, hbp⟩ := hc
      have h1 : (((0 : Nat) : Int) != 0) = false := rfl
      have h2 : decide ((p : Int) < b) = false := by simp; omega
      by_cases h3 : b = p
      · subst h3
        have hv : fval b N = .int .u64 0 := by
          have := hF'.hab; simp at this; simp [fval, ← this]
        go_wp2_with fail
        go_ret
        exact ⟨rfl, rfl⟩
      · have hv : fval p N = .int .u64 b := by
          have := hF'.hab
          rw [Nat.zero_mul, Nat.zero_add, Nat.mod_eq_of_lt (by omega)] at this
          simp [fval, ← this]
        have h4 : ((b : Int) == p) = false := by simp; omega
        go_wp2_with fail
        go_ret
        exact ⟨rfl, rfl⟩
    · have hgt : p < a * 18446744073709551616 + b := by
        by_cases h0 : a = 0
        · subst h0; omega
        · omega
      have hc2 : (((a : Int) != 0) = true) ∨ ((((a : Int) != 0) = false) ∧ decide ((p : Int) < b) = true) := by
        by_cases h0 : a = 0
        · right; subst h0; exact ⟨rfl, by simp; omega⟩
        · left; simp [bne_iff_ne]; omega
      have HC := (show Hid _ from hgt); clear hgt hc
      obtain ⟨r1, r2, r3, r4⟩ := fold_round p q a b hq.out hq1 hq2 hF'.ha hF'.hb
      have e1 := bits_and_mask b p q hq.out hF'.hb (by omega)
      have e2 := shr_pow b p q hq.out
      have e3 := shr_pow a p q hq.out
      have e4 := shl_pow a (64 - q)
      have e5 := bits_or_apart _ _ _ r1 r2 r3
      obtain ⟨s, k, hcf, e6⟩ := add64_run (b / (p + 1) + a * 2 ^ (64 - q) % 18446744073709551616) (b % (p + 1))
      have hrd := hF'.round hq.out hq1 hq2 hp HC.out hcf
      have hk : a / (p + 1) + k < 18446744073709551616 := hrd.1.ha
      have HR := (show Hid _ from hrd); clear hrd hcf r1 r2 r3 r4
      generalize a * 2 ^ (64 - q) % 18446744073709551616 = X at *
      generalize b / (p + 1) = bq at *
      generalize a / (p + 1) = aq at *
      generalize b % (p + 1) = br at *
      generalize bq + X = Y at *
      clear hF' hF
      have hk2 : (aq : Int) + k ≤ 18446744073709551615 := by omega
      have hk0 : (0 : Int) ≤ (aq : Int) + k := by omega
      have e8 : IntKind.u64.wrap ((aq : Int) + k) = ((aq + k : Nat) : Int) := by rw [IntWalk.u64_in _ ⟨hk0, hk2⟩]; omega
      have HR2 : Hid (FI p N (aq + k) s ∧ fms (.int .u64 ((aq + k : Nat) : Int)) (.int .u64 s) < fms (.int .u64 a) (.int .u64 b)) := ⟨HR.out.1, fms_lt HR.out.2⟩
      clear hk hk2 hk0 HR
      generalize aq + k = z at *
      rcases hc2 with h1 | ⟨h1, h2⟩
      · have h3 : ((a : Int) == 0) = false := by simpa using h1
        go_wp2_with fail
        go_round
        case rel => exact ⟨z, s, HR2.out.1, rfl, rfl⟩
        case measure => exact HR2.out.2
      · have h3 : ((a : Int) == 0) = true := by simpa using h1
        have h4 : p < b := by simpa using h2
        go_wp2_with fail
        go_round
        case rel => exact ⟨z, s, HR2.out.1, rfl, rfl⟩
        case measure => exact HR2.out.2

theorem fval_of (p N n : Nat) (h : N % p = n) : fval p N = .int .u64 (n : Int) := by rw [fval, h]
theorem FI.lo (p b : Nat) (hb : b < 18446744073709551616) : FI p b 0 b := ⟨by omega, hb, by rw [Nat.zero_mul, Nat.zero_add]⟩

set_option maxHeartbeats 400000 in
theorem reduce_any (p n : Nat) (w : World) (hp : IsP p) (hn : n < 18446744073709551616) :
    Calls Tryd.prog 102 #[.int .u64 p, .int .u64 n] w fun e w' => e = .returned (.int .u64 ((n % p : Nat) : Int)) ∧ w' = w := by
  obtain ⟨q, hpq⟩ := hp.pq
  go_enter Tryd.func102, Tryd.ntmps102
  go_wp2_with fail
  refine (fold_any p q n 0 n _ hpq (FI.lo p n hn)).mono ?_
  rintro e w1 ⟨rfl, rfl⟩
  go_wp2_with fail
  go_ret
  exact ⟨rfl, rfl⟩

set_option maxHeartbeats 400000 in
theorem add_any (p a b : Nat) (w : World) (hp : IsP p) (ha : a < p) (hb : b < p) :
    Calls Tryd.prog 60 #[.int .u64 p, .int .u64 a, .int .u64 b] w fun e w' => e = .returned (.int .u64 ((fadd p a b : Nat) : Int)) ∧ w' = w := by
  obtain ⟨q, hpq⟩ := hp.pq
  have hhi := hp.hi
  have e1 : IntKind.u64.wrap ((a : Int) + b) = ((a + b : Nat) : Int) := by rw [IntWalk.u64_in _ (by omega)]; omega
  have hF := FI.lo p (a + b) (by omega)
  have hv : fval p (a + b) = .int .u64 ((fadd p a b : Nat) : Int) := rfl
  generalize fadd p a b = z at *
  generalize a + b = y at *
  go_enter Tryd.func60, Tryd.ntmps60
  go_wp2_with fail
  refine (fold_any p q y 0 y _ hpq hF).mono ?_
  rintro e w1 ⟨rfl, rfl⟩
  go_wp2_with fail
  go_ret
  exact ⟨rfl, rfl⟩

set_option maxHeartbeats 400000 in
theorem neg_any (p a : Nat) (w : World) (hhi : p ≤ 2305843009213693951) (ha : a < p) :
    Calls Tryd.prog 89 #[.int .u64 p, .int .u64 a] w fun e w' => e = .returned (.int .u64 ((fneg p a : Nat) : Int)) ∧ w' = w := by
  by_cases h : a = 0
  · subst h
    go_enter Tryd.func89, Tryd.ntmps89
    go_wp2_with fail
    go_ret
    exact ⟨rfl, rfl⟩
  · have h1 : ((a : Int) == 0) = false := by simp; exact h
    have hv : fneg p a = p - a := by simp [fneg, h]
    have e1 : IntKind.u64.wrap ((p : Int) - a) = ((fneg p a : Nat) : Int) := by rw [IntWalk.u64_in _ (by omega), hv]; omega
    clear hv
    generalize fneg p a = z at *
    go_enter Tryd.func89, Tryd.ntmps89
    go_wp2_with fail
    go_ret
    exact ⟨rfl, rfl⟩

set_option maxHeartbeats 400000 in
theorem sub_any (p a b : Nat) (w : World) (hp : IsP p) (ha : a < p) (hb : b < p) :
    Calls Tryd.prog 93 #[.int .u64 p, .int .u64 a, .int .u64 b] w fun e w' => e = .returned (.int .u64 ((fsub p a b : Nat) : Int)) ∧ w' = w := by
  have hhi := hp.hi
  have hn := fneg_lt (show 0 < p by omega) b
  go_enter Tryd.func93, Tryd.ntmps93
  go_wp2_with fail
  refine (neg_any p b _ hhi hb).mono ?_
  rintro e w1 ⟨rfl, rfl⟩
  go_wp2_with fail
  refine (add_any p a (fneg p b) _ hp ha hn).mono ?_
  rintro e w1 ⟨rfl, rfl⟩
  go_wp2_with fail
  go_ret
  exact ⟨rfl, rfl⟩

set_option maxHeartbeats 400000 in
theorem mul_any (p a b : Nat) (w : World) (hp : IsP p) (ha : a < p) (hb : b < p) :
    Calls Tryd.prog 61 #[.int .u64 p, .int .u64 a, .int .u64 b] w fun e w' => e = .returned (.int .u64 ((fmul p a b : Nat) : Int)) ∧ w' = w := by
  obtain ⟨q, hpq⟩ := hp.pq
  have hhi := hp.hi
  have hv : fval p (a * b) = .int .u64 ((fmul p a b : Nat) : Int) := rfl
  have hF : FI p (a * b) (a * b / 18446744073709551616) (a * b % 18446744073709551616) := by
    have h1 : a * b < 18446744073709551616 * 18446744073709551616 := Nat.mul_lt_mul'' (by omega) (by omega)
    refine ⟨(Nat.div_lt_iff_lt_mul (by omega)).2 h1, Nat.mod_lt _ (by omega), ?_⟩
    rw [Nat.mul_comm, Nat.div_add_mod]
  have hm := mul64_any a b (by omega) (by omega) w
  generalize a * b / 18446744073709551616 = x at *
  generalize a * b % 18446744073709551616 = y at *
  generalize fmul p a b = z at *
  go_enter Tryd.func61, Tryd.ntmps61
  go_wp2_with fail
  refine hm.mono ?_
  clear hm
  rintro e w1 ⟨rfl, rfl⟩
  go_wp2_with fail
  refine (fold_any p q (a * b) x y _ hpq hF).mono ?_
  rintro e w1 ⟨rfl, rfl⟩
  go_wp2_with fail
  go_ret
  exact ⟨rfl, rfl⟩
end Pv

set_option linter.unusedVariables false
set_option linter.unusedSimpArgs false
namespace Pv
open Go Go.RowKit Go.Proofs

theorem bits_one (n : Nat) (hn : n < 18446744073709551616) : bits .and .u64 (n : Int) 1 = ((n % 2 : Nat) : Int) := bits_and_mask n 1 1 rfl hn (by omega)

set_option maxHeartbeats 400000 in
theorem pow_any (p a0 n0 : Nat) (w : World) (hp : IsP p) (ha : a0 < p) (hn : n0 < 18446744073709551616) :
    Calls Tryd.prog 108 #[.int .u64 p, .int .u64 a0, .int .u64 n0] w fun e w' => e = .returned (.int .u64 ((fpow p a0 n0 : Nat) : Int)) ∧ w' = w := by
  have hlo := hp.lo
  have hhi := hp.hi
  go_enter Tryd.func108, Tryd.ntmps108
  go_wp2_with fail
  go_loop [1, 2, 7] (fun a n o => ∃ a' n' o' : Nat, a' < p ∧ n' < 18446744073709551616 ∧ o' < p ∧ o' * a' ^ n' % p = fpow p a0 n0 ∧ a = .int .u64 a' ∧ n = .int .u64 n' ∧ o = .int .u64 o') (fun _ n _ => (intOf n).toNat)
  case atStart => exact ⟨a0, n0, 1, ha, hn, by omega, by rw [Nat.one_mul]; rfl, rfl, rfl, rfl⟩
  case round =>
    obtain ⟨a, n, o, ha', hn', ho', hpow, rfl, rfl, rfl⟩ := hrel
    have hp0 : 0 < p := by omega
    by_cases h0 : n = 0
    · subst h0
      have hv : Hid (fpow p a0 n0 = o) := by rw [← hpow]; simp; exact Nat.mod_eq_of_lt ho'
      clear hpow
      go_wp2
      go_ret
      exact ⟨by rw [hv.out]; rfl, rfl⟩
    · have hgt : 0 < n := by omega
      have hb := bits_one n hn'
      have hsq := fmul_lt hp0 a a
      have hm1 := mul_any p a a
      have hoa := fmul_lt hp0 o a
      by_cases hodd : n % 2 = 1
      · have HP : Hid (fmul p o a * (fmul p a a) ^ (n / 2) % p = fpow p a0 n0) := by rw [← fpow_step_odd p o a n hodd]; exact hpow
        have h1 : (((n % 2 : Nat) : Int) == 1) = true := by rw [hodd]; rfl
        clear hpow hodd hm1
        generalize n % 2 = b at *
        go_wp2_with fail
        refine (mul_any p o a _ hp ho' ha').mono ?_
        rintro e w1 ⟨rfl, rfl⟩
        generalize fmul p o a = o2 at *
        go_wp2_with fail
        refine (mul_any p a a _ hp ha' ha').mono ?_
        rintro e w1 ⟨rfl, rfl⟩
        generalize fmul p a a = a2 at *
        go_wp2_with fail
        go_round
        case rel => exact ⟨a2, n / 2, o2, hsq, by omega, hoa, HP.out, rfl, by first | rfl | (congr 1), rfl⟩
        case measure => simp [intOf]; omega
      · have HP : Hid (o * (fmul p a a) ^ (n / 2) % p = fpow p a0 n0) := by rw [← fpow_step_even p o a n (by omega)]; exact hpow
        have h1 : (((n % 2 : Nat) : Int) == 1) = false := by simp; omega
        clear hpow hodd hm1
        generalize n % 2 = b at *
        go_wp2_with fail
        refine (mul_any p a a _ hp ha' ha').mono ?_
        rintro e w1 ⟨rfl, rfl⟩
        generalize fmul p a a = a2 at *
        go_wp2_with fail
        go_round
        case rel => exact ⟨a2, n / 2, o, hsq, by omega, ho', HP.out, rfl, by first | rfl | (congr 1), rfl⟩
        case measure => simp [intOf]; omega

theorem finv_lt {p : Nat} (hp : 0 < p) (a : Nat) : finv p a < p := Nat.mod_lt _ hp
set_option maxHeartbeats 400000 in
theorem inverse_any (p a : Nat) (w : World) (hp : IsP p) (ha : a < p) (h0 : a ≠ 0) :
    Calls Tryd.prog 92 #[.int .u64 p, .int .u64 a] w fun e w' => e = .returned (.tuple #[.int .u64 ((finv p a : Nat) : Int), .int .i64 0]) ∧ w' = w := by
  have hlo := hp.lo
  have hhi := hp.hi
  have h1 : ((a : Int) == 0) = false := by simp; exact h0
  have e1 : IntKind.u64.wrap ((p : Int) - 2) = ((p - 2 : Nat) : Int) := by rw [IntWalk.u64_in _ (by omega)]; omega
  have hx := pow_any p a (p - 2) w hp ha (by omega)
  have hv : fpow p a (p - 2) = finv p a := rfl
  rw [hv] at hx; clear hv
  generalize p - 2 = m at *
  go_enter Tryd.func92, Tryd.ntmps92
  go_wp2_with fail
  refine hx.mono ?_
  clear hx
  rintro e w1 ⟨rfl, rfl⟩
  go_wp2_with fail
  go_ret2
  exact ⟨rfl, rfl⟩
end Pv

set_option linter.unusedVariables false
set_option linter.unusedSimpArgs false
namespace Pv
open Go Go.RowKit Go.Proofs

set_option maxHeartbeats 400000 in
theorem eval_any (p x : Nat) (v : Value) (l : List Nat) (S : Nat → Prop) (w : World) (hp : IsP p) (hx : x < p) (hr : (kS kU).R w S [v] l) (hl : ∀ y, y ∈ l → y < p) :
    Calls Tryd.prog 45 #[.int .u64 p, v, .int .u64 x] w fun e w' => e = .returned (.int .u64 ((hor p l x : Nat) : Int)) ∧ Dr w w' := by
  obtain ⟨A, c, rfl, ⟨hn2, hc2⟩, hc⟩ := rdU hr
  have hp0 : 0 < p := by have := hp.lo; omega
  clear hr
  generalize hn : l.length = n at *
  go_enter Tryd.func45, Tryd.ntmps45
  go_wp2
  go_loopw [7, 8] (fun v i wr => Dr w wr ∧ ∃ k : Nat, k ≤ n ∧ i = .int .i64 ((k : Int) - 1) ∧ v = .int .u64 (hor p (l.drop k) x : Nat)) (fun _ i _ => (intOf i + 1).toNat)
  case atStart => exact ⟨Dr.refl w, n, Nat.le_refl _, rfl, by rw [List.drop_of_length_le (by omega)]; rfl⟩
  case round =>
    obtain ⟨hd, k, hk, rfl, rfl⟩ := hrel
    rcases Nat.eq_zero_or_pos k with rfl | hk0
    · go_wp2
      go_ret
      exact ⟨rfl, hd⟩
    · obtain ⟨k, rfl⟩ : ∃ m, k = m + 1 := ⟨k - 1, by omega⟩
      obtain ⟨ad, rfl, _, hcell, _⟩ := hc k (by omega)
      rw [← hd.cell] at hcell
      have hb : l.getD k 0 < p := by
        rw [List.getD_eq_getElem?_getD, List.getElem?_eq_getElem (by omega)]; exact hl _ (List.getElem_mem _)
      have hh := hor_lt p x hp0 (l.drop (k + 1))
      have hs := hor_drop p l x k (by omega)
      have HS : Hid (hor p (l.drop k) x = fadd p (fmul p (hor p (l.drop (k + 1)) x) x) (l.getD k 0)) := hs
      clear hs
      generalize hor p (l.drop (k + 1)) x = y at *
      generalize l.getD k 0 = z at *
      have h1 := fmul_lt hp0 y x
      rw [show (((k + 1 : Nat) : Int) - 1) = (k : Int) by omega]
      go_wp2
      go_quiet ((first | (go_at_call 61; exact Calls.quiet_of_same (mul_any _ _ _ _ hp (by omega) (by omega))) | (go_at_call 60; exact Calls.quiet_of_same (add_any _ _ _ _ hp (by omega) (by omega)))))
      go_wp2
      go_roundw
      case rel => exact ⟨hd.more _, k, by omega, rfl, by rw [HS.out]⟩
      case measure => simp [intOf]

set_option maxHeartbeats 400000 in
theorem degree_any (v : Value) (l : List Nat) (S : Nat → Prop) (w : World) (hr : (kS kU).R w S [v] l) :
    Calls Tryd.prog 67 #[v] w fun e w' => e = .returned (.int .i64 (((trm l).length : Nat) - 1 : Int)) ∧ w' = w := by
  obtain ⟨A, c, rfl, ⟨hn2, hc2⟩, hc⟩ := rdU hr
  clear hr
  generalize hn : l.length = n at *
  go_enter Tryd.func67, Tryd.ntmps67
  go_wp2
  go_loop [3] (fun i => ∃ k : Nat, k ≤ n ∧ i = .int .i64 ((k : Int) - 1) ∧ ∀ j, k ≤ j → j < l.length → l.getD j 0 = 0) (fun i => (intOf i + 1).toNat)
  case atStart => exact ⟨n, Nat.le_refl _, rfl, fun j h1 h2 => by omega⟩
  case round =>
    obtain ⟨k, hk, rfl, hz⟩ := hrel
    have HZ := (show Hid _ from hz); clear hz
    rcases Nat.eq_zero_or_pos k with rfl | hk0
    · have ht : trm l = [] := by rw [trm_take l 0 (by omega) HZ.out (by omega)]; rfl
      have ht : (((trm l).length : Nat) : Int) - 1 = -1 := by rw [ht]; rfl
      go_wp2
      go_ret
      exact ⟨rfl, rfl⟩
    · obtain ⟨k, rfl⟩ : ∃ m, k = m + 1 := ⟨k - 1, by omega⟩
      obtain ⟨ad, rfl, _, hcell, _⟩ := hc k (by omega)
      rw [show (((k + 1 : Nat) : Int) - 1) = (k : Int) by omega]
      by_cases h0 : l.getD k 0 = 0
      · have h1 : (((l.getD k 0 : Nat) : Int) == 0) = true := by rw [h0]; rfl
        have h2 : (((l.getD k 0 : Nat) : Int) != 0) = false := by rw [h0]; rfl
        have H0 := (show Hid _ from h0); clear h0
        generalize hz : l.getD k 0 = z at *
        have HY := (show Hid _ from hz); clear hz
        go_wp2
        go_round
        case rel => exact ⟨k, by omega, rfl, fun j h1 h2 => by
          by_cases e : j = k
          · subst e; rw [HY.out]; exact H0.out
          · exact HZ.out j (by omega) h2⟩
        case measure => simp [intOf]
      · have h1 : (((l.getD k 0 : Nat) : Int) == 0) = false := by simp; exact h0
        have h2 : (((l.getD k 0 : Nat) : Int) != 0) = true := by simp [bne_iff_ne]; exact h0
        have ht : (((trm l).length : Nat) : Int) - 1 = k := by
          rw [trm_take l (k + 1) (by omega) HZ.out (fun _ => by simpa using h0), List.length_take]; omega
        generalize l.getD k 0 = z at *
        go_wp2
        go_ret
        exact ⟨rfl, rfl⟩

theorem u64info : (Tryd.prog.info? 22).map (fun i => (i.zero, i.size, i.bytes)) = some (some (.int .u64 0), 1, 8) := by kernel_rfl

set_option maxHeartbeats 400000 in
theorem trim_any (v : Value) (l : List Nat) (S : Nat → Prop) (w : World) (hr : (kS kU).R w S [v] l) (hlen : l.length * 8 ≤ 140737488355328) :
    Calls Tryd.prog 91 #[v] w fun e w' => ∃ v', e = .returned v' ∧ Ow kU w' w.heap.size 22 v' (trm l) ∧ Bl w w' := by
  have hd := degree_any v l S w hr
  obtain ⟨A, c, rfl, hn2, hc2⟩ := kS_len hr
  have hle := trm_len l
  have ht := trm_take_self l
  have hrt := kS_take (m := (trm l).length) hr hle
  rw [← ht] at hrt
  clear ht
  have hml : (([] : List Nat).length + (trm l).length) * 8 ≤ 140737488355328 := by simp; omega
  have HR : Hid ((kS kU).R w (Ne (Value.ownBlock (.slice none 0 0))) [.slice A (trm l).length c] (trm l)) := (kS kU).sub hrt fun b _ _ => by simp [Ne, Value.ownBlock]
  clear hrt hr
  generalize hT : trm l = t at *
  generalize hm : t.length = m at *
  generalize l.length = n at *
  have hm0 : A = none → m = 0 := fun hA => by subst hA; exact (kS_nil0 HR.out).2
  have HM := (show Hid _ from hm); clear hm hT
  go_enter Tryd.func91, Tryd.ntmps91
  go_wp2_with fail
  refine hd.mono ?_
  clear hd
  rintro e w1 ⟨rfl, rfl⟩
  rcases A with _ | ad
  · obtain rfl := hm0 rfl
    clear hm0
    go_wp2_with (at_builtin; refine Ow.append_row kU (w0 := w1) w1.heap.size rfl _ _ 30 22 (.int .u64 0) 8 rfl Tryd.underlying30 u64info rfl _ _ [] t rfl rfl (Ow.nil kU _ _ _) (Below.refl _ _) (Nat.le_refl _) HR.out (by rw [HM.out]; exact hml) (by decide) ?_)
    intro v1 w2 hO hB _ _
    go_wp2
    go_ret
    exact ⟨v1, rfl, hO, hB⟩
  · clear hm0
    go_wp2_with (at_builtin; refine Ow.append_row kU (w0 := w1) w1.heap.size rfl _ _ 30 22 (.int .u64 0) 8 rfl Tryd.underlying30 u64info rfl _ _ [] t rfl rfl (Ow.nil kU _ _ _) (Below.refl _ _) (Nat.le_refl _) HR.out (by rw [HM.out]; exact hml) (by decide) ?_)
    intro v1 w2 hO hB _ _
    go_wp2
    go_ret
    exact ⟨v1, rfl, hO, hB⟩
end Pv
