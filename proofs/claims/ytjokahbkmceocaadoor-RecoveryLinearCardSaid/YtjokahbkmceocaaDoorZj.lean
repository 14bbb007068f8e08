import Derived.Test.YtjokahbkmceocaaDoorZd
import Derived.Laws.Rows
import Derived.Test.YtjokahbkmceocaaDoorZe
import Derived.Test.YtjokahbkmceocaaDoorZb
import Derived.Test.YtjokahbkmceocaaDoorZg
set_option linter.unusedVariables false
set_option linter.unusedSimpArgs false
namespace Pv
open Go Go.RowKit Go.Proofs

def expo (p : Nat) : Nat := if p = 31 then 5 else if p = 127 then 7 else if p = 8191 then 13 else if p = 131071 then 17 else if p = 524287 then 19 else if p = 2147483647 then 31 else if p = 2305843009213693951 then 61 else 0
theorem expo_isP (p : Nat) : expo p ≠ 0 ↔ IsP p := by
  unfold expo IsP
  repeat' split
  all_goals simp_all

/-- the table of exponents, as start-up lays it -/
def exl : List Nat := [5, 7, 13, 17, 19, 31, 61]
def Laid (w : World) : Prop := ∀ (i : Nat) (v : Value), (#[.int .i64 5, .int .i64 7, .int .i64 13, .int .i64 17, .int .i64 19, .int .i64 31, .int .i64 61] : Array Value)[i]? = some v → w.cell? ⟨0, i, none⟩ = some v
theorem Laid.bl {w w' : World} (h : Laid w) (k : Bl w w') : Laid w' := fun i v hv => (k.cell (World.block_lt_of_cell? w _ (h i v hv))).trans (h i v hv)
theorem Laid.dr {w w' : World} (h : Laid w) (k : Dr w w') : Laid w' := fun i v hv => (k.cell _).trans (h i v hv)

set_option maxHeartbeats 400000 in
theorem exponent_any (p : Nat) (w : World) (hL : Laid w) :
    Calls Tryd.prog 115 #[.int .u64 p] w fun e w' => e = .returned (.int .i64 ((expo p : Nat) : Int)) ∧ w' = w := by
  have c0 : w.cell? ⟨0, 0, none⟩ = some (.int .i64 5) := hL 0 _ rfl
  have c1 : w.cell? ⟨0, 1, none⟩ = some (.int .i64 7) := hL 1 _ rfl
  have c2 : w.cell? ⟨0, 2, none⟩ = some (.int .i64 13) := hL 2 _ rfl
  have c3 : w.cell? ⟨0, 3, none⟩ = some (.int .i64 17) := hL 3 _ rfl
  have c4 : w.cell? ⟨0, 4, none⟩ = some (.int .i64 19) := hL 4 _ rfl
  have c5 : w.cell? ⟨0, 5, none⟩ = some (.int .i64 31) := hL 5 _ rfl
  have c6 : w.cell? ⟨0, 6, none⟩ = some (.int .i64 61) := hL 6 _ rfl
  go_enter Tryd.func115, Tryd.ntmps115
  go_wp2_with fail
  clear c0 c1 c2 c3 c4 c5 c6
  have i0 : ∀ w, (Instr.index 165 (.agg #[.int .i64 5, .int .i64 7, .int .i64 13, .int .i64 17, .int .i64 19, .int .i64 31, .int .i64 61]) (.int .i64 0)).run Tryd.prog w = .ok (.int .i64 5) w := fun _ => by kernel_rfl
  have i1 : ∀ w, (Instr.index 165 (.agg #[.int .i64 5, .int .i64 7, .int .i64 13, .int .i64 17, .int .i64 19, .int .i64 31, .int .i64 61]) (.int .i64 1)).run Tryd.prog w = .ok (.int .i64 7) w := fun _ => by kernel_rfl
  have i2 : ∀ w, (Instr.index 165 (.agg #[.int .i64 5, .int .i64 7, .int .i64 13, .int .i64 17, .int .i64 19, .int .i64 31, .int .i64 61]) (.int .i64 2)).run Tryd.prog w = .ok (.int .i64 13) w := fun _ => by kernel_rfl
  have i3 : ∀ w, (Instr.index 165 (.agg #[.int .i64 5, .int .i64 7, .int .i64 13, .int .i64 17, .int .i64 19, .int .i64 31, .int .i64 61]) (.int .i64 3)).run Tryd.prog w = .ok (.int .i64 17) w := fun _ => by kernel_rfl
  have i4 : ∀ w, (Instr.index 165 (.agg #[.int .i64 5, .int .i64 7, .int .i64 13, .int .i64 17, .int .i64 19, .int .i64 31, .int .i64 61]) (.int .i64 4)).run Tryd.prog w = .ok (.int .i64 19) w := fun _ => by kernel_rfl
  have i5 : ∀ w, (Instr.index 165 (.agg #[.int .i64 5, .int .i64 7, .int .i64 13, .int .i64 17, .int .i64 19, .int .i64 31, .int .i64 61]) (.int .i64 5)).run Tryd.prog w = .ok (.int .i64 31) w := fun _ => by kernel_rfl
  have i6 : ∀ w, (Instr.index 165 (.agg #[.int .i64 5, .int .i64 7, .int .i64 13, .int .i64 17, .int .i64 19, .int .i64 31, .int .i64 61]) (.int .i64 6)).run Tryd.prog w = .ok (.int .i64 61) w := fun _ => by kernel_rfl
  go_loop [6] (fun i => ∃ k : Nat, k ≤ 7 ∧ i = .int .i64 k ∧ ∀ c, c < k → p ≠ 2 ^ (exl.getD c 0) - 1) (fun i => 7 - (intOf i).toNat)
  case atStart => exact ⟨0, by omega, rfl, by omega⟩
  case round =>
    obtain ⟨k, hk, rfl, hno⟩ := hrel
    have hno0 : 0 < k → p ≠ 31 := fun h => hno 0 h
    have hno1 : 1 < k → p ≠ 127 := fun h => hno 1 h
    have hno2 : 2 < k → p ≠ 8191 := fun h => hno 2 h
    have hno3 : 3 < k → p ≠ 131071 := fun h => hno 3 h
    have hno4 : 4 < k → p ≠ 524287 := fun h => hno 4 h
    have hno5 : 5 < k → p ≠ 2147483647 := fun h => hno 5 h
    have hno6 : 6 < k → p ≠ 2305843009213693951 := fun h => hno 6 h
    have HN := (show Hid _ from hno); clear hno
    have hk7 : k = 0 ∨ k = 1 ∨ k = 2 ∨ k = 3 ∨ k = 4 ∨ k = 5 ∨ k = 6 ∨ k = 7 := by omega
    rcases hk7 with rfl | rfl | rfl | rfl | rfl | rfl | rfl | rfl
    · by_cases hp : p = 31
      · have he : expo p = 5 := by rw [hp]; rfl
        have h1 : ((p : Int) == 31) = true := by simp; omega
        go_wp2
        go_ret
        exact ⟨rfl, rfl⟩
      · have h1 : ((p : Int) == 31) = false := by simp; omega
        go_wp2
        go_round
        case rel => exact ⟨1, by omega, rfl, fun c hc => by
          have hc' : c < 0 ∨ c = 0 := by omega
          rcases hc' with h | rfl
          · exact HN.out c h
          · exact hp⟩
        case measure => simp [intOf]
    · by_cases hp : p = 127
      · have he : expo p = 7 := by rw [hp]; rfl
        have h1 : ((p : Int) == 127) = true := by simp; omega
        go_wp2
        go_ret
        exact ⟨rfl, rfl⟩
      · have h1 : ((p : Int) == 127) = false := by simp; omega
        go_wp2
        go_round
        case rel => exact ⟨2, by omega, rfl, fun c hc => by
          have hc' : c < 1 ∨ c = 1 := by omega
          rcases hc' with h | rfl
          · exact HN.out c h
          · exact hp⟩
        case measure => simp [intOf]
    · by_cases hp : p = 8191
      · have he : expo p = 13 := by rw [hp]; rfl
        have h1 : ((p : Int) == 8191) = true := by simp; omega
        go_wp2
        go_ret
        exact ⟨rfl, rfl⟩
      · have h1 : ((p : Int) == 8191) = false := by simp; omega
        go_wp2
        go_round
        case rel => exact ⟨3, by omega, rfl, fun c hc => by
          have hc' : c < 2 ∨ c = 2 := by omega
          rcases hc' with h | rfl
          · exact HN.out c h
          · exact hp⟩
        case measure => simp [intOf]
    · by_cases hp : p = 131071
      · have he : expo p = 17 := by rw [hp]; rfl
        have h1 : ((p : Int) == 131071) = true := by simp; omega
        go_wp2
        go_ret
        exact ⟨rfl, rfl⟩
      · have h1 : ((p : Int) == 131071) = false := by simp; omega
        go_wp2
        go_round
        case rel => exact ⟨4, by omega, rfl, fun c hc => by
          have hc' : c < 3 ∨ c = 3 := by omega
          rcases hc' with h | rfl
          · exact HN.out c h
          · exact hp⟩
        case measure => simp [intOf]
    · by_cases hp : p = 524287
      · have he : expo p = 19 := by rw [hp]; rfl
        have h1 : ((p : Int) == 524287) = true := by simp; omega
        go_wp2
        go_ret
        exact ⟨rfl, rfl⟩
      · have h1 : ((p : Int) == 524287) = false := by simp; omega
        go_wp2
        go_round
        case rel => exact ⟨5, by omega, rfl, fun c hc => by
          have hc' : c < 4 ∨ c = 4 := by omega
          rcases hc' with h | rfl
          · exact HN.out c h
          · exact hp⟩
        case measure => simp [intOf]
    · by_cases hp : p = 2147483647
      · have he : expo p = 31 := by rw [hp]; rfl
        have h1 : ((p : Int) == 2147483647) = true := by simp; omega
        go_wp2
        go_ret
        exact ⟨rfl, rfl⟩
      · have h1 : ((p : Int) == 2147483647) = false := by simp; omega
        go_wp2
        go_round
        case rel => exact ⟨6, by omega, rfl, fun c hc => by
          have hc' : c < 5 ∨ c = 5 := by omega
          rcases hc' with h | rfl
          · exact HN.out c h
          · exact hp⟩
        case measure => simp [intOf]
    · by_cases hp : p = 2305843009213693951
      · have he : expo p = 61 := by rw [hp]; rfl
        have h1 : ((p : Int) == 2305843009213693951) = true := by simp; omega
        go_wp2
        go_ret
        exact ⟨rfl, rfl⟩
      · have h1 : ((p : Int) == 2305843009213693951) = false := by simp; omega
        go_wp2
        go_round
        case rel => exact ⟨7, by omega, rfl, fun c hc => by
          have hc' : c < 6 ∨ c = 6 := by omega
          rcases hc' with h | rfl
          · exact HN.out c h
          · exact hp⟩
        case measure => simp [intOf]
    · have he : expo p = 0 := by
        simp [expo, hno0, hno1, hno2, hno3, hno4, hno5, hno6]
      clear hno0 hno1 hno2 hno3 hno4 hno5 hno6
      go_wp2
      go_ret
      exact ⟨rfl, rfl⟩

set_option maxHeartbeats 400000 in
theorem supported_any (p : Nat) (w : World) (hL : Laid w) :
    Calls Tryd.prog 110 #[.int .u64 p] w fun e w' => e = .returned (.bool (decide (expo p ≠ 0))) ∧ w' = w := by
  have h1 : (((expo p : Nat) : Int) != 0) = decide (expo p ≠ 0) := by
    by_cases h : expo p = 0 <;> simp [h]
  generalize hb : decide (expo p ≠ 0) = b at *
  have hx := exponent_any p w hL
  generalize expo p = z at *
  clear hb
  go_enter Tryd.func110, Tryd.ntmps110
  go_wp2_with fail
  refine hx.mono ?_
  clear hx
  rintro e w1 ⟨rfl, rfl⟩
  go_wp2_with fail
  go_ret
  exact ⟨by first | rfl | (rw [← h1]; rfl), rfl⟩
end Pv

set_option linter.unusedVariables false
set_option linter.unusedSimpArgs false
namespace Pv
open Go Go.RowKit Go.Proofs

set_option maxHeartbeats 400000 in
theorem rexps_any (w : World) : Calls Tryd.prog 114 #[] w fun e w' => e = .returned (.slice (some ⟨w.heap.size, 0, none⟩) 7 7) ∧ w' = w.alloc (.cells #[.int .i64 5, .int .i64 7, .int .i64 13, .int .i64 17, .int .i64 19, .int .i64 31, .int .i64 61] 3) := by
  go_enter Tryd.func114, Tryd.ntmps114
  go_wp2
  go_ret
  exact ⟨rfl, rfl⟩
set_option maxHeartbeats 1000000 in
theorem rexpo_any (p : Nat) (w : World) :
    Calls Tryd.prog 109 #[.int .u64 p] w fun e w' => e = .returned (.int .i64 ((expo p : Nat) : Int)) ∧ Bl w w' := by
  go_enter Tryd.func109, Tryd.ntmps109
  go_wp2_with fail
  refine (rexps_any w).mono ?_
  rintro e w1 ⟨rfl, hw1⟩
  have hB : Bl w w1 := by rw [hw1]; exact (Below.refl _ _).alloc (Nat.le_refl _) _
  have hc : ∀ i u, (#[.int .i64 5, .int .i64 7, .int .i64 13, .int .i64 17, .int .i64 19, .int .i64 31, .int .i64 61] : Array Value)[i]? = some u → w1.cell? ⟨w.heap.size, i, none⟩ = some u := fun i u hu => by rw [hw1, World.cell?_alloc_at _ _ _ _ rfl]; exact hu
  have c0 := hc 0 _ rfl
  have c1 := hc 1 _ rfl
  have c2 := hc 2 _ rfl
  have c3 := hc 3 _ rfl
  have c4 := hc 4 _ rfl
  have c5 := hc 5 _ rfl
  have c6 := hc 6 _ rfl
  have HB := hide hB; clear hB hc hw1
  go_wp2_with fail
  go_loopw [4] (fun i wr => wr = w1 ∧ ∃ k : Nat, k ≤ 7 ∧ i = .int .i64 k ∧ ∀ c, c < k → p ≠ 2 ^ (exl.getD c 0) - 1) (fun i _ => 7 - (intOf i).toNat)
  case atStart => exact ⟨rfl, 0, by omega, rfl, by omega⟩
  case round =>
    obtain ⟨rfl, k, hk, rfl, hno⟩ := hrel
    have hno0 : 0 < k → p ≠ 31 := fun h => hno 0 h
    have hno1 : 1 < k → p ≠ 127 := fun h => hno 1 h
    have hno2 : 2 < k → p ≠ 8191 := fun h => hno 2 h
    have hno3 : 3 < k → p ≠ 131071 := fun h => hno 3 h
    have hno4 : 4 < k → p ≠ 524287 := fun h => hno 4 h
    have hno5 : 5 < k → p ≠ 2147483647 := fun h => hno 5 h
    have hno6 : 6 < k → p ≠ 2305843009213693951 := fun h => hno 6 h
    have HN := (show Hid _ from hno); clear hno
    have hk7 : k = 0 ∨ k = 1 ∨ k = 2 ∨ k = 3 ∨ k = 4 ∨ k = 5 ∨ k = 6 ∨ k = 7 := by omega
    rcases hk7 with rfl | rfl | rfl | rfl | rfl | rfl | rfl | rfl
    · clear hno0 hno1 hno2 hno3 hno4 hno5 hno6
      by_cases hp : p = 31
      · have he : expo p = 5 := by rw [hp]; rfl
        have h1 : ((p : Int) == 31) = true := by simp; omega
        have HE := (show Hid _ from he); clear he hp
        go_wp2_with fail
        go_ret
        exact ⟨by rw [HE.out]; rfl, HB.out⟩
      · have h1 : ((p : Int) == 31) = false := by simp; omega
        have HP := (show Hid _ from hp); clear hp
        go_wp2_with fail
        go_round
        case rel => exact ⟨by first | trivial | rfl, 1, by omega, rfl, fun c hc => by
          have hc' : c < 0 ∨ c = 0 := by omega
          rcases hc' with h | rfl
          · exact HN.out c h
          · exact HP.out⟩
        case measure => simp [intOf]
    · clear hno0 hno1 hno2 hno3 hno4 hno5 hno6
      by_cases hp : p = 127
      · have he : expo p = 7 := by rw [hp]; rfl
        have h1 : ((p : Int) == 127) = true := by simp; omega
        have HE := (show Hid _ from he); clear he hp
        go_wp2_with fail
        go_ret
        exact ⟨by rw [HE.out]; rfl, HB.out⟩
      · have h1 : ((p : Int) == 127) = false := by simp; omega
        have HP := (show Hid _ from hp); clear hp
        go_wp2_with fail
        go_round
        case rel => exact ⟨by first | trivial | rfl, 2, by omega, rfl, fun c hc => by
          have hc' : c < 1 ∨ c = 1 := by omega
          rcases hc' with h | rfl
          · exact HN.out c h
          · exact HP.out⟩
        case measure => simp [intOf]
    · clear hno0 hno1 hno2 hno3 hno4 hno5 hno6
      by_cases hp : p = 8191
      · have he : expo p = 13 := by rw [hp]; rfl
        have h1 : ((p : Int) == 8191) = true := by simp; omega
        have HE := (show Hid _ from he); clear he hp
        go_wp2_with fail
        go_ret
        exact ⟨by rw [HE.out]; rfl, HB.out⟩
      · have h1 : ((p : Int) == 8191) = false := by simp; omega
        have HP := (show Hid _ from hp); clear hp
        go_wp2_with fail
        go_round
        case rel => exact ⟨by first | trivial | rfl, 3, by omega, rfl, fun c hc => by
          have hc' : c < 2 ∨ c = 2 := by omega
          rcases hc' with h | rfl
          · exact HN.out c h
          · exact HP.out⟩
        case measure => simp [intOf]
    · clear hno0 hno1 hno2 hno3 hno4 hno5 hno6
      by_cases hp : p = 131071
      · have he : expo p = 17 := by rw [hp]; rfl
        have h1 : ((p : Int) == 131071) = true := by simp; omega
        have HE := (show Hid _ from he); clear he hp
        go_wp2_with fail
        go_ret
        exact ⟨by rw [HE.out]; rfl, HB.out⟩
      · have h1 : ((p : Int) == 131071) = false := by simp; omega
        have HP := (show Hid _ from hp); clear hp
        go_wp2_with fail
        go_round
        case rel => exact ⟨by first | trivial | rfl, 4, by omega, rfl, fun c hc => by
          have hc' : c < 3 ∨ c = 3 := by omega
          rcases hc' with h | rfl
          · exact HN.out c h
          · exact HP.out⟩
        case measure => simp [intOf]
    · clear hno0 hno1 hno2 hno3 hno4 hno5 hno6
      by_cases hp : p = 524287
      · have he : expo p = 19 := by rw [hp]; rfl
        have h1 : ((p : Int) == 524287) = true := by simp; omega
        have HE := (show Hid _ from he); clear he hp
        go_wp2_with fail
        go_ret
        exact ⟨by rw [HE.out]; rfl, HB.out⟩
      · have h1 : ((p : Int) == 524287) = false := by simp; omega
        have HP := (show Hid _ from hp); clear hp
        go_wp2_with fail
        go_round
        case rel => exact ⟨by first | trivial | rfl, 5, by omega, rfl, fun c hc => by
          have hc' : c < 4 ∨ c = 4 := by omega
          rcases hc' with h | rfl
          · exact HN.out c h
          · exact HP.out⟩
        case measure => simp [intOf]
    · clear hno0 hno1 hno2 hno3 hno4 hno5 hno6
      by_cases hp : p = 2147483647
      · have he : expo p = 31 := by rw [hp]; rfl
        have h1 : ((p : Int) == 2147483647) = true := by simp; omega
        have HE := (show Hid _ from he); clear he hp
        go_wp2_with fail
        go_ret
        exact ⟨by rw [HE.out]; rfl, HB.out⟩
      · have h1 : ((p : Int) == 2147483647) = false := by simp; omega
        have HP := (show Hid _ from hp); clear hp
        go_wp2_with fail
        go_round
        case rel => exact ⟨by first | trivial | rfl, 6, by omega, rfl, fun c hc => by
          have hc' : c < 5 ∨ c = 5 := by omega
          rcases hc' with h | rfl
          · exact HN.out c h
          · exact HP.out⟩
        case measure => simp [intOf]
    · clear hno0 hno1 hno2 hno3 hno4 hno5 hno6
      by_cases hp : p = 2305843009213693951
      · have he : expo p = 61 := by rw [hp]; rfl
        have h1 : ((p : Int) == 2305843009213693951) = true := by simp; omega
        have HE := (show Hid _ from he); clear he hp
        go_wp2_with fail
        go_ret
        exact ⟨by rw [HE.out]; rfl, HB.out⟩
      · have h1 : ((p : Int) == 2305843009213693951) = false := by simp; omega
        have HP := (show Hid _ from hp); clear hp
        go_wp2_with fail
        go_round
        case rel => exact ⟨by first | trivial | rfl, 7, by omega, rfl, fun c hc => by
          have hc' : c < 6 ∨ c = 6 := by omega
          rcases hc' with h | rfl
          · exact HN.out c h
          · exact HP.out⟩
        case measure => simp [intOf]
    · have he : expo p = 0 := by
        simp [expo, hno0, hno1, hno2, hno3, hno4, hno5, hno6]
      have HE := (show Hid _ from he)
      clear hno0 hno1 hno2 hno3 hno4 hno5 hno6 he
      go_wp2_with fail
      go_ret
      exact ⟨by rw [HE.out]; rfl, HB.out⟩
set_option maxHeartbeats 400000 in
theorem rsupported_any (p : Nat) (w : World) :
    Calls Tryd.prog 94 #[.int .u64 p] w fun e w' => e = .returned (.bool (decide (expo p ≠ 0))) ∧ Bl w w' := by
  have h1 : decide (0 < expo p) = decide (expo p ≠ 0) := by
    by_cases h : expo p = 0
    · simp [h]
    · simp [h]; omega
  generalize hb : decide (expo p ≠ 0) = b at *
  have hx := rexpo_any p w
  generalize expo p = z at *
  clear hb
  go_enter Tryd.func94, Tryd.ntmps94
  go_wp2_with fail
  refine hx.mono ?_
  clear hx
  rintro e w1 ⟨rfl, hB⟩
  go_wp2_with fail
  go_ret
  exact ⟨by first | rfl | (rw [← h1]; rfl), hB⟩
end Pv

set_option linter.unusedVariables false
set_option linter.unusedSimpArgs false
namespace Pv
open Go Go.RowKit Go.Proofs

theorem IsP.cases31 {p : Nat} (h : IsP p) : p < 2147483648 ∨ p = 2305843009213693951 := by
  rcases h with rfl | rfl | rfl | rfl | rfl | rfl | rfl <;> simp
set_option maxHeartbeats 400000 in
theorem radd_any (p a b : Nat) (w : World) (hp : IsP p) (ha : a < p) (hb : b < p) :
    Calls Tryd.prog 27 #[.int .u64 p, .int .u64 a, .int .u64 b] w fun e w' => e = .returned (.int .u64 ((fadd p a b : Nat) : Int)) ∧ w' = w := by
  have hhi := hp.hi
  have hlo := hp.lo
  have e1 : IntKind.u64.wrap ((a : Int) + b) = ((a + b : Nat) : Int) := by rw [IntWalk.u64_in _ (by omega)]; omega
  have hpz : ¬ ((p : Int) = 0) := by omega
  have hv : fadd p a b = (a + b) % p := rfl
  obtain ⟨z, hz⟩ : ∃ z, z = a + b := ⟨_, rfl⟩
  rw [← hz] at e1 hv
  have HZ := hide hz; clear hz
  rw [hv]
  have hzl : z % p < p := Nat.mod_lt _ (by omega)
  have e2 : IntKind.u64.wrap (((z % p : Nat) : Int)) = ((z % p : Nat) : Int) := by rw [IntWalk.u64_in _ (by omega)]
  clear hv
  go_enter Tryd.func27, Tryd.ntmps27
  go_wp2_with fail
  go_ret
  exact ⟨by first | rfl | simp, rfl⟩
/-- what Mul computes where p is the largest prime -/
theorem mul61 (a b : Nat) : (2 * (a / 2147483648) * (b / 2147483648) + (a / 2147483648 * (b % 2147483648) + a % 2147483648 * (b / 2147483648)) / 1073741824 + (a / 2147483648 * (b % 2147483648) + a % 2147483648 * (b / 2147483648)) % 1073741824 * 2147483648 + a % 2147483648 * (b % 2147483648)) % 2305843009213693951 = a * b % 2305843009213693951 := by
  generalize ha1 : a / 2147483648 = a1
  generalize ha0 : a % 2147483648 = a0
  generalize hb1 : b / 2147483648 = b1
  generalize hb0 : b % 2147483648 = b0
  have hab : a = 2147483648 * a1 + a0 := by omega
  have hbb : b = 2147483648 * b1 + b0 := by omega
  generalize hc : a1 * b0 + a0 * b1 = c
  generalize hq : c / 1073741824 = q
  generalize hr : c % 1073741824 = r
  have hcq : c = 1073741824 * q + r := by omega
  have key : a * b = (2 * a1 * b1 + q + r * 2147483648 + a0 * b0) + 2305843009213693951 * (2 * a1 * b1 + q) := by
    have h1 : a * b = 4611686018427387904 * (a1 * b1) + 2147483648 * c + a0 * b0 := by
      rw [hab, hbb, ← hc]; grind
    rw [h1, hcq]
    have : 2 * a1 * b1 = 2 * (a1 * b1) := Nat.mul_assoc _ _ _
    omega
  rw [key, Nat.add_mul_mod_self_left]
set_option maxHeartbeats 1000000 in
set_option maxRecDepth 100000 in
theorem rmul_any (p a b : Nat) (w : World) (hp : IsP p) (ha : a < p) (hb : b < p) :
    Calls Tryd.prog 24 #[.int .u64 p, .int .u64 a, .int .u64 b] w fun e w' => e = .returned (.int .u64 ((fmul p a b : Nat) : Int)) ∧ w' = w := by
  have hlo := hp.lo
  have hv : fmul p a b = a * b % p := rfl
  have hml : a * b % p < p := Nat.mod_lt _ (by omega)
  have hpz : ¬ ((p : Int) = 0) := by omega
  rcases hp with rfl | rfl | rfl | rfl | rfl | rfl | rfl
  · have hab : a * b ≤ 31 * 31 := Nat.mul_le_mul (by omega) (by omega)
    have e1 : IntKind.u64.wrap ((a : Int) * b) = ((a * b : Nat) : Int) := by rw [IntWalk.u64_in _ (by rw [← Int.natCast_mul]; omega)]; exact (Int.natCast_mul a b).symm
    have i3 : (a : Int) < 2147483648 := by omega
    have i4 : (b : Int) < 2147483648 := by omega
    rw [hv]
    clear hml hlo hpz hv
    obtain ⟨z, hz⟩ : ∃ z, z = a * b := ⟨_, rfl⟩
    rw [← hz] at e1 ⊢
    clear hz hab
    go_enter Tryd.func24, Tryd.ntmps24
    go_wp2_with fail
    go_ret
    exact ⟨by first | rfl | simp, rfl⟩
  · have hab : a * b ≤ 127 * 127 := Nat.mul_le_mul (by omega) (by omega)
    have e1 : IntKind.u64.wrap ((a : Int) * b) = ((a * b : Nat) : Int) := by rw [IntWalk.u64_in _ (by rw [← Int.natCast_mul]; omega)]; exact (Int.natCast_mul a b).symm
    have i3 : (a : Int) < 2147483648 := by omega
    have i4 : (b : Int) < 2147483648 := by omega
    rw [hv]
    clear hml hlo hpz hv
    obtain ⟨z, hz⟩ : ∃ z, z = a * b := ⟨_, rfl⟩
    rw [← hz] at e1 ⊢
    clear hz hab
    go_enter Tryd.func24, Tryd.ntmps24
    go_wp2_with fail
    go_ret
    exact ⟨by first | rfl | simp, rfl⟩
  · have hab : a * b ≤ 8191 * 8191 := Nat.mul_le_mul (by omega) (by omega)
    have e1 : IntKind.u64.wrap ((a : Int) * b) = ((a * b : Nat) : Int) := by rw [IntWalk.u64_in _ (by rw [← Int.natCast_mul]; omega)]; exact (Int.natCast_mul a b).symm
    have i3 : (a : Int) < 2147483648 := by omega
    have i4 : (b : Int) < 2147483648 := by omega
    rw [hv]
    clear hml hlo hpz hv
    obtain ⟨z, hz⟩ : ∃ z, z = a * b := ⟨_, rfl⟩
    rw [← hz] at e1 ⊢
    clear hz hab
    go_enter Tryd.func24, Tryd.ntmps24
    go_wp2_with fail
    go_ret
    exact ⟨by first | rfl | simp, rfl⟩
  · have hab : a * b ≤ 131071 * 131071 := Nat.mul_le_mul (by omega) (by omega)
    have e1 : IntKind.u64.wrap ((a : Int) * b) = ((a * b : Nat) : Int) := by rw [IntWalk.u64_in _ (by rw [← Int.natCast_mul]; omega)]; exact (Int.natCast_mul a b).symm
    have i3 : (a : Int) < 2147483648 := by omega
    have i4 : (b : Int) < 2147483648 := by omega
    rw [hv]
    clear hml hlo hpz hv
    obtain ⟨z, hz⟩ : ∃ z, z = a * b := ⟨_, rfl⟩
    rw [← hz] at e1 ⊢
    clear hz hab
    go_enter Tryd.func24, Tryd.ntmps24
    go_wp2_with fail
    go_ret
    exact ⟨by first | rfl | simp, rfl⟩
  · have hab : a * b ≤ 524287 * 524287 := Nat.mul_le_mul (by omega) (by omega)
    have e1 : IntKind.u64.wrap ((a : Int) * b) = ((a * b : Nat) : Int) := by rw [IntWalk.u64_in _ (by rw [← Int.natCast_mul]; omega)]; exact (Int.natCast_mul a b).symm
    have i3 : (a : Int) < 2147483648 := by omega
    have i4 : (b : Int) < 2147483648 := by omega
    rw [hv]
    clear hml hlo hpz hv
    obtain ⟨z, hz⟩ : ∃ z, z = a * b := ⟨_, rfl⟩
    rw [← hz] at e1 ⊢
    clear hz hab
    go_enter Tryd.func24, Tryd.ntmps24
    go_wp2_with fail
    go_ret
    exact ⟨by first | rfl | simp, rfl⟩
  · have hab : a * b ≤ 2147483647 * 2147483647 := Nat.mul_le_mul (by omega) (by omega)
    have e1 : IntKind.u64.wrap ((a : Int) * b) = ((a * b : Nat) : Int) := by rw [IntWalk.u64_in _ (by rw [← Int.natCast_mul]; omega)]; exact (Int.natCast_mul a b).symm
    have i3 : (a : Int) < 2147483648 := by omega
    have i4 : (b : Int) < 2147483648 := by omega
    rw [hv]
    clear hml hlo hpz hv
    obtain ⟨z, hz⟩ : ∃ z, z = a * b := ⟨_, rfl⟩
    rw [← hz] at e1 ⊢
    clear hz hab
    go_enter Tryd.func24, Tryd.ntmps24
    go_wp2_with fail
    go_ret
    exact ⟨by first | rfl | simp, rfl⟩
  · have i0 : ((2305843009213693951 : Nat) : Int) = 2305843009213693951 := rfl
    have i3 : (a : Int) < 2305843009213693951 := by omega
    have i4 : (b : Int) < 2305843009213693951 := by omega
    rw [hv, ← mul61 a b]
    clear hv hml
    obtain ⟨a1, ha1⟩ : ∃ a1, a1 = a / 2147483648 := ⟨_, rfl⟩
    obtain ⟨a0, ha0⟩ : ∃ a0, a0 = a % 2147483648 := ⟨_, rfl⟩
    obtain ⟨b1, hb1⟩ : ∃ b1, b1 = b / 2147483648 := ⟨_, rfl⟩
    obtain ⟨b0, hb0⟩ : ∃ b0, b0 = b % 2147483648 := ⟨_, rfl⟩
    rw [← ha1, ← ha0, ← hb1, ← hb0]
    have ea1 : (a : Int) / 2147483648 = (a1 : Int) := by omega
    have ea0 : (a : Int) % 2147483648 = (a0 : Int) := by omega
    have eb1 : (b : Int) / 2147483648 = (b1 : Int) := by omega
    have eb0 : (b : Int) % 2147483648 = (b0 : Int) := by omega
    have l1 : a1 * b0 ≤ 1073741824 * 2147483648 := Nat.mul_le_mul (by omega) (by omega)
    have l2 : a0 * b1 ≤ 2147483648 * 1073741824 := Nat.mul_le_mul (by omega) (by omega)
    have l3 : a0 * b0 ≤ 2147483648 * 2147483648 := Nat.mul_le_mul (by omega) (by omega)
    have l4 : 2 * a1 * b1 ≤ 2147483648 * 1073741824 := Nat.mul_le_mul (by omega) (by omega)
    have w1 : IntKind.u64.wrap ((a1 : Int) * (b0 : Int)) = ((a1 * b0 : Nat) : Int) := by rw [← Int.natCast_mul, IntWalk.u64_in _ (by omega)]
    have w2 : IntKind.u64.wrap ((a0 : Int) * (b1 : Int)) = ((a0 * b1 : Nat) : Int) := by rw [← Int.natCast_mul, IntWalk.u64_in _ (by omega)]
    have w3 : IntKind.u64.wrap ((a0 : Int) * (b0 : Int)) = ((a0 * b0 : Nat) : Int) := by rw [← Int.natCast_mul, IntWalk.u64_in _ (by omega)]
    have w4 : IntKind.u64.wrap (2 * (a1 : Int) * (b1 : Int)) = ((2 * a1 * b1 : Nat) : Int) := by
      rw [show (2 : Int) * (a1 : Int) * (b1 : Int) = ((2 * a1 * b1 : Nat) : Int) by simp, IntWalk.u64_in _ (by omega)]
    have HA := hide (And.intro ha1 (And.intro ha0 (And.intro hb1 hb0)))
    clear ha1 ha0 hb1 hb0
    have E1 := hide ea1; have E2 := hide ea0; have E3 := hide eb1; have E4 := hide eb0
    have V1 := hide w1; have V2 := hide w2; have V3 := hide w3; have V4 := hide w4
    clear ea1 ea0 eb1 eb0 w1 w2 w3 w4
    go_enter Tryd.func24, Tryd.ntmps24
    go_wp2_with fail
    go_ret
    refine ⟨?_, rfl⟩
    simp only [E1.out, E2.out, E3.out, E4.out, V1.out, V2.out, V3.out, V4.out]
    generalize a1 * b0 = x at *
    generalize a0 * b1 = y at *
    generalize a0 * b0 = z at *
    generalize 2 * a1 * b1 = v at *
    have w5 : IntKind.u64.wrap ((x : Int) + (y : Int)) = ((x + y : Nat) : Int) := by rw [IntWalk.u64_in _ (by omega)]; omega
    generalize hc : x + y = c at *
    have w6 : (c : Int) / 1073741824 = ((c / 1073741824 : Nat) : Int) := by omega
    have w7 : (c : Int).tmod 1073741824 = ((c % 1073741824 : Nat) : Int) := rfl
    have hq : c / 1073741824 ≤ 8589934592 := by omega
    have hr : c % 1073741824 < 1073741824 := by omega
    generalize c / 1073741824 = q at *
    generalize c % 1073741824 = r at *
    have w8 : IntKind.u64.wrap ((v : Int) + (q : Int)) = ((v + q : Nat) : Int) := by rw [IntWalk.u64_in _ (by omega)]; omega
    have w9 : IntKind.u64.wrap ((r : Int) * 2147483648) = ((r * 2147483648 : Nat) : Int) := by rw [IntWalk.u64_in _ (by omega)]; omega
    have w10 : IntKind.u64.wrap (((v + q : Nat) : Int) + ((r * 2147483648 : Nat) : Int)) = ((v + q + r * 2147483648 : Nat) : Int) := by rw [IntWalk.u64_in _ (by omega)]; omega
    have w11 : IntKind.u64.wrap (((v + q + r * 2147483648 : Nat) : Int) + (z : Int)) = ((v + q + r * 2147483648 + z : Nat) : Int) := by rw [IntWalk.u64_in _ (by omega)]; omega
    simp only [w5, w6, w7, w8, w9, w10, w11]
    rfl
end Pv

set_option linter.unusedVariables false
set_option linter.unusedSimpArgs false
namespace Pv
open Go Go.RowKit Go.Proofs

set_option maxHeartbeats 400000 in
theorem rvalue_any (p x : Nat) (v : Value) (l : List Nat) (S : Nat → Prop) (w : World) (hp : IsP p) (hx : x < p) (hr : (kS kU).R w S [v] l) (hl : ∀ y, y ∈ l → y < p) :
    Calls Tryd.prog 69 #[.int .u64 p, v, .int .u64 x] w fun e w' => e = .returned (.int .u64 ((hor p l x : Nat) : Int)) ∧ Dr w w' := by
  obtain ⟨A, c, rfl, ⟨hn2, hc2⟩, hc⟩ := rdU hr
  have hp0 : 0 < p := by have := hp.lo; omega
  clear hr
  generalize hn : l.length = n at *
  go_enter Tryd.func69, Tryd.ntmps69
  go_wp2
  go_loopw [7, 8] (fun v i wr => Dr w wr ∧ ∃ k : Nat, k ≤ n ∧ i = .int .i64 ((k : Int) - 1) ∧ v = .int .u64 (hor p (l.drop k) x : Nat)) (fun _ i _ => (intOf i + 1).toNat)
  case atStart => exact ⟨Dr.refl w, n, Nat.le_refl _, rfl, by rw [List.drop_of_length_le (by omega)]; rfl⟩
  case round =>
    obtain ⟨hd, k, hk, rfl, rfl⟩ := hrel
    rcases Nat.eq_zero_or_pos k with rfl | hk0
    · go_wp2
      go_ret
      exact ⟨rfl, hd⟩
    · obtain ⟨k, rfl⟩ : ∃ m, k = m + 1 := ⟨k - 1, by omega⟩
      obtain ⟨ad, rfl, _, hcell, _⟩ := hc k (by omega)
      rw [← hd.cell] at hcell
      have hb : l.getD k 0 < p := by
        rw [List.getD_eq_getElem?_getD, List.getElem?_eq_getElem (by omega)]; exact hl _ (List.getElem_mem _)
      have hh := hor_lt p x hp0 (l.drop (k + 1))
      have hs := hor_drop p l x k (by omega)
      have HS : Hid (hor p (l.drop k) x = fadd p (fmul p (hor p (l.drop (k + 1)) x) x) (l.getD k 0)) := hs
      clear hs
      generalize hor p (l.drop (k + 1)) x = y at *
      generalize l.getD k 0 = z at *
      have h1 := fmul_lt hp0 y x
      rw [show (((k + 1 : Nat) : Int) - 1) = (k : Int) by omega]
      go_wp2
      go_quiet ((first | (go_at_call 24; exact Calls.quiet_of_same (rmul_any _ _ _ _ hp (by omega) (by omega))) | (go_at_call 27; exact Calls.quiet_of_same (radd_any _ _ _ _ hp (by omega) (by omega)))))
      go_wp2
      go_roundw
      case rel => exact ⟨hd.more _, k, by omega, rfl, by rw [HS.out]⟩
      case measure => simp [intOf]

/-- the entries of a matrix -/
def ent (m : List (List Nat)) (i j : Nat) : Nat := (m.getD i []).getD j 0
def RowP (p x n : Nat) (m : List (List Nat)) (w : World) (e : Ending) (w' : World) : Prop := Bl w w' ∧ ∃ v', e = .returned v' ∧ Ow kU w' w.heap.size 22 v' (rowB p n (ent m) x)
set_option maxHeartbeats 4000000 in
set_option maxRecDepth 100000 in
theorem rrow_any (p x n : Nat) (v : Value) (m : List (List Nat)) (S : Nat → Prop) (w : World) (hp : IsP p) (hx : x < p) (hr : (kS (kS kU)).R w S [v] m) (hm : m.length = n) (hn : n ≤ 100) (hrow : ∀ r, r ∈ m → r.length = n ∧ ∀ c, c ∈ r → c < p) :
    Calls Tryd.prog 50 #[.int .u64 p, v, .int .u64 x] w fun e w' => RowP p x n m w e w' := by
  have hlow := (kS (kS kU)).low hr
  obtain ⟨A, c, rfl, ⟨hl1, hl2⟩, hcell⟩ := rd_open rfl hlow
  rw [hm] at hl1 ⊢
  have hent : ∀ i j, i < n → j < n → ∃ ad ad2 cu, A = some ad ∧ w.cell? (ad.add i) = some (.slice (some ad2) n cu) ∧ w.cell? (ad2.add j) = some (.int .u64 (ent m i j : Nat)) ∧ ent m i j < p := fun i j hi hj => by
    have him : i < m.length := by omega
    obtain ⟨ad, u, h1, _, hu, hc⟩ := hcell i m[i] (List.getElem?_eq_getElem him)
    have hri := hrow m[i] (List.getElem_mem him)
    obtain ⟨Au, cu, rfl, hlu, hcu⟩ := rdU hu
    rw [hri.1] at hc hcu
    obtain ⟨ad2, rfl, _, hc2, _⟩ := hcu j hj
    have he : ent m i j = m[i].getD j 0 := by unfold ent; rw [show m.getD i [] = m[i] from by rw [List.getD_eq_getElem?_getD, List.getElem?_eq_getElem him]; rfl]
    rw [he]
    exact ⟨ad, ad2, cu, h1, hc, hc2, getD_ltp (by have := hp.lo; omega) hri.2 j⟩
  have HENT := hide hent; clear hent hcell hlow hr hrow
  have hp0 : 0 < p := by have := hp.lo; omega
  have hhi := hp.hi
  have HMM := hide hm; clear hm
  go_enter Tryd.func50, Tryd.ntmps50
  go_wp2_with fail
  go_loopw [7, 8] (fun s7 ix wr => ∃ j : Nat, j ≤ n ∧ ix = .int .i64 j ∧ Bl w wr ∧ Ow kU wr w.heap.size 22 s7 ((List.range j).map fun j => hor p ((List.range n).map fun i => ent m i j) x)) (fun _ ix _ => n - (intOf ix).toNat)
  case atStart => exact ⟨0, by omega, rfl, Below.refl _ _, Ow.nil _ _ _ _⟩
  case round =>
    obtain ⟨j, hj, rfl, hB, hO⟩ := hrel
    by_cases hjn : j < n
    · as_aux_lemma =>
      have hji : (j : Int) < (n : Int) := by omega
      have hj0 : (0 : Int) ≤ (j : Int) := by omega
      obtain ⟨A7, c7, hv7, _, _⟩ := hO.slice
      rw [List.length_map, List.length_range] at hv7
      subst hv7
      have HB := hide hB; have HO := hide hO; clear hB hO
      go_wp2_with fail
      obtain ⟨W1, hW1⟩ : ∃ W1, W1 = wr := ⟨_, rfl⟩
      rw [← hW1] at HB HO ⊢
      clear hW1
      go_loopw [9, 10] (fun s9 ix wx => ∃ i : Nat, i ≤ n ∧ ix = .int .i64 i ∧ Bl W1 wx ∧ Ow kU wx W1.heap.size 22 s9 ((List.range i).map fun i => ent m i j)) (fun _ ix _ => n - (intOf ix).toNat)
      case atStart => exact ⟨0, by omega, rfl, Below.refl _ _, Ow.nil _ _ _ _⟩
      case round =>
        obtain ⟨i, hi, rfl, hBx, hOx⟩ := hrel
        obtain ⟨A9, c9, hv9, _, _⟩ := hOx.slice
        rw [List.length_map, List.length_range] at hv9
        subst hv9
        by_cases hin : i < n
        · as_aux_lemma =>
          have hii : (i : Int) < (n : Int) := by omega
          have hi0 : (0 : Int) ≤ (i : Int) := by omega
          obtain ⟨ad, ad2, cu, rfl, hc1, hc2, hlt⟩ := HENT.out i j hin hjn
          have hBw : Bl w wr := Bl.then HB.out HB.out.size hBx
          have hc1 := cell_bl hBw hc1
          have hc2 := cell_bl hBw hc2
          have hl8 : (((List.range i).map fun i => ent m i j).length + 1) * 8 ≤ 140737488355328 := by simp; omega
          obtain ⟨z, hz⟩ : ∃ z, z = ent m i j := ⟨_, rfl⟩
          rw [← hz] at hc2 hlt
          have HZ := hide hz; have HBX := hide hBx; have HOX := hide hOx; have HL8 := hide hl8
          clear hz hBx hOx hBw hl8
          have hz64 : z < 18446744073709551616 := by omega
          go_wp2_with (at_builtin; refine Ow.append kU (w0 := W1) W1.heap.size rfl (.tmp 23) (.tmp 31) 30 22 (.int .u64 0) 8 rfl Tryd.underlying30 cu64info rfl (.slice A9 i c9) ((List.range i).map fun i => ent m i j) [.int .u64 z] z rfl rfl HOX.out HBX.out HBX.out.size ⟨rfl, hz64⟩ HL8.out (by decide) ?_)
          intro v5 w5 hO5 hB5 _ _
          have hO6 : Ow kU w5 W1.heap.size 22 v5 ((List.range (i + 1)).map fun i => ent m i j) := by
            rw [List.range_succ, List.map_append, List.map_cons, List.map_nil, ← HZ.out]; exact hO5
          have HO6 := hide hO6; have HB5 := hide hB5
          clear hO5 hO6 hB5
          go_wp2_with fail
          go_round
          case rel => exact ⟨i + 1, by omega, by go_num, HB5.out, HO6.out⟩
          case measure => simp [intOf]; omega
        · as_aux_lemma =>
          have hin' : i = n := by omega
          subst hin'
          have hval := rvalue_any p x (.slice A9 i c9) ((List.range i).map fun i => ent m i j) _ wr hp hx hOx.reads (fun y hy => by
            obtain ⟨k, hk, rfl⟩ := List.mem_map.1 hy
            obtain ⟨_, _, _, _, _, _, h⟩ := HENT.out k j (List.mem_range.1 hk) hjn
            exact h)
          have hlt := hor_lt p x hp0 ((List.range i).map fun i => ent m i j)
          obtain ⟨z, hz⟩ : ∃ z, z = hor p ((List.range i).map fun i => ent m i j) x := ⟨_, rfl⟩
          rw [← hz] at hval hlt
          have hz64 : z < 18446744073709551616 := by omega
          have hl8 : (((List.range j).map fun j => hor p ((List.range i).map fun i => ent m i j) x).length + 1) * 8 ≤ 140737488355328 := by simp; omega
          have HV := hide hval; have HZ := hide hz; have HBX := hide hBx; have HL8 := hide hl8
          clear hval hz hBx hOx hl8
          go_wp2_with fail
          refine HV.out.mono ?_
          rintro e w4 ⟨rfl, hD⟩
          have hB4 : Bl w w4 := Bl.dr (Bl.then HB.out HB.out.size HBX.out) hD
          have hO4 := (HO.out.bl HBX.out).dr hD
          have HB4 := hide hB4; have HO4 := hide hO4
          clear hB4 hO4 hD
          go_wp2_with (at_builtin; refine Ow.append kU (w0 := w) w.heap.size rfl (.tmp 33) (.tmp 38) 30 22 (.int .u64 0) 8 rfl Tryd.underlying30 cu64info rfl (.slice A7 j c7) ((List.range j).map fun j => hor p ((List.range i).map fun i => ent m i j) x) [.int .u64 z] z rfl rfl HO4.out HB4.out HB4.out.size ⟨rfl, hz64⟩ HL8.out (by decide) ?_)
          intro v5 w5 hO5 hB5 _ _
          have hO6 : Ow kU w5 w.heap.size 22 v5 ((List.range (j + 1)).map fun j => hor p ((List.range i).map fun i => ent m i j) x) := by
            rw [List.range_succ, List.map_append, List.map_cons, List.map_nil, ← HZ.out]; exact hO5
          have HO6 := hide hO6; have HB5 := hide hB5
          clear hO5 hO6 hB5
          go_wp2_with fail
          go_round
          case rel => exact ⟨j + 1, by omega, by go_num, HB5.out, HO6.out⟩
          case measure => simp [intOf]; omega
    · as_aux_lemma =>
      have hjn' : j = n := by omega
      subst hjn'
      have HB := hide hB; have HO := hide hO; clear hB hO
      go_wp2_with fail
      go_ret
      exact ⟨HB.out, _, rfl, HO.out⟩
end Pv
