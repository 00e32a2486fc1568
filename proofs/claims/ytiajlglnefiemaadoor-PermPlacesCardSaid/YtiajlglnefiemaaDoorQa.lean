/- The reference's network: Xor. Conditions: the numbers are less than 65536. -/
import Derived.Test.YtiajlglnefiemaaDoorPb
import Derived.Deep.LoopGhost
set_option linter.unusedSimpArgs false
set_option linter.unusedVariables false
namespace Go.Proofs.YtiajlglnefiemaaDoor
open Go.RowKit

theorem xor_shift (a b j : Nat) : (a ^^^ b) / 2 ^ j = (a / 2 ^ j) ^^^ (b / 2 ^ j) := by
  rw [← Nat.shiftRight_eq_div_pow, ← Nat.shiftRight_eq_div_pow, ← Nat.shiftRight_eq_div_pow, Nat.shiftRight_xor_distrib]
theorem xor_two (a b : Nat) : (a ^^^ b) % 2 = if a % 2 = b % 2 then 0 else 1 := by
  have h := Nat.xor_mod_two_pow (a := a) (b := b) (n := 1)
  simp only [Nat.pow_one] at h
  rw [h]
  have h1 : a % 2 = 0 ∨ a % 2 = 1 := by omega
  have h2 : b % 2 = 0 ∨ b % 2 = 1 := by omega
  rcases h1 with h1 | h1 <;> rcases h2 with h2 | h2 <;> rw [h1, h2] <;> rfl
theorem xor_next (a b j : Nat) : (a ^^^ b) % 2 ^ (j + 1) = (a ^^^ b) % 2 ^ j + (if a / 2 ^ j % 2 = b / 2 ^ j % 2 then 0 else 2 ^ j) := by
  have h := Nat.mod_pow_succ (b := 2) (k := j) (x := a ^^^ b)
  rw [h, xor_shift, xor_two]
  split <;> simp
theorem div_next (a j : Nat) : a / 2 ^ (j + 1) = a / 2 ^ j / 2 := by rw [Nat.pow_succ, Nat.div_div_eq_div_mul]
set_option maxRecDepth 100000 in
set_option maxHeartbeats 2000000 in
theorem rXor_any (a b : Nat) (w : World) (ha : a < 65536) (hb : b < 65536) :
    Calls Tryd.prog 81 #[.int .i64 (a : Int), .int .i64 (b : Int)] w fun e w' => e = .returned (.int .i64 ((a ^^^ b : Nat) : Int)) ∧ w' = w := by
  go_enter Tryd.func81, Tryd.ntmps81
  go_wp2_with fail
  go_loopg [0, 1, 5, 6] 17 (fun m x y o t wr => ∃ j : Nat, m + j = 17 ∧ x = .int .i64 ((a / 2 ^ j : Nat) : Int) ∧ y = .int .i64 ((b / 2 ^ j : Nat) : Int) ∧ o = .int .i64 (((a ^^^ b) % 2 ^ j : Nat) : Int) ∧ t = .int .i64 ((2 ^ j : Nat) : Int) ∧ wr = w)
  case atStart => exact ⟨0, by omega, by simp, by simp, by simp [Nat.mod_one], rfl, rfl⟩
  case round =>
    obtain ⟨j, hj, rfl, rfl, rfl, rfl, rfl⟩ := hrel
    have e1 := xor_next a b j
    have e2 := div_next a j
    have e3 := div_next b j
    have e4 : 2 ^ (j + 1) = 2 * 2 ^ j := by rw [Nat.pow_succ]; omega
    have e5 := xor_shift a b j
    have l1 : (a ^^^ b) % 2 ^ j < 2 ^ j := Nat.mod_lt _ (Nat.two_pow_pos j)
    have l2 : 2 ^ j ≤ 131072 := Nat.pow_le_pow_right (n := 2) (by omega) (show j ≤ 17 by omega)
    have l3 : a / 2 ^ j ≤ a := Nat.div_le_self _ _
    have l4 : b / 2 ^ j ≤ b := Nat.div_le_self _ _
    have hend : a / 2 ^ j = 0 → b / 2 ^ j = 0 → (a ^^^ b) % 2 ^ j = a ^^^ b := fun h1 h2 => by
      rw [h1, h2] at e5
      exact Nat.mod_eq_of_lt (by
        rcases Nat.lt_or_ge (a ^^^ b) (2 ^ j) with h | h
        · exact h
        · have := Nat.div_pos h (Nat.two_pow_pos j)
          rw [e5] at this
          simp at this)
    have hz : j = 17 → a / 2 ^ j = 0 ∧ b / 2 ^ j = 0 := fun h => by
      subst h
      exact ⟨Nat.div_eq_of_lt (by omega), Nat.div_eq_of_lt (by omega)⟩
    have E1 := Lib.hid e1
    have E2 := Lib.hid e2
    have E3 := Lib.hid e3
    have E4 := Lib.hid e4
    have HE := Lib.hid hend
    have HZ := Lib.hid hz
    clear e1 e2 e3 e4 e5 hend hz
    generalize 2 ^ j = p at *
    generalize a / p = x at *
    generalize b / p = y at *
    generalize (a ^^^ b) % p = o at *
    by_cases h0 : 0 < x ∨ 0 < y
    · have hj17 : j < 17 := by
        rcases Nat.lt_or_ge j 17 with h | h
        · exact h
        · have := HZ.out (by omega); omega
      have dx : (x : Int).tdiv 2 = ((x / 2 : Nat) : Int) := by rw [Int.tdiv_eq_ediv_of_nonneg (by omega)]; rfl
      have dy : (y : Int).tdiv 2 = ((y / 2 : Nat) : Int) := by rw [Int.tdiv_eq_ediv_of_nonneg (by omega)]; rfl
      by_cases hq : x % 2 = y % 2
      · have HQ : Hid ((if x % 2 = y % 2 then 0 else p) = 0) := Lib.hid (if_pos hq)
        have hqi : ((x : Int) % 2 != (y : Int) % 2) = false := by simp; omega
        clear hq
        by_cases hx : (0 : Int) < (x : Int)
        · go_wp2_with fail
          go_roundg (gk - 1)
          case measure => omega
          case rel => exact ⟨j + 1, by omega, by rw [E2.out]; congr 1 <;> omega, by rw [E3.out]; congr 1 <;> omega, by rw [E1.out, HQ.out]; congr 1, by rw [E4.out]; congr 1, rfl⟩
        · have hx2 : decide ((0 : Int) < (x : Int)) = false := decide_eq_false hx
          have hy : (0 : Int) < (y : Int) := by omega
          go_wp2_with fail
          go_roundg (gk - 1)
          case measure => omega
          case rel => exact ⟨j + 1, by omega, by rw [E2.out]; congr 1 <;> omega, by rw [E3.out]; congr 1 <;> omega, by rw [E1.out, HQ.out]; congr 1, by rw [E4.out]; congr 1, rfl⟩
      · have HQ : Hid ((if x % 2 = y % 2 then 0 else p) = p) := Lib.hid (if_neg hq)
        have hqi : ((x : Int) % 2 != (y : Int) % 2) = true := by simp; omega
        clear hq
        by_cases hx : (0 : Int) < (x : Int)
        · go_wp2_with fail
          go_roundg (gk - 1)
          case measure => omega
          case rel => exact ⟨j + 1, by omega, by rw [E2.out]; congr 1 <;> omega, by rw [E3.out]; congr 1 <;> omega, by rw [E1.out, HQ.out]; congr 1, by rw [E4.out]; congr 1, rfl⟩
        · have hx2 : decide ((0 : Int) < (x : Int)) = false := decide_eq_false hx
          have hy : (0 : Int) < (y : Int) := by omega
          go_wp2_with fail
          go_roundg (gk - 1)
          case measure => omega
          case rel => exact ⟨j + 1, by omega, by rw [E2.out]; congr 1 <;> omega, by rw [E3.out]; congr 1 <;> omega, by rw [E1.out, HQ.out]; congr 1, by rw [E4.out]; congr 1, rfl⟩
    · have hx0 : x = 0 := by omega
      have hy0 : y = 0 := by omega
      have ho := HE.out hx0 hy0
      subst hx0 hy0
      go_wp2_with fail
      go_ret
      exact ⟨by rw [← ho]; rfl, rfl⟩
end Go.Proofs.YtiajlglnefiemaaDoor
