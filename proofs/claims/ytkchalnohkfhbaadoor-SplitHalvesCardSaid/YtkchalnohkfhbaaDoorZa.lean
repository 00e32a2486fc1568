/- Lanes: many numbers of 64 bits in one natural number, and what the operations on naturals do to each. Plain; nothing of the program stands here. -/
import Derived.KernelRfl
set_option linter.unusedSimpArgs false
set_option linter.unusedVariables false
namespace Go.Proofs.YtkchalnohkfhbaaDoor

/-- the numbers g 0 .. g (n - 1), 64 bits each -/
def pkN : Nat → (Nat → Nat) → Nat
  | 0, _ => 0
  | n + 1, g => 2 ^ 64 * pkN n (fun i => g (i + 1)) + g 0
theorem pkN_congr {n : Nat} : ∀ {g h : Nat → Nat}, (∀ i, i < n → g i = h i) → pkN n g = pkN n h := by
  induction n with
  | zero => intro g h _; rfl
  | succ n ih =>
    intro g h e
    unfold pkN
    rw [ih (fun i hi => e (i + 1) (by omega)), e 0 (by omega)]
theorem pkN_add (n : Nat) : ∀ (g h : Nat → Nat), pkN n g + pkN n h = pkN n (fun i => g i + h i) := by
  induction n with
  | zero => intro g h; rfl
  | succ n ih =>
    intro g h
    have := ih (fun i => g (i + 1)) (fun i => h (i + 1))
    unfold pkN
    dsimp only at this ⊢
    rw [← this]
    omega
theorem pkN_mul (n : Nat) (c : Nat) : ∀ (g : Nat → Nat), pkN n g * c = pkN n (fun i => g i * c) := by
  induction n with
  | zero => intro g; simp [pkN]
  | succ n ih =>
    intro g
    have := ih (fun i => g (i + 1))
    unfold pkN
    dsimp only at this ⊢
    rw [← this, Nat.add_mul, Nat.mul_assoc]
theorem pkN_bit (n : Nat) : ∀ (g : Nat → Nat), (∀ i, i < n → g i < 2 ^ 64) → ∀ j, (pkN n g).testBit j = (decide (j / 64 < n) && (g (j / 64)).testBit (j % 64)) := by
  induction n with
  | zero => intro g _ j; simp [pkN]
  | succ n ih =>
    intro g hg j
    unfold pkN
    rw [Nat.testBit_two_pow_mul_add _ (hg 0 (by omega))]
    by_cases hj : j < 64
    · rw [if_pos hj, Nat.div_eq_of_lt hj, Nat.mod_eq_of_lt hj]
      simp
    · rw [if_neg hj, ih _ (fun i hi => hg (i + 1) (by omega))]
      have e1 : (j - 64) / 64 + 1 = j / 64 := by omega
      have e2 : (j - 64) % 64 = j % 64 := by omega
      rw [e2]
      congr 1
      · rw [decide_eq_decide]; omega
      · rw [e1]
theorem pkN_and {n : Nat} {g h : Nat → Nat} (hg : ∀ i, i < n → g i < 2 ^ 64) (hh : ∀ i, i < n → h i < 2 ^ 64) : pkN n g &&& pkN n h = pkN n (fun i => g i &&& h i) := by
  apply Nat.eq_of_testBit_eq
  intro j
  rw [Nat.testBit_and, pkN_bit n g hg, pkN_bit n h hh, pkN_bit n _ (fun i hi => Nat.and_lt_two_pow _ (hh i hi)), Nat.testBit_and]
  cases decide (j / 64 < n) <;> simp
theorem pkN_xor {n : Nat} {g h : Nat → Nat} (hg : ∀ i, i < n → g i < 2 ^ 64) (hh : ∀ i, i < n → h i < 2 ^ 64) : pkN n g ^^^ pkN n h = pkN n (fun i => g i ^^^ h i) := by
  apply Nat.eq_of_testBit_eq
  intro j
  rw [Nat.testBit_xor, pkN_bit n g hg, pkN_bit n h hh, pkN_bit n _ (fun i hi => Nat.xor_lt_two_pow (hg i hi) (hh i hi)), Nat.testBit_xor]
  cases decide (j / 64 < n) <;> simp
/-- a shift to the right, and the low 32 bits -/
theorem pkN_shr {n : Nat} {g : Nat → Nat} (hg : ∀ i, i < n → g i < 2 ^ 64) (k : Nat) (hk : k ≤ 32) : (pkN n g >>> k) &&& pkN n (fun _ => 4294967295) = pkN n (fun i => (g i >>> k) &&& 4294967295) := by
  have hm : ∀ x : Nat, x &&& 4294967295 < 2 ^ 64 := fun x => Nat.and_lt_two_pow x (by decide)
  apply Nat.eq_of_testBit_eq
  intro j
  rw [Nat.testBit_and, Nat.testBit_shiftRight, pkN_bit n g hg, pkN_bit n (fun _ => 4294967295) (fun _ _ => by decide), pkN_bit n _ (fun i hi => hm _), Nat.testBit_and, Nat.testBit_shiftRight]
  have e32 : (4294967295 : Nat) = 2 ^ 32 - 1 := rfl
  rw [e32, Nat.testBit_two_pow_sub_one]
  by_cases hj : j % 64 < 32
  · have e1 : (k + j) / 64 = j / 64 := by omega
    have e2 : (k + j) % 64 = k + j % 64 := by omega
    rw [e1, e2]
    cases decide (j / 64 < n) <;> simp
  · simp [hj]
end Go.Proofs.YtkchalnohkfhbaaDoor
