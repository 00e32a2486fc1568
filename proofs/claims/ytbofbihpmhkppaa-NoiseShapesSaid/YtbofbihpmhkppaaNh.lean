/- Plain facts on the weights: their sum, the mirrored ones, their order. -/
import Derived.Test.YtbofbihpmhkppaaNe
namespace Go.Proofs.Ytbofbihpmhkppaa
open Go.RowKit

theorem wt_mirror {t m k x : Int} : wt (m - t) m k (m - x) = wt t m k x := by
  have e : dist (m - t) (m - x) = dist t x := by unfold dist; (repeat' split) <;> omega
  unfold wt
  rw [e]
  have h : (m - x = 0 ∨ m - x = m) ↔ (x = 0 ∨ x = m) := by omega
  simp only [h]

theorem wt_mono {t m k x y : Int} (h : Okay t m k) (hx : 1 ≤ x ∧ x < m) (hy : 1 ≤ y ∧ y < m) (hd : dist t y ≤ dist t x) : wt t m k x ≤ wt t m k y := by
  have ax := exp_bound h (x := x) (by omega) (by omega)
  have ay := exp_bound h (x := y) (by omega) (by omega)
  have hk := h.k1
  unfold wt
  rw [if_neg (by omega), if_neg (by omega)]
  have hb := pow_bound k.toNat (by have := h.k2; omega)
  refine Int.mul_le_mul_of_nonneg_right ?_ (by omega)
  have he : (k * (m - dist t x)).toNat ≤ (k * (m - dist t y)).toNat := by
    have : k * (m - dist t x) ≤ k * (m - dist t y) := Int.mul_le_mul_of_nonneg_left (by omega) (by omega)
    omega
  have e : ∀ n : Nat, ((2 : Int) ^ n) = ((2 ^ n : Nat) : Int) := fun n => by simp
  rw [e, e]
  have := Nat.pow_le_pow_right (n := 2) (by omega) he
  omega

/-- the weights by powers of B = 2^k -/
theorem wt_pow {t m k : Nat} {x : Nat} (hx : x ≤ m) (ht : t ≤ m) : wt t m k x = ((2 : Int) ^ k) ^ (m - (if x < t then t - x else x - t)) * (if x = 0 ∨ x = m then (2 : Int) ^ k else 2 ^ k - 1) := by
  have e : ((k : Int) * ((m : Int) - dist t x)).toNat = k * (m - (if x < t then t - x else x - t)) := by
    have h : (m : Int) - dist t x = ((m - (if x < t then t - x else x - t) : Nat) : Int) := by unfold dist; split <;> split <;> omega
    rw [h, ← Int.natCast_mul, Int.toNat_natCast]
  unfold wt
  rw [e, Int.pow_mul, Int.toNat_natCast]
  have h : ((x : Int) = 0 ∨ (x : Int) = m) ↔ (x = 0 ∨ x = m) := by omega
  simp only [h]

theorem psucc (B : Int) (x : Nat) : B ^ x * B = B ^ (x + 1) := (Int.pow_succ B x).symm
/-- the sum of the first j + 1 weights -/
theorem sum_pre {t m k : Nat} (ht : t ≤ m) (hm : 1 ≤ m) (B : Int) (hB : B = 2 ^ k) : ∀ j : Nat, j ≤ m →
    sumL ((List.range (j + 1)).map fun i : Nat => wt t m k i) = if j = m then B ^ (m + 1) + B ^ m else if j < t then B ^ (m - t + j + 1) else B ^ (m + 1) + B ^ m - B ^ (m - j + t)
  | 0, _ => by
    have e := wt_pow (k := k) (show 0 ≤ m by omega) ht
    rw [← hB, if_pos (Or.inl rfl)] at e
    rw [if_neg (by omega)]
    have es : sumL ((List.range (0 + 1)).map fun i : Nat => wt t m k i) = wt t m k (0 : Nat) := by simp [sumL, List.range_succ]
    rw [es, e]
    by_cases h : 0 < t
    · rw [if_pos h, if_pos h, psucc]
      congr 1
    · rw [if_neg h, if_neg h, psucc]
      have ht0 : t = 0 := by omega
      subst ht0
      simp only [Nat.sub_zero, Nat.add_zero]
      omega
  | j + 1, hj => by
    have ih := sum_pre ht hm B hB j (by omega)
    rw [List.range_succ, List.map_append, List.map_cons, List.map_nil, sumL_snoc, ih, if_neg (by omega)]
    have e := wt_pow (k := k) (show j + 1 ≤ m by omega) ht
    rw [← hB] at e
    have e' : wt (t : Int) m k ((j + 1 : Nat) : Int) = wt t m k ((j + 1 : Nat) : Int) := rfl
    rw [e]
    clear e e' ih
    by_cases hend : j + 1 = m
    · rw [if_pos (Or.inr hend), if_pos hend, psucc]
      by_cases h : j < t
      · rw [if_pos h]
        have h2 : t = m := by omega
        rw [if_neg (show ¬ j + 1 < t by omega)]
        have e1 : m - t + j + 1 = m := by omega
        have e2 : m - (j + 1 - t) + 1 = m + 1 := by omega
        rw [e1, e2]; omega
      · rw [if_neg h, if_neg (show ¬ j + 1 < t by omega)]
        have e1 : m - j + t = t + 1 := by omega
        have e2 : m - (j + 1 - t) + 1 = t + 1 := by omega
        rw [e1, e2]; omega
    · rw [if_neg (show ¬ (j + 1 = 0 ∨ j + 1 = m) by omega), if_neg hend]
      by_cases h : j < t
      · rw [if_pos h]
        by_cases h2 : j + 1 < t
        · rw [if_pos h2, if_pos h2]
          have e1 : m - (t - (j + 1)) = m - t + j + 1 := by omega
          have e2 : m - t + (j + 1) + 1 = (m - t + j + 1) + 1 := by omega
          rw [e1, e2]
          generalize m - t + j + 1 = E
          rw [Int.pow_succ, Int.mul_sub]; omega
        · rw [if_neg h2, if_neg h2]
          have e0 : m - (j + 1 - t) = m := by omega
          have e1 : m - t + j + 1 = m := by omega
          have e2 : m - (j + 1) + t = m := by omega
          rw [e0, e1, e2, Int.pow_succ, Int.mul_sub]; omega
      · rw [if_neg h, if_neg (show ¬ j + 1 < t by omega), if_neg (show ¬ j + 1 < t by omega)]
        have e1 : m - j + t = (m - (j + 1 - t)) + 1 := by omega
        have e2 : m - (j + 1) + t = m - (j + 1 - t) := by omega
        rw [e1, e2]
        generalize B ^ (m + 1) + B ^ m = S
        rw [Int.pow_succ, Int.mul_sub]; omega

theorem sum_all {t m k : Int} (h : Okay t m k) : sumL (wts t m k) = (2 ^ k.toNat + 1) * 2 ^ (k * m).toNat := by
  obtain ⟨h1, h2, h3, h4, h5, h6, h7⟩ := h
  obtain ⟨T, rfl⟩ := Int.eq_ofNat_of_zero_le h6
  obtain ⟨M, rfl⟩ := Int.eq_ofNat_of_zero_le (show 0 ≤ m by omega)
  obtain ⟨K, rfl⟩ := Int.eq_ofNat_of_zero_le (show 0 ≤ k by omega)
  rw [wts_get]
  have e : ((M : Int) + 1).toNat = M + 1 := by omega
  rw [e, sum_pre (t := T) (m := M) (k := K) (by omega) (by omega) (2 ^ K) rfl M (Nat.le_refl _), if_pos rfl, Int.toNat_natCast]
  have e2 : ((K : Int) * (M : Int)).toNat = K * M := by rw [← Int.natCast_mul, Int.toNat_natCast]
  rw [e2, Int.pow_mul, Int.pow_succ, Int.add_mul, Int.mul_comm ((2 ^ K) ^ M) (2 ^ K)]
  omega
end Go.Proofs.Ytbofbihpmhkppaa
