/- The small functions that the noise laws reach: what each returns, and that it changes nothing. Conditions: the ranges that each theorem states. -/
import Derived.Test.YtbofbihpmhkppaaProg
import Derived.Test.YtbofbihpmhkppaaMem
import Derived.WalkKit
import Derived.WalkSpells
import Derived.WalkLawsBesides
import Derived.BigQuiet
import Derived.Deep.QuietTactic
import Derived.Lib.Hide
import Derived.Outline
namespace Go.Proofs.Ytbofbihpmhkppaa
open Go.RowKit

/-- What Around gives. -/
def around (n m : Int) : Int := if m < 1 then 0 else (if n < 0 then -(n + 1) else n) % m
theorem around_lt (n m : Int) (h : 1 ≤ m) : 0 ≤ around n m ∧ around n m < m := by
  unfold around; rw [if_neg (by omega)]
  exact ⟨Int.emod_nonneg _ (by omega), Int.emod_lt_of_pos _ (by omega)⟩
theorem around_zero (n m : Int) (h : m < 1) : around n m = 0 := by unfold around; rw [if_pos h]
theorem around_neg (n m : Int) (h1 : n < 0) (h2 : ¬ m < 1) : -(n + 1).tmod m = around n m := by
  unfold around; rw [if_neg h2, if_pos h1, ← Int.neg_tmod, Int.tmod_eq_emod_of_nonneg (by omega)]
theorem around_pos (n m : Int) (h1 : ¬ n < 0) (h2 : ¬ m < 1) : n % m = around n m := by
  unfold around; rw [if_neg h2, if_neg h1]

theorem around_any (n m : Int) (w : World) (hn1 : -9223372036854775808 ≤ n) (hn2 : n ≤ 9223372036854775807) (hm1 : -9223372036854775808 ≤ m) (hm2 : m ≤ 9223372036854775807) :
    Calls Try.prog 20 #[.int .i64 n, .int .i64 m] w fun e w' => e = .returned (.int .i64 (around n m)) ∧ w = w' := by
  by_cases h1 : n < 0 <;> by_cases h2 : m < 1
  all_goals
    go_enter Try.func20, Try.ntmps20
    go_wp2
    go_ret
  · exact ⟨ret_i64 (around_zero _ _ h2).symm, rfl⟩
  · exact ⟨ret_i64 (around_neg _ _ h1 (by omega)), rfl⟩
  · exact ⟨ret_i64 (around_zero _ _ h2).symm, rfl⟩
  · exact ⟨ret_i64 (around_pos _ _ (by omega) (by omega)), rfl⟩

theorem pow_bound (k : Nat) (h : k < 60) : 1 ≤ (2 : Int) ^ k ∧ (2 : Int) ^ k ≤ 576460752303423488 := by
  have : (2 : Nat) ^ k ≤ 2 ^ 59 := Nat.pow_le_pow_right (by omega) (by omega)
  have h1 : 1 ≤ (2 : Nat) ^ k := Nat.one_le_two_pow
  have e : ((2 : Int) ^ k) = ((2 ^ k : Nat) : Int) := by simp
  rw [e]; constructor
  · exact_mod_cast h1
  · have : (2 : Nat) ^ 59 = 576460752303423488 := by decide
    omega

theorem power_any (n : Int) (w : World) (h0 : 0 ≤ n) (h1 : n ≤ 60) :
    Calls Try.prog 53 #[.int .i64 n] w fun e w' => e = .returned (.int .i64 (2 ^ n.toNat)) ∧ w = w' := by
  go_enter Try.func53, Try.ntmps53
  go_wp2
  go_loop [3, 4] (fun o i => ∃ k : Nat, (k : Int) ≤ n ∧ i = .int .i64 k ∧ o = .int .i64 (2 ^ k)) (fun _ i => n.toNat - (intOf i).toNat)
  case atStart => exact ⟨0, by omega, rfl, rfl⟩
  case round =>
    obtain ⟨k, hk, rfl, rfl⟩ := hrel
    by_cases hlt : (k : Int) < n
    · have hb := pow_bound k (by omega)
      go_wp2
      go_round
      case rel => exact ⟨k + 1, by omega, by go_num, by rw [Int.pow_succ]⟩
      case measure => simp [intOf]; omega
    · go_wp2
      go_ret
      exact ⟨ret_i64 (by rw [show n.toNat = k by omega]), rfl⟩

/-- The numbers of a hiding and a count that are valid. -/
structure Okay (c m k : Int) : Prop where
  m1 : 1 ≤ m
  m2 : m ≤ 37
  k1 : 1 ≤ k
  k2 : k ≤ 12
  km : k * (m + 1) ≤ 38
  c1 : 0 ≤ c
  c2 : c ≤ m

def okB (c m k : Int) : Bool := decide (1 ≤ m ∧ m ≤ 37 ∧ 1 ≤ k ∧ k ≤ 12 ∧ k * (m + 1) ≤ 38 ∧ 0 ≤ c ∧ c ≤ m)
theorem okB_iff {c m k : Int} : okB c m k = true ↔ Okay c m k := by
  unfold okB; rw [decide_eq_true_iff]
  exact ⟨fun ⟨a, b, c, d, e, f, g⟩ => ⟨a, b, c, d, e, f, g⟩, fun h => ⟨h.m1, h.m2, h.k1, h.k2, h.km, h.c1, h.c2⟩⟩
theorem mul_small {m k : Int} (a : 1 ≤ m) (b : m ≤ 37) (c : 1 ≤ k) (d : k ≤ 12) : 0 ≤ k * (m + 1) ∧ k * (m + 1) ≤ 456 := by
  constructor
  · exact Int.mul_nonneg (by omega) (by omega)
  · calc k * (m + 1) ≤ 12 * (m + 1) := Int.mul_le_mul_of_nonneg_right d (by omega)
      _ ≤ 456 := by omega
theorem wrap64_small {m k : Int} (a : 1 ≤ m) (b : m ≤ 37) (c : 1 ≤ k) (d : k ≤ 12) : wrap64 (k * (m + 1)) = k * (m + 1) := by
  have := mul_small a b c d
  unfold wrap64; omega

theorem valid_any (c m k : Int) (w : World) :
    Calls Try.prog 50 #[.agg #[.int .i64 c, .int .i64 m, .int .i64 k]] w fun e w' => e = .returned (.bool (okB c m k)) ∧ w.alloc (.cells #[.int .i64 c, .int .i64 m, .int .i64 k] 73) = w' := by
  go_enter Try.func50, Try.ntmps50
  go_wp2
  all_goals
    go_ret
    refine ⟨ret_bool ?_, rfl⟩
    symm
    unfold okB
    try have e := mul_small (m := m) (k := k) (by assumption) (by assumption) (by assumption) (by assumption)
    try unfold wrap64 at *
    first
      | (rw [decide_eq_false_iff_not]; intro h; omega)
      | (rw [decide_eq_decide]
         constructor
         · intro h; omega
         · intro h; exact ⟨by omega, by omega, by omega, by omega, by omega, by omega, by omega⟩)

/-- Fits -/
def fitsB (m k : Int) : Bool := decide (1 ≤ m ∧ m ≤ 37 ∧ 1 ≤ k ∧ k ≤ 12 ∧ k * (m + 1) ≤ 38)
theorem fits_any (m k : Int) (w : World) :
    Calls Try.prog 52 #[.int .i64 m, .int .i64 k] w fun e w' => e = .returned (.bool (fitsB m k)) ∧ w = w' := by
  go_enter Try.func52, Try.ntmps52
  go_wp2
  all_goals
    go_ret
    refine ⟨ret_bool ?_, rfl⟩
    symm
    unfold fitsB
    try have e := mul_small (m := m) (k := k) (by assumption) (by assumption) (by assumption) (by assumption)
    try unfold wrap64 at *
    first
      | (rw [decide_eq_false_iff_not]; intro h; omega)
      | (rw [decide_eq_decide]
         constructor
         · intro h; omega
         · intro h; exact ⟨by omega, by omega, by omega, by omega, by omega⟩)

/-- the weight -/
def dist (c x : Int) : Int := if x < c then c - x else x - c
def wt (c m k x : Int) : Int := 2 ^ (k * (m - dist c x)).toNat * (if x = 0 ∨ x = m then 2 ^ k.toNat else 2 ^ k.toNat - 1)
theorem exp_bound {c m k x : Int} (h : Okay c m k) (h8 : 0 ≤ x) (h9 : x ≤ m) : 0 ≤ k * (m - dist c x) ∧ k * (m - dist c x) + k ≤ 38 := by
  have hd : 0 ≤ m - dist c x ∧ m - dist c x ≤ m := by have := h.c1; have := h.c2; unfold dist; split <;> omega
  constructor
  · exact Int.mul_nonneg (by have := h.k1; omega) hd.1
  · have : k * (m - dist c x) ≤ k * m := Int.mul_le_mul_of_nonneg_left hd.2 (by have := h.k1; omega)
    have e : k * (m + 1) = k * m + k := by rw [Int.mul_add]; omega
    have := h.km
    omega
theorem wt_end (c m k x : Int) (h : (x == 0) = true ∨ (x == m) = true) : wt c m k x = 2 ^ (k * (m - dist c x)).toNat * 2 ^ k.toNat := by
  unfold wt; rw [if_pos (by simpa using h)]
theorem wt_mid (c m k x : Int) (h : (x == 0) = false ∧ (x == m) = false) : wt c m k x = 2 ^ (k * (m - dist c x)).toNat * (2 ^ k.toNat - 1) := by
  unfold wt; rw [if_neg (by simpa using h)]
theorem wrap_mid {A B : Int} (h1 : 1 ≤ A) (h2 : 1 ≤ B) (h3 : A * B ≤ 576460752303423488) : wrap64 (A * (B - 1)) = A * (B - 1) := by
  have h4 : 0 ≤ A * (B - 1) := Int.mul_nonneg (by omega) (by omega)
  have h5 : A * (B - 1) = A * B - A := by rw [Int.mul_sub]; omega
  unfold wrap64; omega
theorem weight_any (c m k x : Int) (w : World) (h : Okay c m k) (h8 : 0 ≤ x) (h9 : x ≤ m) :
    Calls Try.prog 54 #[.agg #[.int .i64 c, .int .i64 m, .int .i64 k], .int .i64 x] w fun e w' => e = .returned (.int .i64 (wt c m k x)) ∧ w.alloc (.cells #[.int .i64 c, .int .i64 m, .int .i64 k] 73) = w' := by
  obtain ⟨hm1, hm2, hk1, hk2, hkm, hc1, hc2⟩ := h
  obtain ⟨he1, he2⟩ := exp_bound ⟨hm1, hm2, hk1, hk2, hkm, hc1, hc2⟩ h8 h9
  have hb1 := pow_bound (k * (m - dist c x)).toNat (by omega)
  have hb2 := pow_bound k.toNat (by omega)
  have hb3 := pow_bound ((k * (m - dist c x)).toNat + k.toNat) (by omega)
  rw [Int.pow_add] at hb3
  clear hkm
  have hE := wt_end c m k x
  have hM := wt_mid c m k x
  by_cases hx : x < c
  · have hd : dist c x = c - x := if_pos hx
    rw [hd] at he1 he2 hb1 hb3 hE hM
    clear hd
    have HE := Lib.hid hE
    have HM := Lib.hid hM
    clear hE hM
    cases h0 : (x == 0) <;> cases h1 : (x == m)
    all_goals
      go_enter Try.func54, Try.ntmps54
      go_wp2
      go_ret
    · exact ⟨ret_i64 ((wrap_mid hb1.1 hb2.1 hb3.2).trans (HM.out ⟨h0, h1⟩).symm), rfl⟩
    · exact ⟨ret_i64 (HE.out (.inr h1)).symm, rfl⟩
    · exact ⟨ret_i64 (HE.out (.inl h0)).symm, rfl⟩
    · exact ⟨ret_i64 (HE.out (.inl h0)).symm, rfl⟩
  · have hd : dist c x = x - c := if_neg hx
    rw [hd] at he1 he2 hb1 hb3 hE hM
    clear hd
    have HE := Lib.hid hE
    have HM := Lib.hid hM
    clear hE hM
    cases h0 : (x == 0) <;> cases h1 : (x == m)
    all_goals
      go_enter Try.func54, Try.ntmps54
      go_wp2
      go_ret
    · exact ⟨ret_i64 ((wrap_mid hb1.1 hb2.1 hb3.2).trans (HM.out ⟨h0, h1⟩).symm), rfl⟩
    · exact ⟨ret_i64 (HE.out (.inr h1)).symm, rfl⟩
    · exact ⟨ret_i64 (HE.out (.inl h0)).symm, rfl⟩
    · exact ⟨ret_i64 (HE.out (.inl h0)).symm, rfl⟩
end Go.Proofs.Ytbofbihpmhkppaa
