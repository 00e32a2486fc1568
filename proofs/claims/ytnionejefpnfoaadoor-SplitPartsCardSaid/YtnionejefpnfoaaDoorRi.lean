/- The reference's Int returns the encoding of its number. Conditions: the number is one of 64 bits. -/
import Derived.Test.YtnionejefpnfoaaDoorWi
namespace Go.Proofs.YtnionejefpnfoaaDoor
open Go.RowKit

/-- the low digits, the least first -/
def lowTo (m i : Nat) : List UInt8 := (List.range i).map fun r => byt (m / 256 ^ r % 256)
theorem lowTo_succ (m i : Nat) : lowTo m (i + 1) = lowTo m i ++ [byt (m / 256 ^ i % 256)] := by simp [lowTo, List.range_succ]
theorem lowTo_length (m i : Nat) : (lowTo m i).length = i := by simp [lowTo]
theorem lowTo_get (m i k : Nat) (h : k < i) : (lowTo m i)[k]?.getD 0 = byt (m / 256 ^ k % 256) := by simp [lowTo, List.getElem?_map, List.getElem?_range h]
theorem low_byte {q m i : Nat} (h : q = m / 256 ^ i) : (q : Int) % 256 = ((byt (m / 256 ^ i % 256)).toNat : Int) := by
  rw [← h, byt_toNat (Nat.mod_lt _ (by omega))]; omega
theorem low_le {q m i : Nat} (h : q = m / 256 ^ i) (h0 : 0 < q) : 256 ^ (i + 1 - 1) ≤ m := by
  rw [Nat.add_sub_cancel]
  have := (Nat.le_div_iff_mul_le (Nat.pow_pos (by omega : 0 < 256))).1 (show 1 ≤ m / 256 ^ i by omega)
  omega
theorem low_end {q m i : Nat} (h : q = m / 256 ^ i) (h0 : q = 0) : m < 256 ^ i := by
  have := (Nat.div_lt_iff_lt_mul (Nat.pow_pos (by omega : 0 < 256))).1 (show m / 256 ^ i < 1 by omega)
  omega
theorem low_i {q m i : Nat} (hm : m < 9223372036854775808) (h : q = m / 256 ^ i) (h0 : 0 < q) : i < 8 := by
  have h1 := low_le h h0
  rw [Nat.add_sub_cancel] at h1
  rcases Nat.lt_or_ge i 8 with h2 | h2
  · exact h2
  · have := Nat.pow_le_pow_right (n := 256) (by omega) h2
    have e : 256 ^ 8 = 18446744073709551616 := by decide
    omega
theorem byt_bound (x : Nat) : 0 ≤ ((byt x).toNat : Int) ∧ ((byt x).toNat : Int) ≤ 255 := by
  have := (byt x).toNat_lt; omega
theorem flp_neg {n : Int} (h : n < 0) (i r : Nat) : (255 : Int) - ((byt (mag n / 256 ^ (i - 1 - r) % 256)).toNat : Int) = ((byt (flp n (dig (mag n) i r))).toNat : Int) := by
  have hl := dig_lt (mag n) i r
  rw [byt_toNat (flp_lt n hl), byt_toNat (Nat.mod_lt _ (by omega))]
  unfold flp; rw [if_pos h]
  unfold dig at *; omega
theorem flp_pos (N i r : Nat) : 0 + ((byt (N / 256 ^ (i - 1 - r) % 256)).toNat : Int) = ((byt (flp (N : Int) (dig (mag (N : Int)) i r))).toNat : Int) := by
  have hl := dig_lt N i r
  rw [mag_nat, byt_toNat (flp_lt _ hl), byt_toNat (Nat.mod_lt _ (by omega))]
  unfold flp; rw [if_neg (by omega)]
  unfold dig; omega
theorem own_le {w : World} {base base' n size : Nat} {e : TypeId} {v : Value} {xs : List Value} (h : w.ownsRow base e size v n xs) (hb : base' ≤ base) : w.ownsRow base' e size v n xs := by
  refine ⟨h.1, ?_⟩
  rcases h.2 with h | ⟨g, cap, cur, h1, h2, h3⟩
  · exact .inl h
  · exact .inr ⟨g, cap, cur, h1, by omega, h3⟩

end Go.Proofs.YtnionejefpnfoaaDoor
