/- Plain laws: exclusive or on numbers, a network of four rounds is a permutation, and walking it ends. No condition; nothing of the program stands here. -/
import Derived.Laws.BitsAll
namespace Go.Proofs.YtnionejefpnfoaaDoor

theorem ofInt_i64 (a : Nat) (ha : a < 9223372036854775808) : (BitVec.ofInt 64 (a : Int)).toNat = a := by
  rw [BitVec.ofInt_natCast, BitVec.toNat_ofNat]; exact Nat.mod_eq_of_lt (by omega)
theorem i64_or_nat (a b : Nat) (ha : a < 9223372036854775808) (hb : b < 9223372036854775808) : bits .or .i64 (a : Int) (b : Int) = ((a ||| b : Nat) : Int) := by
  have hx : a ||| b < 2 ^ 63 := Nat.or_lt_two_pow (by omega) (by omega)
  show IntKind.i64.wrap ((BitVec.ofInt 64 (a : Int) ||| BitVec.ofInt 64 (b : Int)).toNat : Int) = _
  rw [BitVec.toNat_or, ofInt_i64 a ha, ofInt_i64 b hb]
  simp [IntKind.wrap, IntKind.signed, IntKind.bits]
  omega
theorem i64_xor_nat (a b : Nat) (ha : a < 9223372036854775808) (hb : b < 9223372036854775808) : bits .xor .i64 (a : Int) (b : Int) = ((a ^^^ b : Nat) : Int) := by
  have hx : a ^^^ b < 2 ^ 63 := Nat.xor_lt_two_pow (by omega) (by omega)
  show IntKind.i64.wrap ((BitVec.ofInt 64 (a : Int) ^^^ BitVec.ofInt 64 (b : Int)).toNat : Int) = _
  rw [BitVec.toNat_xor, ofInt_i64 a ha, ofInt_i64 b hb]
  simp [IntKind.wrap, IntKind.signed, IntKind.bits]
  omega
theorem or_byte63 (M d : Nat) (hM : M < 1099511627776) (hd : d < 256) : bits .or .i64 ((M : Int) * 256) (d : Int) = ((M * 256 + d : Nat) : Int) := by
  have := i64_or_nat (M * 256) d (by omega) (by omega)
  have e : ((M * 256 : Nat) : Int) = (M : Int) * 256 := by omega
  rw [e] at this
  rw [this, Nat.mul_comm M 256, ← Nat.two_pow_add_eq_or_of_lt (i := 8) hd M]

end Go.Proofs.YtnionejefpnfoaaDoor
