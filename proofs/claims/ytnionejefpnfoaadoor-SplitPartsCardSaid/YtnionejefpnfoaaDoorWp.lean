/- Plain facts on the encoding of integers: its digits, its length, its bytes. Nothing of the program stands here. -/
import Derived.Test.YtnionejefpnfoaaDoorMem
import Derived.PlainAid
import Derived.Laws.BitsAllLaws
namespace Go.Proofs.YtnionejefpnfoaaDoor
open Go.RowKit

/-- the number of digits to the base 256 (of numbers below 256^8) -/
def ndF : Nat → Nat → Nat
  | 0, _ => 0
  | f + 1, m => if m = 0 then 0 else ndF f (m / 256) + 1
def nd (m : Nat) : Nat := ndF 8 m
theorem ndF_spec : ∀ (f m : Nat), m < 256 ^ f → m < 256 ^ ndF f m ∧ ndF f m ≤ f ∧ (0 < ndF f m → 256 ^ (ndF f m - 1) ≤ m)
  | 0, m, h => by simp [ndF] at *; omega
  | f + 1, m, h => by
    unfold ndF
    by_cases h0 : m = 0
    · rw [if_pos h0]; simp [h0]
    · rw [if_neg h0]
      have h1 : m / 256 < 256 ^ f := by rw [Nat.div_lt_iff_lt_mul (by omega)]; rw [Nat.pow_succ] at h; exact h
      obtain ⟨a, b, c⟩ := ndF_spec f (m / 256) h1
      refine ⟨?_, by omega, fun _ => ?_⟩
      · rw [Nat.pow_succ, ← Nat.div_lt_iff_lt_mul (by omega)]; exact a
      · rw [Nat.add_sub_cancel]
        rcases Nat.eq_zero_or_pos (ndF f (m / 256)) with hz | hz
        · rw [hz]; simp; omega
        · have := c hz
          have e : ndF f (m / 256) = ndF f (m / 256) - 1 + 1 := by omega
          rw [e, Nat.pow_succ]
          exact (Nat.le_div_iff_mul_le (by omega)).1 this
theorem nd_spec {m : Nat} (h : m < 9223372036854775808) : m < 256 ^ nd m ∧ nd m ≤ 8 ∧ (0 < nd m → 256 ^ (nd m - 1) ≤ m) :=
  ndF_spec 8 m (Nat.lt_trans h (by decide))
/-- the number of digits is known by its bounds -/
theorem nd_of {m j : Nat} (hm : m < 9223372036854775808) (h1 : m < 256 ^ j) (h2 : 0 < j → 256 ^ (j - 1) ≤ m) : nd m = j := by
  obtain ⟨a, -, c⟩ := nd_spec hm
  rcases Nat.lt_trichotomy (nd m) j with h | h | h
  · have := h2 (by omega)
    have : 256 ^ nd m ≤ 256 ^ (j - 1) := Nat.pow_le_pow_right (by omega) (by omega)
    omega
  · exact h
  · have := c (by omega)
    have : 256 ^ j ≤ 256 ^ (nd m - 1) := Nat.pow_le_pow_right (by omega) (by omega)
    omega
theorem nd_zero {m : Nat} (hm : m < 9223372036854775808) : nd m = 0 ↔ m = 0 := by
  obtain ⟨a, -, c⟩ := nd_spec hm
  constructor
  · intro h; rw [h] at a; simpa using a
  · intro h; subst h; rfl

/-- a byte out of a number -/
def byt (x : Nat) : UInt8 := UInt8.ofNat x
theorem byt_toNat {x : Nat} (h : x < 256) : (byt x).toNat = x := by
  unfold byt; rw [UInt8.toNat_ofNat']; exact Nat.mod_eq_of_lt (by simpa using h)
theorem byt_inj {x y : Nat} (hx : x < 256) (hy : y < 256) (h : byt x = byt y) : x = y := by
  have := congrArg UInt8.toNat h; rwa [byt_toNat hx, byt_toNat hy] at this
theorem byt_of (b : UInt8) : byt b.toNat = b := by unfold byt; exact UInt8.ofNat_toNat

/-- the size of a number without its sign: n, or -1 - n -/
def mag (n : Int) : Nat := if n < 0 then (-1 - n).toNat else n.toNat
theorem mag_lt {n : Int} (h1 : -9223372036854775808 ≤ n) (h2 : n ≤ 9223372036854775807) : mag n < 9223372036854775808 := by unfold mag; split <;> omega
/-- the digit r of j, the greatest first -/
def dig (m j r : Nat) : Nat := m / 256 ^ (j - 1 - r) % 256
theorem dig_lt (m j r : Nat) : dig m j r < 256 := Nat.mod_lt _ (by omega)
/-- a digit as it is written -/
def flp (n : Int) (d : Nat) : Nat := if n < 0 then 255 - d else d
theorem flp_lt (n : Int) {d : Nat} (h : d < 256) : flp n d < 256 := by unfold flp; split <;> omega
def headB (n : Int) (j : Nat) : Nat := if n < 0 then 127 - j else 128 + j
theorem headB_lt (n : Int) {j : Nat} (h : j ≤ 8) : headB n j < 256 := by unfold headB; split <;> omega
/-- the bytes of the first r digits of j -/
def digsTo (n : Int) (j r : Nat) : List UInt8 := (List.range r).map fun i => byt (flp n (dig (mag n) j i))
theorem digsTo_succ (n : Int) (j r : Nat) : digsTo n j (r + 1) = digsTo n j r ++ [byt (flp n (dig (mag n) j r))] := by simp [digsTo, List.range_succ]
theorem digsTo_length (n : Int) (j r : Nat) : (digsTo n j r).length = r := by simp [digsTo]
/-- THE ENCODING OF AN INTEGER -/
def encInt (n : Int) : List UInt8 := byt (headB n (nd (mag n))) :: digsTo n (nd (mag n)) (nd (mag n))
theorem encInt_length (n : Int) : (encInt n).length = nd (mag n) + 1 := by simp [encInt, digsTo_length]

/-- bytes as cells -/
def bytesV (l : List UInt8) : List Value := l.map fun b => .int .u8 (b.toNat : Int)
theorem bytesV_length (l : List UInt8) : (bytesV l).length = l.length := by simp [bytesV]
theorem bytesV_append (l r : List UInt8) : bytesV (l ++ r) = bytesV l ++ bytesV r := by simp [bytesV]
theorem bytesV_cons (b : UInt8) (l : List UInt8) : bytesV (b :: l) = .int .u8 (b.toNat : Int) :: bytesV l := rfl
theorem bytesV_nil : bytesV [] = [] := rfl
theorem bytesV_one (l : List UInt8) : ∀ u ∈ bytesV l, u.oneCell' = true := by
  intro u hu
  obtain ⟨b, -, rfl⟩ := List.mem_map.1 hu
  rfl
theorem bytesV_get (l : List UInt8) (k : Nat) : (bytesV l)[k]? = l[k]?.map fun b => .int .u8 (b.toNat : Int) := by simp [bytesV]
/-- a byte's cell -/
theorem Reads.byte_at {w : World} {B : Nat} {A : Option Addr} {n k : Nat} {l : List UInt8} (h : Reads w B 1 A n (bytesV l)) (hk : k < n) :
    ∃ ad, A = some ad ∧ ad.block < B ∧ k < l.length ∧ w.cell? (ad.add k) = some (.int .u8 ((l[k]?.getD 0).toNat : Int)) := by
  obtain ⟨ad, u, h1, h2, h3, h4⟩ := h.at_ hk
  have hl : k < l.length := by have := h.1; rw [bytesV_length] at this; omega
  refine ⟨ad, h1, h2, hl, ?_⟩
  rw [h4, ← h3, bytesV_get]
  simp [List.getElem?_eq_getElem hl]
theorem Reads.byte_len {w : World} {B : Nat} {A : Option Addr} {n : Nat} {l : List UInt8} (h : Reads w B 1 A n (bytesV l)) : l.length = n := by
  have := h.1; rw [bytesV_length] at this; omega
theorem own_reads1 {w : World} {base n : Nat} {e : TypeId} {v : Value} {l : List Value} (h : w.ownsRow base e 1 v n l) : ∃ A c, v = .slice A n c ∧ Reads w w.heap.size 1 A n l := by
  obtain ⟨A, c, rfl, -, -, -⟩ := own_slice h
  exact ⟨A, c, rfl, Reads.of_own h⟩

theorem xor_ones (k b : Nat) (h : b < 2 ^ k) : (2 ^ k - 1) ^^^ b = 2 ^ k - 1 - b := by
  have h1 : (~~~(BitVec.ofNat k b)).toNat = (BitVec.allOnes k ^^^ BitVec.ofNat k b).toNat := by rw [BitVec.allOnes_xor]
  rw [BitVec.toNat_not, BitVec.toNat_xor, BitVec.toNat_allOnes, BitVec.toNat_ofNat, Nat.mod_eq_of_lt h] at h1
  exact h1.symm
theorem xor8_255 {x : Int} (h1 : 0 ≤ x) (h2 : x < 256) : bits .xor .u8 x 255 = 255 - x := by
  obtain ⟨X, rfl⟩ := Int.eq_ofNat_of_zero_le h1
  have := u8_xor_nat X 255 (by omega) (by omega)
  rw [show ((255 : Nat) : Int) = 255 from rfl] at this
  rw [this, Nat.xor_comm, xor_ones 8 X (by omega)]
  omega
theorem xor8_0 {x : Int} (h1 : 0 ≤ x) (h2 : x < 256) : bits .xor .u8 x 0 = x := by
  obtain ⟨X, rfl⟩ := Int.eq_ofNat_of_zero_le h1
  have := u8_xor_nat X 0 (by omega) (by omega)
  rw [show ((0 : Nat) : Int) = 0 from rfl] at this
  rw [this, Nat.xor_zero]
/-- '^uint64(n)' of a negative n -/
theorem not64 {n : Int} (h1 : -9223372036854775808 ≤ n) (h2 : n < 0) : bits .xor .u64 IntKind.u64.max (IntKind.u64.wrap n) = (mag n : Int) := by
  rw [show IntKind.u64.wrap n = n + 18446744073709551616 by rw [IntKind.wrap_u64]; omega, show IntKind.u64.max = 18446744073709551615 from by decide]
  obtain ⟨X, hX⟩ := Int.eq_ofNat_of_zero_le (show 0 ≤ n + 18446744073709551616 by omega)
  rw [hX]
  have := u64_xor_nat 18446744073709551615 X (by omega) (by omega)
  rw [show ((18446744073709551615 : Nat) : Int) = 18446744073709551615 from rfl] at this
  rw [this, xor_ones 64 X (by omega)]
  unfold mag; rw [if_pos h2]; omega
theorem mag_pos {n : Int} (h : 0 ≤ n) : (mag n : Int) = n := by unfold mag; rw [if_neg (by omega)]; omega
theorem mag_neg {n : Int} (h : n < 0) : (mag n : Int) = -1 - n := by unfold mag; rw [if_pos h]; omega

/-- a slice literal's block is a row of the call's own -/
theorem own_new (w : World) (e : TypeId) (cs : Array Value) (base : Nat) (hb : base ≤ w.heap.size) (hm : cs.size ≤ maxLen) :
    (w.alloc (.cells cs e)).ownsRow base e 1 (.slice (some ⟨w.heap.size, 0, none⟩) cs.size cs.size) cs.size cs.toList :=
  ⟨by simp, .inr ⟨w.heap.size, cs.size, cs, rfl, hb, heap_alloc_new w _, Nat.le_refl _, hm, by simp, by rw [Nat.mul_one]; exact List.take_of_length_le (by simp)⟩⟩
theorem below_more {b : Nat} {w w' : World} (h : Below b w w') (hb : b ≤ w.heap.size) (o : Obj) : Below b w (w'.alloc o) := h.alloc (Nat.le_trans hb h.size) o
/-- the worlds that differ by draws alone -/
def Drawn (w w' : World) : Prop := ∃ n, w' = w.drewN n
theorem Drawn.below {w w' : World} (h : Drawn w w') (b : Nat) : Below b w w' := by
  obtain ⟨n, rfl⟩ := h
  exact below_drewN' (Below.refl _ _) n
theorem ret_two {a b a' b' : Value} (h : a = a') (k : b = b') : Ending.returned (.tuple #[a, b]) = .returned (.tuple #[a', b']) := by rw [h, k]
end Go.Proofs.YtnionejefpnfoaaDoor
