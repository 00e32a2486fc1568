/- The words of SHA-256: 32-bit numbers, how the model's operations act on them; the rotations. No condition. -/
import Derived.Test.YtnionejefpnfoaaDoorWc
namespace Go.Proofs.YtnionejefpnfoaaDoor
open Go.RowKit

/-- a word as a value -/
def w32 (x : UInt32) : Value := .int .u32 (x.toNat : Int)
def w32s (l : List UInt32) : List Value := l.map w32
/-- the operations on words, closed to the simplifier -/
def ow (x y : UInt32) : UInt32 := x ||| y
def xw (x y : UInt32) : UInt32 := x ^^^ y
def nw (x y : UInt32) : UInt32 := x &&& y
def aw (x y : UInt32) : UInt32 := x + y
def cw (x : UInt32) : UInt32 := ~~~x
def lw (x : UInt32) (k : Nat) : UInt32 := x <<< UInt32.ofNat k
def sw (x : UInt32) (k : Nat) : UInt32 := x >>> UInt32.ofNat k
/-- rotation to the right -/
def rotr (x : UInt32) (n : Nat) : UInt32 := ow (lw x (32 - n)) (sw x n)
theorem u32_lt (x : UInt32) : (x.toNat : Int) < 4294967296 := by have := x.toNat_lt; omega
theorem w_or (x y : UInt32) : bits .or .u32 (x.toNat : Int) (y.toNat : Int) = ((ow x y).toNat : Int) := by
  unfold ow; rw [u32_or_nat _ _ (by have := x.toNat_lt; omega) (by have := y.toNat_lt; omega), UInt32.toNat_or]
theorem w_xor (x y : UInt32) : bits .xor .u32 (x.toNat : Int) (y.toNat : Int) = ((xw x y).toNat : Int) := by
  unfold xw; rw [u32_xor_nat _ _ (by have := x.toNat_lt; omega) (by have := y.toNat_lt; omega), UInt32.toNat_xor]
theorem w_and (x y : UInt32) : bits .and .u32 (x.toNat : Int) (y.toNat : Int) = ((nw x y).toNat : Int) := by
  unfold nw; rw [u32_and_nat _ _ (by have := x.toNat_lt; omega) (by have := y.toNat_lt; omega), UInt32.toNat_and]
theorem w_add (x y : UInt32) : ((x.toNat : Int) + (y.toNat : Int)) % 4294967296 = ((aw x y).toNat : Int) := by
  unfold aw; rw [UInt32.toNat_add]; omega
theorem w_addw (x y : UInt32) : IntKind.u32.wrap ((x.toNat : Int) + (y.toNat : Int)) = ((aw x y).toNat : Int) := by
  rw [IntKind.wrap_u32', w_add]
theorem w_not (x : UInt32) : bits .xor .u32 IntKind.u32.max (x.toNat : Int) = ((cw x).toNat : Int) := by
  have h : IntKind.u32.max = ((4294967295 : UInt32).toNat : Int) := by decide
  rw [h, w_xor]
  unfold xw cw
  congr 2
theorem w_shl (x : UInt32) (k : Nat) (hk : k < 32) : (x.toNat : Int) * ((2 ^ k : Nat) : Int) % 4294967296 = ((lw x k).toNat : Int) := by
  unfold lw
  rw [UInt32.toNat_shiftLeft, UInt32.toNat_ofNat', Nat.mod_eq_of_lt (show k < 2 ^ 32 by omega), Nat.mod_eq_of_lt hk, Nat.shiftLeft_eq]
  omega
theorem w_shr (x : UInt32) (k : Nat) (hk : k < 32) : (x.toNat : Int) / ((2 ^ k : Nat) : Int) = ((sw x k).toNat : Int) := by
  unfold sw
  rw [UInt32.toNat_shiftRight, UInt32.toNat_ofNat', Nat.mod_eq_of_lt (show k < 2 ^ 32 by omega), Nat.mod_eq_of_lt hk, Nat.shiftRight_eq_div_pow]
  omega
theorem ret_w32 {a : Int} {b : UInt32} (h : a = (b.toNat : Int)) : Ending.returned (.int .u32 a) = .returned (w32 b) := by rw [h]; rfl

set_option maxRecDepth 100000 in
set_option maxHeartbeats 1000000 in
theorem rot2_any (x : UInt32) (w : World) : Calls Tryd.prog 64 #[.int .u32 (x.toNat : Int), .int .i64 (-2)] w fun e w' => e = .returned (w32 (rotr x 2)) ∧ w = w' := by
  have hx := u32_lt x
  have hb : bits .and .u64 (IntKind.u64.wrap (-2)) 31 = 30 := by kernel_rfl
  go_enter Tryd.func64, Tryd.ntmps64
  go_wp2
  go_ret
  refine ⟨ret_w32 ?_, rfl⟩
  have h1 := w_shl x 30 (by omega)
  have h2 := w_shr x 2 (by omega)
  rw [show ((2 ^ 30 : Nat) : Int) = 1073741824 from rfl] at h1
  rw [show ((2 ^ 2 : Nat) : Int) = 4 from rfl] at h2
  rw [h1, h2, w_or]; rfl

set_option maxRecDepth 100000 in
set_option maxHeartbeats 1000000 in
theorem rot6_any (x : UInt32) (w : World) : Calls Tryd.prog 64 #[.int .u32 (x.toNat : Int), .int .i64 (-6)] w fun e w' => e = .returned (w32 (rotr x 6)) ∧ w = w' := by
  have hx := u32_lt x
  have hb : bits .and .u64 (IntKind.u64.wrap (-6)) 31 = 26 := by kernel_rfl
  go_enter Tryd.func64, Tryd.ntmps64
  go_wp2
  go_ret
  refine ⟨ret_w32 ?_, rfl⟩
  have h1 := w_shl x 26 (by omega)
  have h2 := w_shr x 6 (by omega)
  rw [show ((2 ^ 26 : Nat) : Int) = 67108864 from rfl] at h1
  rw [show ((2 ^ 6 : Nat) : Int) = 64 from rfl] at h2
  rw [h1, h2, w_or]; rfl

set_option maxRecDepth 100000 in
set_option maxHeartbeats 1000000 in
theorem rot7_any (x : UInt32) (w : World) : Calls Tryd.prog 64 #[.int .u32 (x.toNat : Int), .int .i64 (-7)] w fun e w' => e = .returned (w32 (rotr x 7)) ∧ w = w' := by
  have hx := u32_lt x
  have hb : bits .and .u64 (IntKind.u64.wrap (-7)) 31 = 25 := by kernel_rfl
  go_enter Tryd.func64, Tryd.ntmps64
  go_wp2
  go_ret
  refine ⟨ret_w32 ?_, rfl⟩
  have h1 := w_shl x 25 (by omega)
  have h2 := w_shr x 7 (by omega)
  rw [show ((2 ^ 25 : Nat) : Int) = 33554432 from rfl] at h1
  rw [show ((2 ^ 7 : Nat) : Int) = 128 from rfl] at h2
  rw [h1, h2, w_or]; rfl

set_option maxRecDepth 100000 in
set_option maxHeartbeats 1000000 in
theorem rot11_any (x : UInt32) (w : World) : Calls Tryd.prog 64 #[.int .u32 (x.toNat : Int), .int .i64 (-11)] w fun e w' => e = .returned (w32 (rotr x 11)) ∧ w = w' := by
  have hx := u32_lt x
  have hb : bits .and .u64 (IntKind.u64.wrap (-11)) 31 = 21 := by kernel_rfl
  go_enter Tryd.func64, Tryd.ntmps64
  go_wp2
  go_ret
  refine ⟨ret_w32 ?_, rfl⟩
  have h1 := w_shl x 21 (by omega)
  have h2 := w_shr x 11 (by omega)
  rw [show ((2 ^ 21 : Nat) : Int) = 2097152 from rfl] at h1
  rw [show ((2 ^ 11 : Nat) : Int) = 2048 from rfl] at h2
  rw [h1, h2, w_or]; rfl

set_option maxRecDepth 100000 in
set_option maxHeartbeats 1000000 in
theorem rot13_any (x : UInt32) (w : World) : Calls Tryd.prog 64 #[.int .u32 (x.toNat : Int), .int .i64 (-13)] w fun e w' => e = .returned (w32 (rotr x 13)) ∧ w = w' := by
  have hx := u32_lt x
  have hb : bits .and .u64 (IntKind.u64.wrap (-13)) 31 = 19 := by kernel_rfl
  go_enter Tryd.func64, Tryd.ntmps64
  go_wp2
  go_ret
  refine ⟨ret_w32 ?_, rfl⟩
  have h1 := w_shl x 19 (by omega)
  have h2 := w_shr x 13 (by omega)
  rw [show ((2 ^ 19 : Nat) : Int) = 524288 from rfl] at h1
  rw [show ((2 ^ 13 : Nat) : Int) = 8192 from rfl] at h2
  rw [h1, h2, w_or]; rfl

set_option maxRecDepth 100000 in
set_option maxHeartbeats 1000000 in
theorem rot17_any (x : UInt32) (w : World) : Calls Tryd.prog 64 #[.int .u32 (x.toNat : Int), .int .i64 (-17)] w fun e w' => e = .returned (w32 (rotr x 17)) ∧ w = w' := by
  have hx := u32_lt x
  have hb : bits .and .u64 (IntKind.u64.wrap (-17)) 31 = 15 := by kernel_rfl
  go_enter Tryd.func64, Tryd.ntmps64
  go_wp2
  go_ret
  refine ⟨ret_w32 ?_, rfl⟩
  have h1 := w_shl x 15 (by omega)
  have h2 := w_shr x 17 (by omega)
  rw [show ((2 ^ 15 : Nat) : Int) = 32768 from rfl] at h1
  rw [show ((2 ^ 17 : Nat) : Int) = 131072 from rfl] at h2
  rw [h1, h2, w_or]; rfl

set_option maxRecDepth 100000 in
set_option maxHeartbeats 1000000 in
theorem rot18_any (x : UInt32) (w : World) : Calls Tryd.prog 64 #[.int .u32 (x.toNat : Int), .int .i64 (-18)] w fun e w' => e = .returned (w32 (rotr x 18)) ∧ w = w' := by
  have hx := u32_lt x
  have hb : bits .and .u64 (IntKind.u64.wrap (-18)) 31 = 14 := by kernel_rfl
  go_enter Tryd.func64, Tryd.ntmps64
  go_wp2
  go_ret
  refine ⟨ret_w32 ?_, rfl⟩
  have h1 := w_shl x 14 (by omega)
  have h2 := w_shr x 18 (by omega)
  rw [show ((2 ^ 14 : Nat) : Int) = 16384 from rfl] at h1
  rw [show ((2 ^ 18 : Nat) : Int) = 262144 from rfl] at h2
  rw [h1, h2, w_or]; rfl

set_option maxRecDepth 100000 in
set_option maxHeartbeats 1000000 in
theorem rot19_any (x : UInt32) (w : World) : Calls Tryd.prog 64 #[.int .u32 (x.toNat : Int), .int .i64 (-19)] w fun e w' => e = .returned (w32 (rotr x 19)) ∧ w = w' := by
  have hx := u32_lt x
  have hb : bits .and .u64 (IntKind.u64.wrap (-19)) 31 = 13 := by kernel_rfl
  go_enter Tryd.func64, Tryd.ntmps64
  go_wp2
  go_ret
  refine ⟨ret_w32 ?_, rfl⟩
  have h1 := w_shl x 13 (by omega)
  have h2 := w_shr x 19 (by omega)
  rw [show ((2 ^ 13 : Nat) : Int) = 8192 from rfl] at h1
  rw [show ((2 ^ 19 : Nat) : Int) = 524288 from rfl] at h2
  rw [h1, h2, w_or]; rfl

set_option maxRecDepth 100000 in
set_option maxHeartbeats 1000000 in
theorem rot22_any (x : UInt32) (w : World) : Calls Tryd.prog 64 #[.int .u32 (x.toNat : Int), .int .i64 (-22)] w fun e w' => e = .returned (w32 (rotr x 22)) ∧ w = w' := by
  have hx := u32_lt x
  have hb : bits .and .u64 (IntKind.u64.wrap (-22)) 31 = 10 := by kernel_rfl
  go_enter Tryd.func64, Tryd.ntmps64
  go_wp2
  go_ret
  refine ⟨ret_w32 ?_, rfl⟩
  have h1 := w_shl x 10 (by omega)
  have h2 := w_shr x 22 (by omega)
  rw [show ((2 ^ 10 : Nat) : Int) = 1024 from rfl] at h1
  rw [show ((2 ^ 22 : Nat) : Int) = 4194304 from rfl] at h2
  rw [h1, h2, w_or]; rfl

set_option maxRecDepth 100000 in
set_option maxHeartbeats 1000000 in
theorem rot25_any (x : UInt32) (w : World) : Calls Tryd.prog 64 #[.int .u32 (x.toNat : Int), .int .i64 (-25)] w fun e w' => e = .returned (w32 (rotr x 25)) ∧ w = w' := by
  have hx := u32_lt x
  have hb : bits .and .u64 (IntKind.u64.wrap (-25)) 31 = 7 := by kernel_rfl
  go_enter Tryd.func64, Tryd.ntmps64
  go_wp2
  go_ret
  refine ⟨ret_w32 ?_, rfl⟩
  have h1 := w_shl x 7 (by omega)
  have h2 := w_shr x 25 (by omega)
  rw [show ((2 ^ 7 : Nat) : Int) = 128 from rfl] at h1
  rw [show ((2 ^ 25 : Nat) : Int) = 33554432 from rfl] at h2
  rw [h1, h2, w_or]; rfl
def mixU (x : UInt32) (i j k : Nat) : UInt32 := xw (xw (rotr x i) (rotr x j)) (rotr x k)

set_option maxRecDepth 100000 in
set_option maxHeartbeats 1000000 in
theorem mix6_any (x : UInt32) (w : World) : Calls Tryd.prog 60 #[.int .u32 (x.toNat : Int), .int .i64 6, .int .i64 11, .int .i64 25] w fun e w' => e = .returned (w32 (mixU x 6 11 25)) ∧ w = w' := by
  go_enter Tryd.func60, Tryd.ntmps60
  go_wp2_with fail
  refine (rot6_any x w).mono ?_
  rintro e w' ⟨rfl, rfl⟩
  simp only [w32]
  go_wp2_with fail
  refine (rot11_any x w).mono ?_
  rintro e w' ⟨rfl, rfl⟩
  simp only [w32]
  go_wp2_with fail
  refine (rot25_any x w).mono ?_
  rintro e w' ⟨rfl, rfl⟩
  simp only [w32]
  go_wp2_with fail
  go_ret
  exact ⟨ret_w32 (by rw [w_xor, w_xor]; rfl), rfl⟩
theorem mix6_q (x : UInt32) (w : World) : Calls Tryd.prog 60 #[.int .u32 (x.toNat : Int), .int .i64 6, .int .i64 11, .int .i64 25] w fun e w' => e = .returned (.int .u32 ((mixU x 6 11 25).toNat : Int)) ∧ w' = w :=
  (mix6_any x w).mono fun _ _ ⟨h1, h2⟩ => ⟨h1, h2.symm⟩

set_option maxRecDepth 100000 in
set_option maxHeartbeats 1000000 in
theorem mix2_any (x : UInt32) (w : World) : Calls Tryd.prog 60 #[.int .u32 (x.toNat : Int), .int .i64 2, .int .i64 13, .int .i64 22] w fun e w' => e = .returned (w32 (mixU x 2 13 22)) ∧ w = w' := by
  go_enter Tryd.func60, Tryd.ntmps60
  go_wp2_with fail
  refine (rot2_any x w).mono ?_
  rintro e w' ⟨rfl, rfl⟩
  simp only [w32]
  go_wp2_with fail
  refine (rot13_any x w).mono ?_
  rintro e w' ⟨rfl, rfl⟩
  simp only [w32]
  go_wp2_with fail
  refine (rot22_any x w).mono ?_
  rintro e w' ⟨rfl, rfl⟩
  simp only [w32]
  go_wp2_with fail
  go_ret
  exact ⟨ret_w32 (by rw [w_xor, w_xor]; rfl), rfl⟩
theorem mix2_q (x : UInt32) (w : World) : Calls Tryd.prog 60 #[.int .u32 (x.toNat : Int), .int .i64 2, .int .i64 13, .int .i64 22] w fun e w' => e = .returned (.int .u32 ((mixU x 2 13 22).toNat : Int)) ∧ w' = w :=
  (mix2_any x w).mono fun _ _ ⟨h1, h2⟩ => ⟨h1, h2.symm⟩
end Go.Proofs.YtnionejefpnfoaaDoor
