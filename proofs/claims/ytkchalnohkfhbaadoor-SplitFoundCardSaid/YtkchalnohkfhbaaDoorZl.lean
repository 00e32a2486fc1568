/- The draws of great splits: which try is the first that is taken. In one text: Zy0, Zy1, Zy2, Zj, Zl -/
import Derived.Test.YtkchalnohkfhbaaDoorZe
set_option linter.unusedSimpArgs false
set_option linter.unusedVariables false
/- The batches of the draws of great splits, depths 0 to 6. Plain; nothing of the program stands here. -/
set_option maxRecDepth 100000
namespace Go.Proofs.YtkchalnohkfhbaaDoor

theorem gF0 : chkF 60000 5536 = true := by kernel_rfl
theorem gF1 : chkF 30000 2769 = true := by kernel_rfl
theorem gD1_1 : chkD 30000 2769 1 = true := by kernel_rfl
theorem gF2 : chkF 15000 1385 = true := by kernel_rfl
theorem gD2_1 : chkD 15000 1385 1 = true := by kernel_rfl
theorem gD2_2 : chkD 15000 1385 2 = true := by kernel_rfl
theorem gD2_3 : chkD 15000 1385 3 = true := by kernel_rfl
theorem gF3 : chkF 7500 693 = true := by kernel_rfl
theorem gD3_1 : chkD 7500 693 1 = true := by kernel_rfl
theorem gD3_2 : chkD 7500 693 2 = true := by kernel_rfl
theorem gD3_3 : chkD 7500 693 3 = true := by kernel_rfl
theorem gD3_4 : chkD 7500 693 4 = true := by kernel_rfl
theorem gD3_5 : chkD 7500 693 5 = true := by kernel_rfl
theorem gD3_6 : chkD 7500 693 6 = true := by kernel_rfl
theorem gD3_7 : chkD 7500 693 7 = true := by kernel_rfl
theorem gF4 : chkF 3750 347 = true := by kernel_rfl
theorem gD4_1 : chkD 3750 347 1 = true := by kernel_rfl
theorem gD4_2 : chkD 3750 347 2 = true := by kernel_rfl
theorem gD4_3 : chkD 3750 347 3 = true := by kernel_rfl
theorem gD4_4 : chkD 3750 347 4 = true := by kernel_rfl
theorem gD4_5 : chkD 3750 347 5 = true := by kernel_rfl
theorem gD4_6 : chkD 3750 347 6 = true := by kernel_rfl
theorem gD4_7 : chkD 3750 347 7 = true := by kernel_rfl
theorem gD4_8 : chkD 3750 347 8 = true := by kernel_rfl
theorem gD4_9 : chkD 3750 347 9 = true := by kernel_rfl
theorem gD4_10 : chkD 3750 347 10 = true := by kernel_rfl
theorem gD4_11 : chkD 3750 347 11 = true := by kernel_rfl
theorem gD4_12 : chkD 3750 347 12 = true := by kernel_rfl
theorem gD4_13 : chkD 3750 347 13 = true := by kernel_rfl
theorem gD4_14 : chkD 3750 347 14 = true := by kernel_rfl
theorem gD4_15 : chkD 3750 347 15 = true := by kernel_rfl
theorem gF5 : chkF 1875 174 = true := by kernel_rfl
theorem gD5_1 : chkD 1875 174 1 = true := by kernel_rfl
theorem gD5_2 : chkD 1875 174 2 = true := by kernel_rfl
theorem gD5_3 : chkD 1875 174 3 = true := by kernel_rfl
theorem gD5_4 : chkD 1875 174 4 = true := by kernel_rfl
theorem gD5_5 : chkD 1875 174 5 = true := by kernel_rfl
theorem gD5_6 : chkD 1875 174 6 = true := by kernel_rfl
theorem gD5_7 : chkD 1875 174 7 = true := by kernel_rfl
theorem gD5_8 : chkD 1875 174 8 = true := by kernel_rfl
theorem gD5_9 : chkD 1875 174 9 = true := by kernel_rfl
theorem gD5_10 : chkD 1875 174 10 = true := by kernel_rfl
theorem gD5_11 : chkD 1875 174 11 = true := by kernel_rfl
theorem gD5_12 : chkD 1875 174 12 = true := by kernel_rfl
theorem gD5_13 : chkD 1875 174 13 = true := by kernel_rfl
theorem gD5_14 : chkD 1875 174 14 = true := by kernel_rfl
theorem gD5_15 : chkD 1875 174 15 = true := by kernel_rfl
theorem gD5_16 : chkD 1875 174 16 = true := by kernel_rfl
theorem gD5_17 : chkD 1875 174 17 = true := by kernel_rfl
theorem gD5_18 : chkD 1875 174 18 = true := by kernel_rfl
theorem gD5_19 : chkD 1875 174 19 = true := by kernel_rfl
theorem gD5_20 : chkD 1875 174 20 = true := by kernel_rfl
theorem gD5_21 : chkD 1875 174 21 = true := by kernel_rfl
theorem gD5_22 : chkD 1875 174 22 = true := by kernel_rfl
theorem gD5_23 : chkD 1875 174 23 = true := by kernel_rfl
theorem gD5_24 : chkD 1875 174 24 = true := by kernel_rfl
theorem gD5_25 : chkD 1875 174 25 = true := by kernel_rfl
theorem gD5_26 : chkD 1875 174 26 = true := by kernel_rfl
theorem gD5_27 : chkD 1875 174 27 = true := by kernel_rfl
theorem gD5_28 : chkD 1875 174 28 = true := by kernel_rfl
theorem gD5_29 : chkD 1875 174 29 = true := by kernel_rfl
theorem gD5_30 : chkD 1875 174 30 = true := by kernel_rfl
theorem gD5_31 : chkD 1875 174 31 = true := by kernel_rfl
theorem gF6 : chkF 937 88 = true := by kernel_rfl
end Go.Proofs.YtkchalnohkfhbaaDoor
/- The batches of the draws of great splits, depth 6. Plain; nothing of the program stands here. -/
set_option maxRecDepth 100000
namespace Go.Proofs.YtkchalnohkfhbaaDoor

theorem gD6_1 : chkD 937 88 1 = true := by kernel_rfl
theorem gD6_2 : chkD 937 88 2 = true := by kernel_rfl
theorem gD6_3 : chkD 937 88 3 = true := by kernel_rfl
theorem gD6_4 : chkD 937 88 4 = true := by kernel_rfl
theorem gD6_5 : chkD 937 88 5 = true := by kernel_rfl
theorem gD6_6 : chkD 937 88 6 = true := by kernel_rfl
theorem gD6_7 : chkD 937 88 7 = true := by kernel_rfl
theorem gD6_8 : chkD 937 88 8 = true := by kernel_rfl
theorem gD6_9 : chkD 937 88 9 = true := by kernel_rfl
theorem gD6_10 : chkD 937 88 10 = true := by kernel_rfl
theorem gD6_11 : chkD 937 88 11 = true := by kernel_rfl
theorem gD6_12 : chkD 937 88 12 = true := by kernel_rfl
theorem gD6_13 : chkD 937 88 13 = true := by kernel_rfl
theorem gD6_14 : chkD 937 88 14 = true := by kernel_rfl
theorem gD6_15 : chkD 937 88 15 = true := by kernel_rfl
theorem gD6_16 : chkD 937 88 16 = true := by kernel_rfl
theorem gD6_17 : chkD 937 88 17 = true := by kernel_rfl
theorem gD6_18 : chkD 937 88 18 = true := by kernel_rfl
theorem gD6_19 : chkD 937 88 19 = true := by kernel_rfl
theorem gD6_20 : chkD 937 88 20 = true := by kernel_rfl
theorem gD6_21 : chkD 937 88 21 = true := by kernel_rfl
theorem gD6_22 : chkD 937 88 22 = true := by kernel_rfl
theorem gD6_23 : chkD 937 88 23 = true := by kernel_rfl
theorem gD6_24 : chkD 937 88 24 = true := by kernel_rfl
theorem gD6_25 : chkD 937 88 25 = true := by kernel_rfl
theorem gD6_26 : chkD 937 88 26 = true := by kernel_rfl
theorem gD6_27 : chkD 937 88 27 = true := by kernel_rfl
theorem gD6_28 : chkD 937 88 28 = true := by kernel_rfl
theorem gD6_29 : chkD 937 88 29 = true := by kernel_rfl
theorem gD6_30 : chkD 937 88 30 = true := by kernel_rfl
theorem gD6_31 : chkD 937 88 31 = true := by kernel_rfl
theorem gD6_32 : chkD 937 88 32 = true := by kernel_rfl
theorem gD6_33 : chkD 937 88 33 = true := by kernel_rfl
theorem gD6_34 : chkD 937 88 34 = true := by kernel_rfl
theorem gD6_35 : chkD 937 88 35 = true := by kernel_rfl
theorem gD6_36 : chkD 937 88 36 = true := by kernel_rfl
theorem gD6_37 : chkD 937 88 37 = true := by kernel_rfl
theorem gD6_38 : chkD 937 88 38 = true := by kernel_rfl
theorem gD6_39 : chkD 937 88 39 = true := by kernel_rfl
theorem gD6_40 : chkD 937 88 40 = true := by kernel_rfl
theorem gD6_41 : chkD 937 88 41 = true := by kernel_rfl
theorem gD6_42 : chkD 937 88 42 = true := by kernel_rfl
theorem gD6_43 : chkD 937 88 43 = true := by kernel_rfl
theorem gD6_44 : chkD 937 88 44 = true := by kernel_rfl
theorem gD6_45 : chkD 937 88 45 = true := by kernel_rfl
theorem gD6_46 : chkD 937 88 46 = true := by kernel_rfl
theorem gD6_47 : chkD 937 88 47 = true := by kernel_rfl
theorem gD6_48 : chkD 937 88 48 = true := by kernel_rfl
theorem gD6_49 : chkD 937 88 49 = true := by kernel_rfl
theorem gD6_50 : chkD 937 88 50 = true := by kernel_rfl
theorem gD6_51 : chkD 937 88 51 = true := by kernel_rfl
theorem gD6_52 : chkD 937 88 52 = true := by kernel_rfl
theorem gD6_53 : chkD 937 88 53 = true := by kernel_rfl
theorem gD6_54 : chkD 937 88 54 = true := by kernel_rfl
theorem gD6_55 : chkD 937 88 55 = true := by kernel_rfl
theorem gD6_56 : chkD 937 88 56 = true := by kernel_rfl
theorem gD6_57 : chkD 937 88 57 = true := by kernel_rfl
theorem gD6_58 : chkD 937 88 58 = true := by kernel_rfl
theorem gD6_59 : chkD 937 88 59 = true := by kernel_rfl
theorem gD6_60 : chkD 937 88 60 = true := by kernel_rfl
theorem gD6_61 : chkD 937 88 61 = true := by kernel_rfl
theorem gD6_62 : chkD 937 88 62 = true := by kernel_rfl
theorem gD6_63 : chkD 937 88 63 = true := by kernel_rfl
end Go.Proofs.YtkchalnohkfhbaaDoor
/- The batches of the draws of great splits, small nodes. Plain; nothing of the program stands here. -/
set_option maxRecDepth 100000
namespace Go.Proofs.YtkchalnohkfhbaaDoor

theorem gZ1 : chkG 254 0 1 0 0 2 1 12 = true := by kernel_rfl
theorem gZ2 : chkG 257 0 2 0 0 256 1 12 = true := by kernel_rfl
theorem gN2 : chkN 1 2 = true := by kernel_rfl
theorem gN3 : chkN 1 3 = true := by kernel_rfl
theorem gN4 : chkN 1 4 = true := by kernel_rfl
theorem gN7 : chkN 1 7 = true := by kernel_rfl
theorem gN8 : chkN 1 8 = true := by kernel_rfl
theorem gN14 : chkN 1 14 = true := by kernel_rfl
theorem gN15 : chkN 1 15 = true := by kernel_rfl
theorem gN16 : chkN 1 16 = true := by kernel_rfl
theorem gN29 : chkN 1 29 = true := by kernel_rfl
theorem gN30 : chkN 1 30 = true := by kernel_rfl
theorem gN31 : chkN 1 31 = true := by kernel_rfl
theorem gN32 : chkN 1 32 = true := by kernel_rfl
theorem gN58 : chkN 1 58 = true := by kernel_rfl
theorem gN59 : chkN 1 59 = true := by kernel_rfl
theorem gN60 : chkN 1 60 = true := by kernel_rfl
theorem gN61 : chkN 1 61 = true := by kernel_rfl
theorem gN62 : chkN 1 62 = true := by kernel_rfl
theorem gN63 : chkN 1 63 = true := by kernel_rfl
theorem gN64 : chkN 1 64 = true := by kernel_rfl
theorem gN117 : chkN 1 117 = true := by kernel_rfl
theorem gN118 : chkN 1 118 = true := by kernel_rfl
theorem gN119 : chkN 1 119 = true := by kernel_rfl
theorem gN120 : chkN 1 120 = true := by kernel_rfl
theorem gN121 : chkN 1 121 = true := by kernel_rfl
theorem gN122 : chkN 1 122 = true := by kernel_rfl
theorem gN123 : chkN 1 123 = true := by kernel_rfl
theorem gN124 : chkN 1 124 = true := by kernel_rfl
theorem gN125 : chkN 1 125 = true := by kernel_rfl
theorem gN126 : chkN 1 126 = true := by kernel_rfl
theorem gN127 : chkN 1 127 = true := by kernel_rfl
theorem gN128 : chkN 1 128 = true := by kernel_rfl
theorem gN234 : chkN 1 234 = true := by kernel_rfl
theorem gN235 : chkN 1 235 = true := by kernel_rfl
theorem gN236 : chkN 1 236 = true := by kernel_rfl
theorem gN237 : chkN 1 237 = true := by kernel_rfl
theorem gN238 : chkN 1 238 = true := by kernel_rfl
theorem gN239 : chkN 1 239 = true := by kernel_rfl
theorem gN240 : chkN 1 240 = true := by kernel_rfl
theorem gN241 : chkN 1 241 = true := by kernel_rfl
theorem gN242 : chkN 1 242 = true := by kernel_rfl
theorem gN243 : chkN 1 243 = true := by kernel_rfl
theorem gN244 : chkN 1 244 = true := by kernel_rfl
theorem gN245 : chkN 1 245 = true := by kernel_rfl
theorem gN246 : chkN 1 246 = true := by kernel_rfl
theorem gN247 : chkN 1 247 = true := by kernel_rfl
theorem gN248 : chkN 1 248 = true := by kernel_rfl
theorem gN249 : chkN 1 249 = true := by kernel_rfl
theorem gN250 : chkN 1 250 = true := by kernel_rfl
theorem gN251 : chkN 1 251 = true := by kernel_rfl
theorem gN252 : chkN 1 252 = true := by kernel_rfl
theorem gN253 : chkN 1 253 = true := by kernel_rfl
theorem gN254 : chkN 1 254 = true := by kernel_rfl
theorem gN255 : chkN 1 255 = true := by kernel_rfl
theorem gN256 : chkN 2 256 = true := by kernel_rfl
theorem gN468 : chkN 2 468 = true := by kernel_rfl
theorem gN469 : chkN 2 469 = true := by kernel_rfl
theorem gN470 : chkN 2 470 = true := by kernel_rfl
theorem gN471 : chkN 2 471 = true := by kernel_rfl
theorem gN472 : chkN 2 472 = true := by kernel_rfl
theorem gN473 : chkN 2 473 = true := by kernel_rfl
theorem gN474 : chkN 2 474 = true := by kernel_rfl
theorem gN475 : chkN 2 475 = true := by kernel_rfl
theorem gN476 : chkN 2 476 = true := by kernel_rfl
theorem gN477 : chkN 2 477 = true := by kernel_rfl
theorem gN478 : chkN 2 478 = true := by kernel_rfl
theorem gN479 : chkN 2 479 = true := by kernel_rfl
theorem gN480 : chkN 2 480 = true := by kernel_rfl
theorem gN481 : chkN 2 481 = true := by kernel_rfl
theorem gN482 : chkN 2 482 = true := by kernel_rfl
theorem gN483 : chkN 2 483 = true := by kernel_rfl
theorem gN484 : chkN 2 484 = true := by kernel_rfl
theorem gN485 : chkN 2 485 = true := by kernel_rfl
theorem gN486 : chkN 2 486 = true := by kernel_rfl
theorem gN487 : chkN 2 487 = true := by kernel_rfl
theorem gN488 : chkN 2 488 = true := by kernel_rfl
theorem gN489 : chkN 2 489 = true := by kernel_rfl
theorem gN490 : chkN 2 490 = true := by kernel_rfl
theorem gN491 : chkN 2 491 = true := by kernel_rfl
theorem gN492 : chkN 2 492 = true := by kernel_rfl
theorem gN493 : chkN 2 493 = true := by kernel_rfl
theorem gN494 : chkN 2 494 = true := by kernel_rfl
theorem gN495 : chkN 2 495 = true := by kernel_rfl
theorem gN496 : chkN 2 496 = true := by kernel_rfl
theorem gN497 : chkN 2 497 = true := by kernel_rfl
theorem gN498 : chkN 2 498 = true := by kernel_rfl
theorem gN499 : chkN 2 499 = true := by kernel_rfl
theorem gN500 : chkN 2 500 = true := by kernel_rfl
theorem gN501 : chkN 2 501 = true := by kernel_rfl
theorem gN502 : chkN 2 502 = true := by kernel_rfl
theorem gN503 : chkN 2 503 = true := by kernel_rfl
theorem gN504 : chkN 2 504 = true := by kernel_rfl
theorem gN505 : chkN 2 505 = true := by kernel_rfl
theorem gN506 : chkN 2 506 = true := by kernel_rfl
theorem gN507 : chkN 2 507 = true := by kernel_rfl
theorem gN508 : chkN 2 508 = true := by kernel_rfl
theorem gN509 : chkN 2 509 = true := by kernel_rfl
theorem gN510 : chkN 2 510 = true := by kernel_rfl
theorem gN511 : chkN 2 511 = true := by kernel_rfl
theorem gN512 : chkN 2 512 = true := by kernel_rfl
end Go.Proofs.YtkchalnohkfhbaaDoor
/- The nodes that a great split has, and that of the first two words of each one is taken. Plain; nothing of the program stands here but the specification of its words. -/
namespace Go.Proofs.YtkchalnohkfhbaaDoor

/-- node j of depth d -/
def AtD (d j a n : Nat) : Prop := j < 2 ^ d ∧ 60000 < (n + 1) * 2 ^ d ∧ n ≤ 2 ^ (16 - d) ∧ j * n ≤ a + j ∧ a ≤ j * n + j
/-- the nodes of a great split of N -/
def GI (N a n : Nat) : Prop := a + n ≤ N ∧ ∃ d j, d ≤ 16 ∧ AtD d j a n
theorem gi_top {N : Nat} (h1 : 60000 ≤ N) (h2 : N ≤ 65536) : GI N 0 N := ⟨by omega, 0, 0, by decide, by decide, by omega, h2, by omega, by omega⟩
theorem gi_half {N a m : Nat} (h : GI N a m) (h2 : 2 ≤ m) : GI N a (m / 2) ∧ GI N (a + m / 2) (m - m / 2) := by
  obtain ⟨hN, d, j, hd, hj, hlo, hhi, e1, e2⟩ := h
  have hd15 : d ≤ 15 := by
    refine Classical.byContradiction fun hc => ?_
    obtain rfl : d = 16 := by omega
    have : m ≤ 1 := hhi
    omega
  have p1 : 2 ^ (d + 1) = 2 * 2 ^ d := by rw [Nat.pow_succ, Nat.mul_comm]
  have p2 : 2 ^ (16 - d) = 2 * 2 ^ (16 - (d + 1)) := by rw [show 16 - d = (16 - (d + 1)) + 1 by omega, Nat.pow_succ, Nat.mul_comm]
  obtain ⟨q, hq⟩ : ∃ q, m / 2 = q := ⟨_, rfl⟩
  obtain ⟨r, hr⟩ : ∃ r, m - q = r := ⟨_, rfl⟩
  rw [hq, hr]
  have l1 : (m + 1) * 2 ^ d ≤ (2 * (q + 1)) * 2 ^ d := Nat.mul_le_mul_right _ (by omega)
  have l2 : (m + 1) * 2 ^ d ≤ (2 * (r + 1)) * 2 ^ d := Nat.mul_le_mul_right _ (by omega)
  have c1 : (q + 1) * (2 * 2 ^ d) = (2 * (q + 1)) * 2 ^ d := by rw [← Nat.mul_assoc, Nat.mul_comm (q + 1) 2]
  have c2 : (r + 1) * (2 * 2 ^ d) = (2 * (r + 1)) * 2 ^ d := by rw [← Nat.mul_assoc, Nat.mul_comm (r + 1) 2]
  have s1 : j * m = j * q + j * r := by rw [← Nat.mul_add]; congr 1; omega
  have s2 : j * r = j * q ∨ j * r = j * q + j := by
    rcases (by omega : r = q ∨ r = q + 1) with e | e
    · left; rw [e]
    · right; rw [e, Nat.mul_add, Nat.mul_one]
  have s3 : (2 * j) * q = 2 * (j * q) := Nat.mul_assoc _ _ _
  have s4 : (2 * j + 1) * r = 2 * (j * r) + r := by rw [Nat.add_mul, Nat.one_mul, Nat.mul_assoc]
  constructor
  · refine ⟨by omega, d + 1, 2 * j, by omega, by omega, ?_, by omega, ?_, ?_⟩
    · rw [p1, c1]; omega
    · rw [s3]; omega
    · rw [s3]; omega
  · refine ⟨by omega, d + 1, 2 * j + 1, by omega, by omega, ?_, by omega, ?_, ?_⟩
    · rw [p1, c2]; omega
    · rw [s4]; omega
    · rw [s4]; omega
theorem gD1 : ∀ j, 1 ≤ j → j < 2 → chkD 30000 2769 j = true
  | 0, h, _ => absurd h (by decide)
  | 1, _, _ => gD1_1
  | j + 2, _, h => absurd h (by omega)
theorem gD2 : ∀ j, 1 ≤ j → j < 4 → chkD 15000 1385 j = true
  | 0, h, _ => absurd h (by decide)
  | 1, _, _ => gD2_1
  | 2, _, _ => gD2_2
  | 3, _, _ => gD2_3
  | j + 4, _, h => absurd h (by omega)
theorem gD3 : ∀ j, 1 ≤ j → j < 8 → chkD 7500 693 j = true
  | 0, h, _ => absurd h (by decide)
  | 1, _, _ => gD3_1
  | 2, _, _ => gD3_2
  | 3, _, _ => gD3_3
  | 4, _, _ => gD3_4
  | 5, _, _ => gD3_5
  | 6, _, _ => gD3_6
  | 7, _, _ => gD3_7
  | j + 8, _, h => absurd h (by omega)
theorem gD4 : ∀ j, 1 ≤ j → j < 16 → chkD 3750 347 j = true
  | 0, h, _ => absurd h (by decide)
  | 1, _, _ => gD4_1
  | 2, _, _ => gD4_2
  | 3, _, _ => gD4_3
  | 4, _, _ => gD4_4
  | 5, _, _ => gD4_5
  | 6, _, _ => gD4_6
  | 7, _, _ => gD4_7
  | 8, _, _ => gD4_8
  | 9, _, _ => gD4_9
  | 10, _, _ => gD4_10
  | 11, _, _ => gD4_11
  | 12, _, _ => gD4_12
  | 13, _, _ => gD4_13
  | 14, _, _ => gD4_14
  | 15, _, _ => gD4_15
  | j + 16, _, h => absurd h (by omega)
theorem gD5 : ∀ j, 1 ≤ j → j < 32 → chkD 1875 174 j = true
  | 0, h, _ => absurd h (by decide)
  | 1, _, _ => gD5_1
  | 2, _, _ => gD5_2
  | 3, _, _ => gD5_3
  | 4, _, _ => gD5_4
  | 5, _, _ => gD5_5
  | 6, _, _ => gD5_6
  | 7, _, _ => gD5_7
  | 8, _, _ => gD5_8
  | 9, _, _ => gD5_9
  | 10, _, _ => gD5_10
  | 11, _, _ => gD5_11
  | 12, _, _ => gD5_12
  | 13, _, _ => gD5_13
  | 14, _, _ => gD5_14
  | 15, _, _ => gD5_15
  | 16, _, _ => gD5_16
  | 17, _, _ => gD5_17
  | 18, _, _ => gD5_18
  | 19, _, _ => gD5_19
  | 20, _, _ => gD5_20
  | 21, _, _ => gD5_21
  | 22, _, _ => gD5_22
  | 23, _, _ => gD5_23
  | 24, _, _ => gD5_24
  | 25, _, _ => gD5_25
  | 26, _, _ => gD5_26
  | 27, _, _ => gD5_27
  | 28, _, _ => gD5_28
  | 29, _, _ => gD5_29
  | 30, _, _ => gD5_30
  | 31, _, _ => gD5_31
  | j + 32, _, h => absurd h (by omega)
theorem gD6 : ∀ j, 1 ≤ j → j < 64 → chkD 937 88 j = true
  | 0, h, _ => absurd h (by decide)
  | 1, _, _ => gD6_1
  | 2, _, _ => gD6_2
  | 3, _, _ => gD6_3
  | 4, _, _ => gD6_4
  | 5, _, _ => gD6_5
  | 6, _, _ => gD6_6
  | 7, _, _ => gD6_7
  | 8, _, _ => gD6_8
  | 9, _, _ => gD6_9
  | 10, _, _ => gD6_10
  | 11, _, _ => gD6_11
  | 12, _, _ => gD6_12
  | 13, _, _ => gD6_13
  | 14, _, _ => gD6_14
  | 15, _, _ => gD6_15
  | 16, _, _ => gD6_16
  | 17, _, _ => gD6_17
  | 18, _, _ => gD6_18
  | 19, _, _ => gD6_19
  | 20, _, _ => gD6_20
  | 21, _, _ => gD6_21
  | 22, _, _ => gD6_22
  | 23, _, _ => gD6_23
  | 24, _, _ => gD6_24
  | 25, _, _ => gD6_25
  | 26, _, _ => gD6_26
  | 27, _, _ => gD6_27
  | 28, _, _ => gD6_28
  | 29, _, _ => gD6_29
  | 30, _, _ => gD6_30
  | 31, _, _ => gD6_31
  | 32, _, _ => gD6_32
  | 33, _, _ => gD6_33
  | 34, _, _ => gD6_34
  | 35, _, _ => gD6_35
  | 36, _, _ => gD6_36
  | 37, _, _ => gD6_37
  | 38, _, _ => gD6_38
  | 39, _, _ => gD6_39
  | 40, _, _ => gD6_40
  | 41, _, _ => gD6_41
  | 42, _, _ => gD6_42
  | 43, _, _ => gD6_43
  | 44, _, _ => gD6_44
  | 45, _, _ => gD6_45
  | 46, _, _ => gD6_46
  | 47, _, _ => gD6_47
  | 48, _, _ => gD6_48
  | 49, _, _ => gD6_49
  | 50, _, _ => gD6_50
  | 51, _, _ => gD6_51
  | 52, _, _ => gD6_52
  | 53, _, _ => gD6_53
  | 54, _, _ => gD6_54
  | 55, _, _ => gD6_55
  | 56, _, _ => gD6_56
  | 57, _, _ => gD6_57
  | 58, _, _ => gD6_58
  | 59, _, _ => gD6_59
  | 60, _, _ => gD6_60
  | 61, _, _ => gD6_61
  | 62, _, _ => gD6_62
  | 63, _, _ => gD6_63
  | j + 64, _, h => absurd h (by omega)
theorem gR15 : ∀ i, i < 1 → chkN 1 (2 + i) = true
  | 0, _ => gN2
  | i + 1, h => absurd h (by omega)
theorem gR14 : ∀ i, i < 2 → chkN 1 (3 + i) = true
  | 0, _ => gN3
  | 1, _ => gN4
  | i + 2, h => absurd h (by omega)
theorem gR13 : ∀ i, i < 2 → chkN 1 (7 + i) = true
  | 0, _ => gN7
  | 1, _ => gN8
  | i + 2, h => absurd h (by omega)
theorem gR12 : ∀ i, i < 3 → chkN 1 (14 + i) = true
  | 0, _ => gN14
  | 1, _ => gN15
  | 2, _ => gN16
  | i + 3, h => absurd h (by omega)
theorem gR11 : ∀ i, i < 4 → chkN 1 (29 + i) = true
  | 0, _ => gN29
  | 1, _ => gN30
  | 2, _ => gN31
  | 3, _ => gN32
  | i + 4, h => absurd h (by omega)
theorem gR10 : ∀ i, i < 7 → chkN 1 (58 + i) = true
  | 0, _ => gN58
  | 1, _ => gN59
  | 2, _ => gN60
  | 3, _ => gN61
  | 4, _ => gN62
  | 5, _ => gN63
  | 6, _ => gN64
  | i + 7, h => absurd h (by omega)
theorem gR9 : ∀ i, i < 12 → chkN 1 (117 + i) = true
  | 0, _ => gN117
  | 1, _ => gN118
  | 2, _ => gN119
  | 3, _ => gN120
  | 4, _ => gN121
  | 5, _ => gN122
  | 6, _ => gN123
  | 7, _ => gN124
  | 8, _ => gN125
  | 9, _ => gN126
  | 10, _ => gN127
  | 11, _ => gN128
  | i + 12, h => absurd h (by omega)
theorem gR8 : ∀ i, i < 22 → chkN 1 (234 + i) = true
  | 0, _ => gN234
  | 1, _ => gN235
  | 2, _ => gN236
  | 3, _ => gN237
  | 4, _ => gN238
  | 5, _ => gN239
  | 6, _ => gN240
  | 7, _ => gN241
  | 8, _ => gN242
  | 9, _ => gN243
  | 10, _ => gN244
  | 11, _ => gN245
  | 12, _ => gN246
  | 13, _ => gN247
  | 14, _ => gN248
  | 15, _ => gN249
  | 16, _ => gN250
  | 17, _ => gN251
  | 18, _ => gN252
  | 19, _ => gN253
  | 20, _ => gN254
  | 21, _ => gN255
  | i + 22, h => absurd h (by omega)
theorem gR7 : ∀ i, i < 45 → chkN 2 (468 + i) = true
  | 0, _ => gN468
  | 1, _ => gN469
  | 2, _ => gN470
  | 3, _ => gN471
  | 4, _ => gN472
  | 5, _ => gN473
  | 6, _ => gN474
  | 7, _ => gN475
  | 8, _ => gN476
  | 9, _ => gN477
  | 10, _ => gN478
  | 11, _ => gN479
  | 12, _ => gN480
  | 13, _ => gN481
  | 14, _ => gN482
  | 15, _ => gN483
  | 16, _ => gN484
  | 17, _ => gN485
  | 18, _ => gN486
  | 19, _ => gN487
  | 20, _ => gN488
  | 21, _ => gN489
  | 22, _ => gN490
  | 23, _ => gN491
  | 24, _ => gN492
  | 25, _ => gN493
  | 26, _ => gN494
  | 27, _ => gN495
  | 28, _ => gN496
  | 29, _ => gN497
  | 30, _ => gN498
  | 31, _ => gN499
  | 32, _ => gN500
  | 33, _ => gN501
  | 34, _ => gN502
  | 35, _ => gN503
  | 36, _ => gN504
  | 37, _ => gN505
  | 38, _ => gN506
  | 39, _ => gN507
  | 40, _ => gN508
  | 41, _ => gN509
  | 42, _ => gN510
  | 43, _ => gN511
  | 44, _ => gN512
  | i + 45, h => absurd h (by omega)
/-- of the first two words of a node one is not among the last -/
def Taken (s : ByteArray) (a n : Nat) : Prop := Good2 s a n 20 ∨ (n ≤ 512 ∧ Good2 s a n 12)
section
variable {s : ByteArray} (hs : s.data.toList = [byt 103])
include hs
theorem small_zero {n : Nat} (h1 : 2 ≤ n) (h2 : n ≤ 512) : Taken s 0 n := by
  refine Or.inr ⟨h2, ?_⟩
  by_cases h : n < 256
  · have key := chkG_sound hs (fun i hi => Or.inl ⟨rfl, by omega⟩) (fun i hi => Or.inr (Or.inl ⟨rfl, by omega, by omega⟩)) ⟨by decide, by decide⟩ (by decide) gZ1 (n - 2) (by omega)
    rw [show 0 + (n - 2) * 0 = 0 by omega, show 2 + (n - 2) * 1 = n by omega] at key
    exact key
  · have key := chkG_sound hs (fun i hi => Or.inl ⟨rfl, by omega⟩) (fun i hi => Or.inr (Or.inr ⟨rfl, by omega, by omega⟩)) ⟨by decide, by decide⟩ (by decide) gZ2 (n - 256) (by omega)
    rw [show 0 + (n - 256) * 0 = 0 by omega, show 256 + (n - 256) * 1 = n by omega] at key
    exact key
theorem small_at {c lo cnt : Nat} (hc : ∀ i, i < cnt → chkN c (lo + i) = true) (hin : ∀ i, i < cnt → InC c (lo + i)) (hlo : 2 ≤ lo) (hhi : lo + cnt ≤ 513) {a n : Nat} (h1 : lo ≤ n) (h2 : n < lo + cnt) (ha : a < 65536) : Taken s a n := by
  obtain ⟨i, rfl⟩ : ∃ i, n = lo + i := ⟨n - lo, by omega⟩
  by_cases h0 : a = 0
  · rw [h0]
    exact small_zero hs (by omega) (by omega)
  · exact Or.inr ⟨by omega, chkN_at hs (hin i (by omega)) (hc i (by omega)) (by omega) ha⟩
theorem large_at {d lo L : Nat} (hF : chkF lo L = true) (hD : ∀ j, 1 ≤ j → j < 2 ^ d → chkD lo L j = true) (hlo : 300 ≤ lo) (hL : lo + L ≤ 65536) (hb : ∀ j, j < 2 ^ d → j * (lo + L) < 65536) {j a n : Nat} (hj : j < 2 ^ d) (h1 : lo ≤ n) (h2 : n < lo + L) (e1 : j * n ≤ a + j) (e2 : a ≤ j * n + j) : Taken s a n := by
  refine Or.inl ?_
  by_cases h0 : j = 0
  · subst h0
    obtain rfl : a = 0 := by omega
    exact chkF_at hs hlo hL hF h1 h2
  · have hm : j * n = j * (n - 1) + j := by
      have := Nat.mul_add j (n - 1) 1
      rw [show n - 1 + 1 = n by omega, Nat.mul_one] at this
      exact this
    have key := chkD_at hs (by omega) hlo (hb j hj) hL (hD j (by omega) hj) h1 h2 (e := a - j * (n - 1)) (by omega)
    rw [show j * (n - 1) + (a - j * (n - 1)) = a by omega] at key
    exact key
set_option maxHeartbeats 4000000 in
/-- EVERY NODE of a great split -/
theorem gi_taken {N a n : Nat} (hN : N ≤ 65536) (h : GI N a n) (h2 : 2 ≤ n) (hT : Taken s 0 65536) : Taken s a n := by
  obtain ⟨hNa, d, j, hd, hj, hlo, hhi, e1, e2⟩ := h
  have ha : a < 65536 := by omega
  match d, hd with
  | 0, _ =>
    have hj0 : j = 0 := by have : j < 1 := hj; omega
    subst hj0
    have hl : 60000 < (n + 1) * 1 := hlo
    have hh : n ≤ 65536 := hhi
    obtain rfl : a = 0 := by omega
    by_cases ht : n = 65536
    · rw [ht]; exact hT
    · exact Or.inl (chkF_at hs (by decide) (by decide) gF0 (by omega) (by omega))
  | 1, _ =>
    have hj' : j < 2 := hj
    have hl : 60000 < (n + 1) * 2 := hlo
    have hh : n ≤ 32768 := hhi
    exact large_at hs (d := 1) gF1 gD1 (by decide) (by decide) (fun j hj => by have : j < 2 := hj; omega) hj (by omega) (by omega) e1 e2
  | 2, _ =>
    have hj' : j < 4 := hj
    have hl : 60000 < (n + 1) * 4 := hlo
    have hh : n ≤ 16384 := hhi
    exact large_at hs (d := 2) gF2 gD2 (by decide) (by decide) (fun j hj => by have : j < 4 := hj; omega) hj (by omega) (by omega) e1 e2
  | 3, _ =>
    have hj' : j < 8 := hj
    have hl : 60000 < (n + 1) * 8 := hlo
    have hh : n ≤ 8192 := hhi
    exact large_at hs (d := 3) gF3 gD3 (by decide) (by decide) (fun j hj => by have : j < 8 := hj; omega) hj (by omega) (by omega) e1 e2
  | 4, _ =>
    have hj' : j < 16 := hj
    have hl : 60000 < (n + 1) * 16 := hlo
    have hh : n ≤ 4096 := hhi
    exact large_at hs (d := 4) gF4 gD4 (by decide) (by decide) (fun j hj => by have : j < 16 := hj; omega) hj (by omega) (by omega) e1 e2
  | 5, _ =>
    have hj' : j < 32 := hj
    have hl : 60000 < (n + 1) * 32 := hlo
    have hh : n ≤ 2048 := hhi
    exact large_at hs (d := 5) gF5 gD5 (by decide) (by decide) (fun j hj => by have : j < 32 := hj; omega) hj (by omega) (by omega) e1 e2
  | 6, _ =>
    have hj' : j < 64 := hj
    have hl : 60000 < (n + 1) * 64 := hlo
    have hh : n ≤ 1024 := hhi
    exact large_at hs (d := 6) gF6 gD6 (by decide) (by decide) (fun j hj => by have : j < 64 := hj; omega) hj (by omega) (by omega) e1 e2
  | 7, _ =>
    have hl : 60000 < (n + 1) * 128 := hlo
    have hh : n ≤ 512 := hhi
    exact small_at hs gR7 (fun i hi => Or.inr (Or.inr ⟨rfl, by omega, by omega⟩)) (by decide) (by decide) (by omega) (by omega) ha
  | 8, _ =>
    have hl : 60000 < (n + 1) * 256 := hlo
    have hh : n ≤ 256 := hhi
    by_cases h256 : n = 256
    · by_cases h0 : a = 0
      · rw [h0]; exact small_zero hs h2 (by omega)
      · rw [h256]; exact Or.inr ⟨by decide, chkN_at hs (Or.inr (Or.inr ⟨rfl, by decide, by decide⟩)) gN256 (by omega) ha⟩
    · exact small_at hs gR8 (fun i hi => Or.inr (Or.inl ⟨rfl, by omega, by omega⟩)) (by decide) (by decide) (by omega) (by omega) ha
  | 9, _ =>
    have hl : 60000 < (n + 1) * 512 := hlo
    have hh : n ≤ 128 := hhi
    exact small_at hs gR9 (fun i hi => Or.inr (Or.inl ⟨rfl, by omega, by omega⟩)) (by decide) (by decide) (by omega) (by omega) ha
  | 10, _ =>
    have hl : 60000 < (n + 1) * 1024 := hlo
    have hh : n ≤ 64 := hhi
    exact small_at hs gR10 (fun i hi => Or.inr (Or.inl ⟨rfl, by omega, by omega⟩)) (by decide) (by decide) (by omega) (by omega) ha
  | 11, _ =>
    have hl : 60000 < (n + 1) * 2048 := hlo
    have hh : n ≤ 32 := hhi
    exact small_at hs gR11 (fun i hi => Or.inr (Or.inl ⟨rfl, by omega, by omega⟩)) (by decide) (by decide) (by omega) (by omega) ha
  | 12, _ =>
    have hl : 60000 < (n + 1) * 4096 := hlo
    have hh : n ≤ 16 := hhi
    exact small_at hs gR12 (fun i hi => Or.inr (Or.inl ⟨rfl, by omega, by omega⟩)) (by decide) (by decide) (by omega) (by omega) ha
  | 13, _ =>
    have hl : 60000 < (n + 1) * 8192 := hlo
    have hh : n ≤ 8 := hhi
    exact small_at hs gR13 (fun i hi => Or.inr (Or.inl ⟨rfl, by omega, by omega⟩)) (by decide) (by decide) (by omega) (by omega) ha
  | 14, _ =>
    have hl : 60000 < (n + 1) * 16384 := hlo
    have hh : n ≤ 4 := hhi
    exact small_at hs gR14 (fun i hi => Or.inr (Or.inl ⟨rfl, by omega, by omega⟩)) (by decide) (by decide) (by omega) (by omega) ha
  | 15, _ =>
    have hl : 60000 < (n + 1) * 32768 := hlo
    have hh : n ≤ 2 := hhi
    exact small_at hs gR15 (fun i hi => Or.inr (Or.inl ⟨rfl, by omega, by omega⟩)) (by decide) (by decide) (by omega) (by omega) ha
  | 16, _ =>
    have hh : n ≤ 1 := hhi
    omega
  | d + 17, hd => omega
end
/-- the try that a draw of M numbers takes, where one of the first two is not among the last -/
theorem try_of {s : ByteArray} {a n g M : Nat} (h : Good2 s a n g) (h1 : 1 ≤ M) (hM : M ≤ 2 ^ (g + 16)) :
    ∃ K, K ≤ 1 ∧ (∀ j : Nat, j < K → 281474976710656 / M * M ≤ wordN s [(a : Int), (n : Int)] (j : Int)) ∧ wordN s [(a : Int), (n : Int)] (K : Int) < 281474976710656 / M * M := by
  have acc : ∀ t : Nat, Good s a n t g → wordN s [(a : Int), (n : Int)] (t : Int) < 281474976710656 / M * M := by
    intro t ht
    unfold Good at ht
    have e := Nat.div_add_mod 281474976710656 M
    have := Nat.mod_lt 281474976710656 (y := M) (by omega)
    rw [Nat.mul_comm] at e
    omega
  by_cases h0 : wordN s [(a : Int), (n : Int)] ((0 : Nat) : Int) < 281474976710656 / M * M
  · exact ⟨0, by decide, fun j hj => absurd hj (by omega), h0⟩
  · refine ⟨1, by decide, fun j hj => ?_, ?_⟩
    · obtain rfl : j = 0 := by omega
      omega
    · rcases h with h | h
      · exact absurd (acc 0 h) h0
      · exact acc 1 h
end Go.Proofs.YtkchalnohkfhbaaDoor
/- The draws of great splits: which try is the first that is taken. Plain; nothing of the program stands here but the specification of its words. -/
namespace Go.Proofs.YtkchalnohkfhbaaDoor

/-- the seed "g" -/
def sG : ByteArray := ⟨#[103]⟩
theorem top_b : Nat.ble (wordN sG [0, 65536] 0 + 68719476736) 281474976710656 = true := by kernel_rfl
theorem top_taken : Taken sG 0 65536 := by
  refine Or.inl (Or.inl ?_)
  have h := Nat.le_of_ble_eq_true top_b
  have e1 : ((65536 : Nat) : Int) = 65536 := by omega
  have e2 : ((0 : Nat) : Int) = 0 := by omega
  have e3 : (2 : Nat) ^ (20 + 16) = 68719476736 := by decide
  unfold Good
  rw [e1, e2, e3]
  generalize wordN sG [0, 65536] 0 = x at *
  exact h
theorem sG_list : sG.data.toList = [byt 103] := by decide
/-- THE TRY that a draw of a great split takes -/
theorem great_try {N a n M : Nat} (hN : N ≤ 65536) (h : GI N a n) (h2 : 2 ≤ n) (h1 : 1 ≤ M) (hM : M ≤ n / 2 * 1048575 + 1) :
    ∃ K, K ≤ 1 ∧ (∀ j : Nat, j < K → 281474976710656 / M * M ≤ wordN sG [(a : Int), (n : Int)] (j : Int)) ∧ wordN sG [(a : Int), (n : Int)] (K : Int) < 281474976710656 / M * M := by
  have hn : n ≤ 65536 := by have := h.1; omega
  rcases gi_taken sG_list hN h h2 top_taken with t | ⟨hs, t⟩
  · exact try_of t h1 (by omega)
  · exact try_of t h1 (by omega)
end Go.Proofs.YtkchalnohkfhbaaDoor
