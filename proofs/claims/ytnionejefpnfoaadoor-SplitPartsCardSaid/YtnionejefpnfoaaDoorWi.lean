/- wire.Int returns the encoding of its number. Conditions: the number is one of 64 bits. -/
import Derived.Test.YtnionejefpnfoaaDoorProg
import Derived.Test.YtnionejefpnfoaaDoorWp
import Derived.WalkKit
import Derived.WalkSpells
import Derived.WalkLawsBesides
import Derived.BigQuiet
import Derived.Deep.QuietTactic
import Derived.Lib.Hide
import Derived.Outline
import Derived.WalkMore
import Derived.Deep.LoopGhost
import Derived.Maps.AppendAt
namespace Go.Proofs.YtnionejefpnfoaaDoor
open Go.RowKit

theorem info_u8 : (Tryd.prog.info? 5).map (fun i => (i.zero, i.size, i.bytes)) = some (some (.int .u8 0), 1, 1) := by kernel_rfl
theorem pow_256 (k : Nat) : (2 : Int) ^ (8 * k) = ((256 ^ k : Nat) : Int) := by rw [Int.pow_mul]; simp
theorem shr_pos {m j : Nat} (h : 0 < (m : Int) / 2 ^ (8 * (j - 1))) : 256 ^ (j - 1) ≤ m := by
  rw [pow_256, ← Int.natCast_ediv] at h
  have h1 : 0 < m / 256 ^ (j - 1) := by omega
  have := (Nat.le_div_iff_mul_le (Nat.pow_pos (by omega))).1 h1
  omega
theorem shr_zero {m j : Nat} (h : ¬ 0 < (m : Int) / 2 ^ (8 * (j - 1))) (_hj : 0 < j) : m < 256 ^ (j - 1) := by
  rw [pow_256, ← Int.natCast_ediv] at h
  have h1 : m / 256 ^ (j - 1) < 1 := by omega
  have := (Nat.div_lt_iff_lt_mul (Nat.pow_pos (by omega))).1 h1
  omega
theorem dig_int (m j r : Nat) : (m : Int) / 2 ^ (8 * (j - 1 - r)) % 256 = (dig m j r : Int) := by
  unfold dig; rw [pow_256]; simp
theorem digit_neg {n : Int} (h : n < 0) (j r : Nat) : bits .xor .u8 ((mag n : Int) / 2 ^ (8 * (j - 1 - r)) % 256) 255 = ((byt (flp n (dig (mag n) j r))).toNat : Int) := by
  have hl := dig_lt (mag n) j r
  rw [dig_int, xor8_255 (by omega) (by omega), byt_toNat (flp_lt n hl)]
  unfold flp; rw [if_pos h]; omega
theorem mag_nat (N : Nat) : mag (N : Int) = N := by have := mag_pos (n := (N : Int)) (by omega); omega
theorem nd_nat {N j : Nat} (hm : N < 9223372036854775808) (h1 : N < 256 ^ j) (h2 : 0 < j → 256 ^ (j - 1) ≤ N) : nd (mag (N : Int)) = j := by rw [mag_nat]; exact nd_of hm h1 h2
theorem digit_pos (N : Nat) (j r : Nat) : bits .xor .u8 ((N : Int) / 2 ^ (8 * (j - 1 - r)) % 256) 0 = ((byt (flp (N : Int) (dig (mag (N : Int)) j r))).toNat : Int) := by
  have hl := dig_lt N j r
  rw [mag_nat, dig_int, xor8_0 (by omega) (by omega), byt_toNat (flp_lt _ hl)]
  unfold flp; rw [if_neg (by omega)]

set_option maxRecDepth 100000 in
set_option maxHeartbeats 2000000 in
theorem wInt_neg (n : Int) (w : World) (h1 : -9223372036854775808 ≤ n) (hneg : n < 0) :
    Calls Tryd.prog 52 #[.int .i64 n] w fun e W' => ∃ v, e = .returned v ∧ W'.ownsRow w.heap.size 5 1 v (encInt n).length (bytesV (encInt n)) ∧ Below w.heap.size w W' := by
  obtain ⟨i0, hi, hz0, hz1, hz2⟩ := info_parts info_u8
  have hmg := mag_lt h1 (by omega)
  have hx := not64 h1 hneg
  go_enter Tryd.func52, Tryd.ntmps52
  go_wp2
  go_step3
  go_wp2
  go_step3
  go_wp2
  go_loop [5] (fun t => ∃ j : Nat, j ≤ 8 ∧ t = .int .i64 j ∧ mag n < 256 ^ j) (fun t => (intOf t).toNat)
  case atStart => exact ⟨8, by omega, rfl, Nat.lt_trans hmg (by decide)⟩
  case round =>
    obtain ⟨j, hj, rfl, hlt⟩ := hrel
    have HL := Lib.hid hlt
    clear hlt
    have hh : bits .xor .u8 (128 + (j : Int)) 255 = ((byt (headB n j)).toNat : Int) := by
      rw [xor8_255 (by omega) (by omega), byt_toNat (headB_lt n hj)]; unfold headB; rw [if_pos hneg]; omega
    by_cases g0 : 0 < (j : Int)
    · by_cases g2 : 0 < (mag n : Int) / 2 ^ (8 * (j - 1))
      · have hJ : nd (mag n) = j := nd_of hmg HL.out (fun _ => shr_pos g2)
        go_wp2
        have HJ := Lib.hid hJ
        clear hJ
        go_loopw [6, 7] (fun v i wr => ∃ r : Nat, r ≤ j ∧ i = .int .i64 ((j : Int) - 1 - r) ∧ wr.ownsRow w.heap.size 5 1 v (r + 1) (bytesV (byt (headB n j) :: digsTo n j r)) ∧ Below w.heap.size w wr)
          (fun _ i _ => (intOf i + 1).toNat)
        case atStart => exact ⟨0, by omega, by go_num, own_new w 5 #[.int .u8 ((byt (headB n j)).toNat : Int)] _ (Nat.le_refl _) (by unfold maxLen; simp), (Below.refl _ w).alloc (Nat.le_refl _) _⟩
        case round =>
          obtain ⟨r, hr, rfl, hown, hnx⟩ := hrel
          by_cases hrj : r < j
          · have g1 : 0 ≤ (j : Int) - 1 - r := by omega
            have hd := digit_neg hneg j r
            have hs := digsTo_succ n j r
            have HS := Lib.hid hs
            clear hs
            go_wp2_with (at_builtin; refine wpList_append_own _ rfl _ _ 48 rfl w.heap.size 5 i0 (.int .u8 0) 1 1 Tryd.underlying48 hi hz0 hz1 hz2 rfl (by decide) _ _ _ rfl (hown.alloc _) ⟨wr.heap.size, 0, none⟩ 1 1 [.int .u8 ((byt (flp n (dig (mag n) j r))).toNat : Int)] rfl rfl (cell_one_new _ _ _) (by simp [Value.oneCell']) (by unfold maxLen; omega) (by omega) (by have := hnx.size; simp; omega) ?_; intro v' w1 hown' hgrow _)
            clear hd
            go_wp2
            go_roundw
            case rel => exact ⟨r + 1, by omega, by go_num, by rw [HS.out, ← List.cons_append, bytesV_append]; exact hown', (hnx.alloc hnx.size _).grown hgrow (by have := hnx.size; simp; omega) (fun b e => (hown.lt b e).1)⟩
            case measure => simp [intOf]; omega
          · have hrq : r = j := by omega
            clear hrj
            subst hrq
            go_wp2
            rw [Exit.noGoto_ret]
            go_ret
            exact ⟨_, rfl, by rw [encInt_length, encInt, HJ.out]; exact hown, hnx⟩
      · have hlt := shr_zero g2 (by omega)
        have HL2 := Lib.hid hlt
        clear hlt
        go_wp2
        go_round
        case rel => exact ⟨j - 1, by omega, by go_num, HL2.out⟩
        case measure => simp [intOf]; omega
    · have hJ : nd (mag n) = j := nd_of hmg HL.out (fun h => by omega)
      go_wp2
      have HJ := Lib.hid hJ
      clear hJ
      go_loopw [6, 7] (fun v i wr => ∃ r : Nat, r ≤ j ∧ i = .int .i64 ((j : Int) - 1 - r) ∧ wr.ownsRow w.heap.size 5 1 v (r + 1) (bytesV (byt (headB n j) :: digsTo n j r)) ∧ Below w.heap.size w wr)
        (fun _ i _ => (intOf i + 1).toNat)
      case atStart => exact ⟨0, by omega, by go_num, own_new w 5 #[.int .u8 ((byt (headB n j)).toNat : Int)] _ (Nat.le_refl _) (by unfold maxLen; simp), (Below.refl _ w).alloc (Nat.le_refl _) _⟩
      case round =>
        obtain ⟨r, hr, rfl, hown, hnx⟩ := hrel
        have hrj : r = j := by omega
        subst hrj
        go_wp2
        rw [Exit.noGoto_ret]
        go_ret
        exact ⟨_, rfl, by rw [encInt_length, encInt, HJ.out]; exact hown, hnx⟩

set_option maxRecDepth 100000 in
set_option maxHeartbeats 2000000 in
theorem wInt_pos (N : Nat) (w : World) (h2 : (N : Int) ≤ 9223372036854775807) :
    Calls Tryd.prog 52 #[.int .i64 (N : Int)] w fun e W' => ∃ v, e = .returned v ∧ W'.ownsRow w.heap.size 5 1 v (encInt (N : Int)).length (bytesV (encInt (N : Int))) ∧ Below w.heap.size w W' := by
  obtain ⟨i0, hi, hz0, hz1, hz2⟩ := info_parts info_u8
  have hmg : N < 9223372036854775808 := by omega
  go_enter Tryd.func52, Tryd.ntmps52
  go_wp2
  go_step3
  go_wp2
  go_step3
  go_wp2
  go_loop [5] (fun t => ∃ j : Nat, j ≤ 8 ∧ t = .int .i64 j ∧ N < 256 ^ j) (fun t => (intOf t).toNat)
  case atStart => exact ⟨8, by omega, rfl, Nat.lt_trans hmg (by decide)⟩
  case round =>
    obtain ⟨j, hj, rfl, hlt⟩ := hrel
    have HL := Lib.hid hlt
    clear hlt
    have hh : bits .xor .u8 (128 + (j : Int)) 0 = ((byt (headB (N : Int) j)).toNat : Int) := by
      rw [xor8_0 (by omega) (by omega), byt_toNat (headB_lt _ hj)]; unfold headB; rw [if_neg (by omega)]; omega
    by_cases g0 : 0 < (j : Int)
    · by_cases g2 : 0 < (N : Int) / 2 ^ (8 * (j - 1))
      · have hJ : nd (mag (N : Int)) = j := nd_nat hmg HL.out (fun _ => shr_pos g2)
        go_wp2
        have HJ := Lib.hid hJ
        clear hJ
        go_loopw [6, 7] (fun v i wr => ∃ r : Nat, r ≤ j ∧ i = .int .i64 ((j : Int) - 1 - r) ∧ wr.ownsRow w.heap.size 5 1 v (r + 1) (bytesV (byt (headB (N : Int) j) :: digsTo (N : Int) j r)) ∧ Below w.heap.size w wr)
          (fun _ i _ => (intOf i + 1).toNat)
        case atStart => exact ⟨0, by omega, by go_num, own_new w 5 #[.int .u8 ((byt (headB (N : Int) j)).toNat : Int)] _ (Nat.le_refl _) (by unfold maxLen; simp), (Below.refl _ w).alloc (Nat.le_refl _) _⟩
        case round =>
          obtain ⟨r, hr, rfl, hown, hnx⟩ := hrel
          by_cases hrj : r < j
          · have g1 : 0 ≤ (j : Int) - 1 - r := by omega
            have hd := digit_pos N j r
            have hs := digsTo_succ (N : Int) j r
            have HS := Lib.hid hs
            clear hs
            go_wp2_with (at_builtin; refine wpList_append_own _ rfl _ _ 48 rfl w.heap.size 5 i0 (.int .u8 0) 1 1 Tryd.underlying48 hi hz0 hz1 hz2 rfl (by decide) _ _ _ rfl (hown.alloc _) ⟨wr.heap.size, 0, none⟩ 1 1 [.int .u8 ((byt (flp (N : Int) (dig (mag (N : Int)) j r))).toNat : Int)] rfl rfl (cell_one_new _ _ _) (by simp [Value.oneCell']) (by unfold maxLen; omega) (by omega) (by have := hnx.size; simp; omega) ?_; intro v' w1 hown' hgrow _)
            clear hd
            go_wp2
            go_roundw
            case rel => exact ⟨r + 1, by omega, by go_num, by rw [HS.out, ← List.cons_append, bytesV_append]; exact hown', (hnx.alloc hnx.size _).grown hgrow (by have := hnx.size; simp; omega) (fun b e => (hown.lt b e).1)⟩
            case measure => simp [intOf]; omega
          · have hrq : r = j := by omega
            clear hrj
            subst hrq
            go_wp2
            rw [Exit.noGoto_ret]
            go_ret
            exact ⟨_, rfl, by rw [encInt_length, encInt, HJ.out]; exact hown, hnx⟩
      · have hlt := shr_zero g2 (by omega)
        have HL2 := Lib.hid hlt
        clear hlt
        go_wp2
        go_round
        case rel => exact ⟨j - 1, by omega, by go_num, HL2.out⟩
        case measure => simp [intOf]; omega
    · have hJ : nd (mag (N : Int)) = j := nd_nat hmg HL.out (fun h => by omega)
      go_wp2
      have HJ := Lib.hid hJ
      clear hJ
      go_loopw [6, 7] (fun v i wr => ∃ r : Nat, r ≤ j ∧ i = .int .i64 ((j : Int) - 1 - r) ∧ wr.ownsRow w.heap.size 5 1 v (r + 1) (bytesV (byt (headB (N : Int) j) :: digsTo (N : Int) j r)) ∧ Below w.heap.size w wr)
        (fun _ i _ => (intOf i + 1).toNat)
      case atStart => exact ⟨0, by omega, by go_num, own_new w 5 #[.int .u8 ((byt (headB (N : Int) j)).toNat : Int)] _ (Nat.le_refl _) (by unfold maxLen; simp), (Below.refl _ w).alloc (Nat.le_refl _) _⟩
      case round =>
        obtain ⟨r, hr, rfl, hown, hnx⟩ := hrel
        have hrj : r = j := by omega
        subst hrj
        go_wp2
        rw [Exit.noGoto_ret]
        go_ret
        exact ⟨_, rfl, by rw [encInt_length, encInt, HJ.out]; exact hown, hnx⟩

theorem wInt_any (n : Int) (w : World) (h1 : -9223372036854775808 ≤ n) (h2 : n ≤ 9223372036854775807) :
    Calls Tryd.prog 52 #[.int .i64 n] w fun e W' => ∃ v, e = .returned v ∧ W'.ownsRow w.heap.size 5 1 v (encInt n).length (bytesV (encInt n)) ∧ Below w.heap.size w W' := by
  by_cases h : n < 0
  · exact wInt_neg n w h1 h
  · obtain ⟨N, rfl⟩ := Int.eq_ofNat_of_zero_le (show 0 ≤ n by omega)
    exact wInt_pos N w h2
end Go.Proofs.YtnionejefpnfoaaDoor
