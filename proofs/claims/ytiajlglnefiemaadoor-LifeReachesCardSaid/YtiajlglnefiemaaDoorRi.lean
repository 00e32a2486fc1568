/- The reference's Int returns the encoding of its number. Conditions: the number is one of 64 bits. -/
import Derived.Test.YtiajlglnefiemaaDoorWi
namespace Go.Proofs.YtiajlglnefiemaaDoor
open Go.RowKit

/-- the low digits, the least first -/
def lowTo (m i : Nat) : List UInt8 := (List.range i).map fun r => byt (m / 256 ^ r % 256)
theorem lowTo_succ (m i : Nat) : lowTo m (i + 1) = lowTo m i ++ [byt (m / 256 ^ i % 256)] := by simp [lowTo, List.range_succ]
theorem lowTo_length (m i : Nat) : (lowTo m i).length = i := by simp [lowTo]
theorem lowTo_get (m i k : Nat) (h : k < i) : (lowTo m i)[k]?.getD 0 = byt (m / 256 ^ k % 256) := by simp [lowTo, List.getElem?_map, List.getElem?_range h]
theorem low_byte {q m i : Nat} (h : q = m / 256 ^ i) : (q : Int) % 256 = ((byt (m / 256 ^ i % 256)).toNat : Int) := by
  rw [← h, byt_toNat (Nat.mod_lt _ (by omega))]; omega
theorem low_le {q m i : Nat} (h : q = m / 256 ^ i) (h0 : 0 < q) : 256 ^ (i + 1 - 1) ≤ m := by
  rw [Nat.add_sub_cancel]
  have := (Nat.le_div_iff_mul_le (Nat.pow_pos (by omega : 0 < 256))).1 (show 1 ≤ m / 256 ^ i by omega)
  omega
theorem low_end {q m i : Nat} (h : q = m / 256 ^ i) (h0 : q = 0) : m < 256 ^ i := by
  have := (Nat.div_lt_iff_lt_mul (Nat.pow_pos (by omega : 0 < 256))).1 (show m / 256 ^ i < 1 by omega)
  omega
theorem low_i {q m i : Nat} (hm : m < 9223372036854775808) (h : q = m / 256 ^ i) (h0 : 0 < q) : i < 8 := by
  have h1 := low_le h h0
  rw [Nat.add_sub_cancel] at h1
  rcases Nat.lt_or_ge i 8 with h2 | h2
  · exact h2
  · have := Nat.pow_le_pow_right (n := 256) (by omega) h2
    have e : 256 ^ 8 = 18446744073709551616 := by decide
    omega
theorem byt_bound (x : Nat) : 0 ≤ ((byt x).toNat : Int) ∧ ((byt x).toNat : Int) ≤ 255 := by
  have := (byt x).toNat_lt; omega
theorem flp_neg {n : Int} (h : n < 0) (i r : Nat) : (255 : Int) - ((byt (mag n / 256 ^ (i - 1 - r) % 256)).toNat : Int) = ((byt (flp n (dig (mag n) i r))).toNat : Int) := by
  have hl := dig_lt (mag n) i r
  rw [byt_toNat (flp_lt n hl), byt_toNat (Nat.mod_lt _ (by omega))]
  unfold flp; rw [if_pos h]
  unfold dig at *; omega
theorem flp_pos (N i r : Nat) : 0 + ((byt (N / 256 ^ (i - 1 - r) % 256)).toNat : Int) = ((byt (flp (N : Int) (dig (mag (N : Int)) i r))).toNat : Int) := by
  have hl := dig_lt N i r
  rw [mag_nat, byt_toNat (flp_lt _ hl), byt_toNat (Nat.mod_lt _ (by omega))]
  unfold flp; rw [if_neg (by omega)]
  unfold dig; omega
theorem own_le {w : World} {base base' n size : Nat} {e : TypeId} {v : Value} {xs : List Value} (h : w.ownsRow base e size v n xs) (hb : base' ≤ base) : w.ownsRow base' e size v n xs := by
  refine ⟨h.1, ?_⟩
  rcases h.2 with h | ⟨g, cap, cur, h1, h2, h3⟩
  · exact .inl h
  · exact .inr ⟨g, cap, cur, h1, by omega, h3⟩

set_option maxRecDepth 100000 in
set_option maxHeartbeats 2000000 in
theorem rInt_neg (n : Int) (w : World) (h1 : -9223372036854775808 ≤ n) (hneg : n < 0) :
    Calls Tryd.prog 85 #[.int .i64 n] w fun e W' => ∃ v, e = .returned v ∧ W'.ownsRow w.heap.size 5 1 v (encInt n).length (bytesV (encInt n)) ∧ Below w.heap.size w W' := by
  obtain ⟨i0, hi, hz0, hz1, hz2⟩ := info_parts info_u8
  have hmg := mag_lt h1 (by omega)
  have hx : -1 - n = (mag n : Int) := (mag_neg hneg).symm
  go_enter Tryd.func85, Tryd.ntmps85
  go_wp2
  go_loopw [3, 4] (fun t v wr => ∃ i q : Nat, i ≤ 8 ∧ t = .int .i64 (q : Int) ∧ Hid (q = (mag n) / 256 ^ i) ∧ (q : Int) ≤ 9223372036854775807 ∧ (0 < i → 256 ^ (i - 1) ≤ (mag n)) ∧ wr.ownsRow w.heap.size 5 1 v i (bytesV (lowTo (mag n) i)) ∧ Below w.heap.size w wr)
    (fun t _ _ => (intOf t).toNat)
  case atStart => exact ⟨0, (mag n), by omega, rfl, by simp [Hid], by omega, by omega, World.ownsRow_nil _ _ _ _, Below.refl _ _⟩
  case round =>
    obtain ⟨i, q, hi8, rfl, HQ, hq, hlo, hown, hnx⟩ := hrel
    have HLO := Lib.hid hlo
    clear hlo
    by_cases hq0 : 0 < (q : Int)
    · have hb := low_byte HQ.out
      have hi7 := low_i hmg HQ.out (by omega)
      have hs := lowTo_succ (mag n) i
      have HS := Lib.hid hs
      clear hs
      go_wp2_with (at_builtin; refine wpList_append_own _ rfl _ _ 45 rfl w.heap.size 5 i0 (.int .u8 0) 1 1 Tryd.underlying45 hi hz0 hz1 hz2 rfl (by decide) _ _ _ rfl (hown.alloc _) ⟨wr.heap.size, 0, none⟩ 1 1 [.int .u8 ((byt ((mag n) / 256 ^ i % 256)).toNat : Int)] rfl rfl (cell_one_new _ _ _) (by simp [Value.oneCell']) (by unfold maxLen; omega) (by omega) (by first | (simp; done) | (have := hnx.size; simp; omega)) ?_; intro v' w1 hown' hgrow _)
      clear hb
      go_wp2
      go_roundw
      case rel => exact ⟨i + 1, q / 256, by omega, by go_num, by rw [HQ.out, Nat.pow_succ, Nat.div_div_eq_div_mul]; rfl, by omega, fun _ => low_le HQ.out (by omega), by rw [HS.out, bytesV_append]; exact hown', (hnx.alloc hnx.size _).grown hgrow (by have := hnx.size; simp; omega) (fun b e => (hown.lt b e).1)⟩
      case measure => simp [intOf]; omega
    · have hJ : nd (mag n) = i := nd_of hmg (low_end HQ.out (by omega)) HLO.out
      have HJ := Lib.hid hJ
      obtain ⟨A, c, rfl, hr⟩ := own_reads1 hown
      have hh : (127 : Int) - i = ((byt (headB n i)).toNat : Int) := by
        rw [byt_toNat (headB_lt _ hi8)]; unfold headB; rw [if_pos hneg]; omega
      clear hJ hown
      obtain ⟨wm, rfl⟩ : ∃ wm : World, wm = wr := ⟨_, rfl⟩
      go_wp2_with (at_builtin; refine wpList_append_own _ rfl _ _ 45 rfl wm.heap.size 5 i0 (.int .u8 0) 1 1 Tryd.underlying45 hi hz0 hz1 hz2 rfl (by decide) _ _ _ rfl ((World.ownsRow_nil wm wm.heap.size 5 1).alloc _) ⟨wm.heap.size, 0, none⟩ 1 1 [.int .u8 ((byt (headB n i)).toNat : Int)] rfl rfl (cell_one_new _ _ _) (by simp [Value.oneCell']) (by unfold maxLen; omega) (by omega) (by first | (simp; done) | (have := hnx.size; simp; omega)) ?_; intro v' w1 hown' hgrow _)
      have hg0 : Below wm.heap.size wm w1 := ((Below.refl _ wm).alloc (Nat.le_refl _) _).grown hgrow (by simp) (fun k e => absurd (show (none : Option Nat) = some k from e) (by simp))
      clear hgrow hh
      go_wp2
      go_loopw [6, 7, 8] (fun v t _ wr => ∃ r : Nat, r ≤ i ∧ t = .int .i64 ((i : Int) - 1 - r) ∧ wr.ownsRow wm.heap.size 5 1 v (r + 1) (bytesV (byt (headB n i) :: digsTo n i r)) ∧ Below wm.heap.size wm wr)
        (fun _ t _ _ => (intOf t + 1).toNat)
      case atStart => exact ⟨0, by omega, by go_num, by simpa [digsTo, bytesV] using hown', hg0⟩
      case round =>
        clear hown' hg0
        obtain ⟨r, hri, rfl, hown, hny⟩ := hrel
        by_cases hrj : r < i
        · have g1 : 0 ≤ (i : Int) - 1 - r := by omega
          have g2 : (i : Int) - 1 - r < (i : Int) := by omega
          obtain ⟨ad, rfl, -, -, hc⟩ := (hr.below hny).byte_at (k := i - 1 - r) (by omega)
          rw [lowTo_get (mag n) i (i - 1 - r) (by omega)] at hc
          have hl := dig_lt (mag n) i r
          have hs := digsTo_succ n i r
          have HS := Lib.hid hs
          clear hs
          have hd : (255 : Int) - ((byt ((mag n) / 256 ^ (i - 1 - r) % 256)).toNat : Int) = ((byt (flp n (dig (mag n) i r))).toNat : Int) := flp_neg hneg i r
          have hb := byt_bound (mag n / 256 ^ (i - 1 - r) % 256)
          skip
          go_wp2_with (at_builtin; refine wpList_append_own _ rfl _ _ 45 rfl wm.heap.size 5 i0 (.int .u8 0) 1 1 Tryd.underlying45 hi hz0 hz1 hz2 rfl (by decide) _ _ _ rfl (hown.alloc _) ⟨wr.heap.size, 0, none⟩ 1 1 [.int .u8 ((byt (flp n (dig (mag n) i r))).toNat : Int)] rfl rfl (cell_one_new _ _ _) (by simp [Value.oneCell']) (by unfold maxLen; omega) (by omega) (by first | (simp; done) | (have := hny.size; simp; omega)) ?_; intro v' w1 hown' hgrow _)
          clear hd
          go_wp2
          go_roundw
          case rel => exact ⟨r + 1, by omega, by go_num, by rw [HS.out, ← List.cons_append, bytesV_append]; exact hown', (hny.alloc hny.size _).grown hgrow (by have := hny.size; simp; omega) (fun b e => (hown.lt b e).1)⟩
          case measure => simp [intOf]; omega
        · have hrq : r = i := by omega
          clear hrj
          subst hrq
          go_wp2
          go_ret
          exact ⟨_, rfl, own_le (by rw [encInt_length, encInt, HJ.out]; exact hown) hnx.size, hnx.trans (hny.mono hnx.size)⟩

set_option maxRecDepth 100000 in
set_option maxHeartbeats 2000000 in
theorem rInt_pos (N : Nat) (w : World) (h2 : (N : Int) ≤ 9223372036854775807) :
    Calls Tryd.prog 85 #[.int .i64 (N : Int)] w fun e W' => ∃ v, e = .returned v ∧ W'.ownsRow w.heap.size 5 1 v (encInt (N : Int)).length (bytesV (encInt (N : Int))) ∧ Below w.heap.size w W' := by
  obtain ⟨i0, hi, hz0, hz1, hz2⟩ := info_parts info_u8
  have hmg : N < 9223372036854775808 := by omega
  go_enter Tryd.func85, Tryd.ntmps85
  go_wp2
  go_loopw [3, 4] (fun t v wr => ∃ i q : Nat, i ≤ 8 ∧ t = .int .i64 (q : Int) ∧ Hid (q = N / 256 ^ i) ∧ (q : Int) ≤ 9223372036854775807 ∧ (0 < i → 256 ^ (i - 1) ≤ N) ∧ wr.ownsRow w.heap.size 5 1 v i (bytesV (lowTo N i)) ∧ Below w.heap.size w wr)
    (fun t _ _ => (intOf t).toNat)
  case atStart => exact ⟨0, N, by omega, rfl, by simp [Hid], by omega, by omega, World.ownsRow_nil _ _ _ _, Below.refl _ _⟩
  case round =>
    obtain ⟨i, q, hi8, rfl, HQ, hq, hlo, hown, hnx⟩ := hrel
    have HLO := Lib.hid hlo
    clear hlo
    by_cases hq0 : 0 < (q : Int)
    · have hb := low_byte HQ.out
      have hi7 := low_i hmg HQ.out (by omega)
      have hs := lowTo_succ N i
      have HS := Lib.hid hs
      clear hs
      go_wp2_with (at_builtin; refine wpList_append_own _ rfl _ _ 45 rfl w.heap.size 5 i0 (.int .u8 0) 1 1 Tryd.underlying45 hi hz0 hz1 hz2 rfl (by decide) _ _ _ rfl (hown.alloc _) ⟨wr.heap.size, 0, none⟩ 1 1 [.int .u8 ((byt (N / 256 ^ i % 256)).toNat : Int)] rfl rfl (cell_one_new _ _ _) (by simp [Value.oneCell']) (by unfold maxLen; omega) (by omega) (by first | (simp; done) | (have := hnx.size; simp; omega)) ?_; intro v' w1 hown' hgrow _)
      clear hb
      go_wp2
      go_roundw
      case rel => exact ⟨i + 1, q / 256, by omega, by go_num, by rw [HQ.out, Nat.pow_succ, Nat.div_div_eq_div_mul]; rfl, by omega, fun _ => low_le HQ.out (by omega), by rw [HS.out, bytesV_append]; exact hown', (hnx.alloc hnx.size _).grown hgrow (by have := hnx.size; simp; omega) (fun b e => (hown.lt b e).1)⟩
      case measure => simp [intOf]; omega
    · have hJ : nd (mag (N : Int)) = i := nd_nat hmg (low_end HQ.out (by omega)) HLO.out
      have HJ := Lib.hid hJ
      obtain ⟨A, c, rfl, hr⟩ := own_reads1 hown
      have hh : (128 : Int) + i = ((byt (headB (N : Int) i)).toNat : Int) := by
        rw [byt_toNat (headB_lt _ hi8)]; unfold headB; rw [if_neg (by omega)]; omega
      clear hJ hown
      obtain ⟨wm, rfl⟩ : ∃ wm : World, wm = wr := ⟨_, rfl⟩
      go_wp2_with (at_builtin; refine wpList_append_own _ rfl _ _ 45 rfl wm.heap.size 5 i0 (.int .u8 0) 1 1 Tryd.underlying45 hi hz0 hz1 hz2 rfl (by decide) _ _ _ rfl ((World.ownsRow_nil wm wm.heap.size 5 1).alloc _) ⟨wm.heap.size, 0, none⟩ 1 1 [.int .u8 ((byt (headB (N : Int) i)).toNat : Int)] rfl rfl (cell_one_new _ _ _) (by simp [Value.oneCell']) (by unfold maxLen; omega) (by omega) (by first | (simp; done) | (have := hnx.size; simp; omega)) ?_; intro v' w1 hown' hgrow _)
      have hg0 : Below wm.heap.size wm w1 := ((Below.refl _ wm).alloc (Nat.le_refl _) _).grown hgrow (by simp) (fun k e => absurd (show (none : Option Nat) = some k from e) (by simp))
      clear hgrow hh
      go_wp2
      go_loopw [6, 7, 8] (fun v t _ wr => ∃ r : Nat, r ≤ i ∧ t = .int .i64 ((i : Int) - 1 - r) ∧ wr.ownsRow wm.heap.size 5 1 v (r + 1) (bytesV (byt (headB (N : Int) i) :: digsTo (N : Int) i r)) ∧ Below wm.heap.size wm wr)
        (fun _ t _ _ => (intOf t + 1).toNat)
      case atStart => exact ⟨0, by omega, by go_num, by simpa [digsTo, bytesV] using hown', hg0⟩
      case round =>
        clear hown' hg0
        obtain ⟨r, hri, rfl, hown, hny⟩ := hrel
        by_cases hrj : r < i
        · have g1 : 0 ≤ (i : Int) - 1 - r := by omega
          have g2 : (i : Int) - 1 - r < (i : Int) := by omega
          obtain ⟨ad, rfl, -, -, hc⟩ := (hr.below hny).byte_at (k := i - 1 - r) (by omega)
          rw [lowTo_get N i (i - 1 - r) (by omega)] at hc
          have hl := dig_lt N i r
          have hs := digsTo_succ (N : Int) i r
          have HS := Lib.hid hs
          clear hs
          have hd : 0 + ((byt (N / 256 ^ (i - 1 - r) % 256)).toNat : Int) = ((byt (flp (N : Int) (dig (mag (N : Int)) i r))).toNat : Int) := flp_pos N i r
          rw [Int.zero_add] at hd
          rw [hd] at hc; clear hd
          go_wp2_with (at_builtin; refine wpList_append_own _ rfl _ _ 45 rfl wm.heap.size 5 i0 (.int .u8 0) 1 1 Tryd.underlying45 hi hz0 hz1 hz2 rfl (by decide) _ _ _ rfl (hown.alloc _) ⟨wr.heap.size, 0, none⟩ 1 1 [.int .u8 ((byt (flp (N : Int) (dig (mag (N : Int)) i r))).toNat : Int)] rfl rfl (cell_one_new _ _ _) (by simp [Value.oneCell']) (by unfold maxLen; omega) (by omega) (by first | (simp; done) | (have := hny.size; simp; omega)) ?_; intro v' w1 hown' hgrow _)
          skip
          go_wp2
          go_roundw
          case rel => exact ⟨r + 1, by omega, by go_num, by rw [HS.out, ← List.cons_append, bytesV_append]; exact hown', (hny.alloc hny.size _).grown hgrow (by have := hny.size; simp; omega) (fun b e => (hown.lt b e).1)⟩
          case measure => simp [intOf]; omega
        · have hrq : r = i := by omega
          clear hrj
          subst hrq
          go_wp2
          go_ret
          exact ⟨_, rfl, own_le (by rw [encInt_length, encInt, HJ.out]; exact hown) hnx.size, hnx.trans (hny.mono hnx.size)⟩

theorem rInt_any (n : Int) (w : World) (h1 : -9223372036854775808 ≤ n) (h2 : n ≤ 9223372036854775807) :
    Calls Tryd.prog 85 #[.int .i64 n] w fun e W' => ∃ v, e = .returned v ∧ W'.ownsRow w.heap.size 5 1 v (encInt n).length (bytesV (encInt n)) ∧ Below w.heap.size w W' := by
  by_cases h : n < 0
  · exact rInt_neg n w h1 h
  · obtain ⟨N, rfl⟩ := Int.eq_ofNat_of_zero_le (show 0 ≤ n by omega)
    exact rInt_pos N w h2
end Go.Proofs.YtiajlglnefiemaaDoor
