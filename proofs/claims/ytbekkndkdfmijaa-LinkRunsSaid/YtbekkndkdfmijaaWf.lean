/- The program's GetInt, for any bytes, returns what decI says: the integer and its length, or the error; nothing that was there is written. Conditions: at most 100000 bytes. -/
import Derived.Test.YtbekkndkdfmijaaWe
import Derived.OwnWalk
namespace Go.Proofs.Ytbekkndkdfmijaa
open Go.RowKit

def retI (r : Except Nat (Int × Nat)) : Value :=
  match r with
  | .error e => .tuple #[.int .i64 0, .int .i64 0, .int .i64 (e : Int)]
  | .ok (n, u) => .tuple #[.int .i64 n, .int .i64 (u : Int), .int .i64 0]

theorem decI_cons (h : UInt8) (t : List UInt8) (neg : Bool) (k : Nat) (hneg : decide (h.toNat < 128) = neg) (hk : fl neg h - 128 = k) : decI (h :: t) =
    if 8 < k then .error 2
    else if t.length < k then .error 3
    else if 0 < k ∧ fl neg (t[0]?.getD 0) = 0 then .error 2
    else if 9223372036854775808 ≤ num ((t.take k).map (fl neg)) then .error 2
    else .ok (if neg then -1 - (num ((t.take k).map (fl neg)) : Int) else (num ((t.take k).map (fl neg)) : Int), k + 1) := by
  subst hneg hk; rfl
theorem xor_fl0 (d : UInt8) : bits .xor .u8 (d.toNat : Int) 0 = (fl false d : Int) := by
  have := d.toNat_lt
  rw [xor8_0 (by omega) (by omega)]; rfl
theorem xor_fl1 (d : UInt8) : bits .xor .u8 (d.toNat : Int) 255 = (fl true d : Int) := by
  have := d.toNat_lt
  rw [xor8_255 (by omega) (by omega)]; unfold fl; simp; omega
theorem or_byte (M d : Nat) (hM : M < 72057594037927936) (hd : d < 256) : bits .or .u64 ((M : Int) * 256) (d : Int) = ((M * 256 + d : Nat) : Int) := by
  have := u64_or_nat (M * 256) d (by omega) (by omega)
  have e : ((M * 256 : Nat) : Int) = (M : Int) * 256 := by omega
  rw [e] at this
  rw [this, Nat.mul_comm M 256, ← Nat.two_pow_add_eq_or_of_lt (i := 8) hd M]
theorem num_take (neg : Bool) (t : List UInt8) (j : Nat) (hj : j < t.length) : num ((t.take (j + 1)).map (fl neg)) = num ((t.take j).map (fl neg)) * 256 + fl neg (t[j]?.getD 0) := by
  rw [List.take_add_one, List.getElem?_eq_getElem hj, Option.toList_some, List.map_append, List.map_singleton, num_snoc, Option.getD_some]
theorem num_take_lt (neg : Bool) (t : List UInt8) (j : Nat) : num ((t.take j).map (fl neg)) < 256 ^ j := by
  refine Nat.lt_of_lt_of_le (num_lt _ fun d hd => ?_) (Nat.pow_le_pow_right (by omega) (by simp; omega))
  obtain ⟨x, -, rfl⟩ := List.mem_map.1 hd
  exact fl_lt _ _

set_option maxRecDepth 100000 in
set_option maxHeartbeats 1000000 in
theorem wGetInt_nil (A : Option Addr) (c : Nat) (w : World) :
    Calls Try.prog 56 #[.slice A 0 c] w fun e W' => e = .returned (retI (.error 3)) ∧ Drawn w W' := by
  go_enter Try.func56, Try.ntmps56
  go_wp2
  go_ret3
  exact ⟨rfl, 0, rfl⟩
theorem not64m (M : Nat) (hM : M < 9223372036854775808) : bits .xor .u64 IntKind.u64.max (M : Int) = 18446744073709551615 - (M : Int) := by
  rw [show IntKind.u64.max = 18446744073709551615 from by decide]
  have := u64_xor_nat 18446744073709551615 M (by omega) (by omega)
  rw [show ((18446744073709551615 : Nat) : Int) = 18446744073709551615 from rfl] at this
  rw [this, xor_ones 64 M (by omega)]
  omega
theorem back64 (M : Nat) (hM : M < 9223372036854775808) : IntKind.i64.wrap (18446744073709551615 - (M : Int)) = -1 - (M : Int) := by
  rw [IntKind.wrap_i64]; omega
theorem not0 : bits .xor .u64 IntKind.u64.max 0 = 18446744073709551615 := by
  have := not64m 0 (by decide)
  rw [show ((0 : Nat) : Int) = 0 from rfl] at this
  rw [this]; rfl


set_option maxRecDepth 100000 in
set_option maxHeartbeats 1000000 in
theorem wGetInt_pos (ad : Addr) (n c : Nat) (h : UInt8) (t : List UInt8) (w : World) (hl : Reads w w.heap.size 1 (some ad) n (bytesV (h :: t))) (hn : n ≤ 100000) (hnc : n ≤ c) (hp : 128 ≤ h.toNat) :
    Calls Try.prog 56 #[.slice (some ad) n c] w fun e W' => e = .returned (retI (decI (h :: t))) ∧ Drawn w W' := by
  have hh := h.toNat_lt
  obtain ⟨k, hk⟩ : ∃ k : Nat, h.toNat = 128 + k := ⟨h.toNat - 128, by omega⟩
  have hdec := decI_cons h t false k (by simp; omega) (by unfold fl; simp; omega)
  have el := hl.byte_len
  rw [List.length_cons] at el
  have g0 : (n : Int) ≠ 0 := by omega
  have c0 : w.cell? ad = some (.int .u8 ((h.toNat : Nat) : Int)) := by
    obtain ⟨ad', e1, -, -, e2⟩ := hl.byte_at (k := 0) (by omega)
    cases e1
    simpa [Addr.add] using e2
  have c1 : ∀ j, j < t.length → w.cell? ⟨ad.block, ad.off + 1 + j, none⟩ = some (.int .u8 (((t[j]?.getD 0).toNat : Nat) : Int)) := by
    intro j hj
    obtain ⟨ad', e1, -, -, e2⟩ := hl.byte_at (k := j + 1) (by omega)
    cases e1
    have e3 : ad.add (j + 1) = ⟨ad.block, ad.off + 1 + j, none⟩ := by
      unfold Addr.add; rw [if_neg (by omega)]; congr 1; omega
    rw [← e3, e2]; rfl
  have g1 : ¬ ((h.toNat : Int) < 128) := by omega
  obtain ⟨J, hJ⟩ : ∃ J : Nat, J = 128 + k := ⟨_, rfl⟩
  have x0 : bits .xor .u8 (h.toNat : Int) 0 = (J : Int) := by rw [xor_fl0]; unfold fl; simp; omega
  have x2 : IntKind.i64.wrap ((J : Int) - 128) = (k : Int) := by rw [IntWalk.i64_in _ (by omega)]; omega
  have hJb : (J : Int) ≤ 255 := by omega
  obtain ⟨H, hH⟩ : ∃ H : Nat, H = h.toNat := ⟨_, rfl⟩
  rw [← hH] at g1 x0 c0 hk hh
  have hkb : (k : Int) ≤ 127 := by omega
  have HK := Lib.hid hk
  clear hp hk hJ
  have HH := Lib.hid hH
  clear hH
  have HC := Lib.hid c1
  clear c1
  by_cases g2 : 8 < (k : Int)
  · rw [hdec, if_pos (by omega)]
    go_enter Try.func56, Try.ntmps56
    go_wp2
    go_ret3
    exact ⟨rfl, 0, rfl⟩
  by_cases g3 : (n : Int) ≤ (k : Int)
  · rw [hdec, if_neg (by omega), if_pos (by omega)]
    go_enter Try.func56, Try.ntmps56
    go_wp2
    go_ret3
    exact ⟨rfl, 0, rfl⟩
  by_cases g4 : 0 < (k : Int)
  · have c2 : w.cell? ⟨ad.block, ad.off + 1, none⟩ = some (.int .u8 (((t[0]?.getD 0).toNat : Nat) : Int)) := by simpa using HC.out 0 (by omega)
    have x1 := xor_fl0 (t[0]?.getD 0)
    obtain ⟨d0, hd0⟩ : ∃ d0 : Nat, d0 = fl false (t[0]?.getD 0) := ⟨_, rfl⟩
    rw [← hd0] at x1
    have HD := Lib.hid hd0
    clear hd0
    obtain ⟨D, hD⟩ : ∃ D : Nat, D = (t[0]?.getD 0).toNat := ⟨_, rfl⟩
    rw [← hD] at x1 c2
    clear hD
    by_cases g5 : d0 = 0
    · rw [hdec, if_neg (by omega), if_neg (by omega), if_pos ⟨by omega, by rw [← HD.out]; omega⟩]
      subst g5
      go_enter Try.func56, Try.ntmps56
      go_wp2
      go_ret3
      exact ⟨rfl, 0, rfl⟩
    · have g6 : (d0 : Int) ≠ 0 := by omega
      rw [hdec, if_neg (by omega), if_neg (by omega), if_neg (by rintro ⟨-, h⟩; rw [← HD.out] at h; omega)]
      clear hdec
      obtain ⟨R, hR⟩ : ∃ R : Except Nat (Int × Nat), R = if 9223372036854775808 ≤ num ((t.take k).map (fl false)) then .error 2 else .ok (if false = true then -1 - (num ((t.take k).map (fl false)) : Int) else (num ((t.take k).map (fl false)) : Int), k + 1) := ⟨_, rfl⟩
      rw [← hR]
      have HR := Lib.hid hR
      clear hR
      have b1 : (k : Int) + 1 ≤ (c : Int) := by omega
      have hk8 : k ≤ 8 := by omega
      go_enter Try.func56, Try.ntmps56
      go_wp2
      go_loop [7, 48] (fun m i => ∃ j : Nat, j ≤ k ∧ i = .int .i64 j ∧ m = .int .u64 (num ((t.take j).map (fl false)))) (fun _ i => k - (intOf i).toNat)
      case atStart => exact ⟨0, by omega, rfl, rfl⟩
      case round =>
        obtain ⟨j, hj, rfl, rfl⟩ := hrel
        by_cases hlt : j < k
        · have hji : (j : Int) < (k : Int) := by omega
          have c3 := HC.out j (by omega)
          have hM := num_take_lt false t j
          have hM2 : 256 ^ j ≤ 256 ^ 7 := Nat.pow_le_pow_right (by omega) (by omega)
          have hs := num_take false t j (by omega)
          have hd := fl_lt false (t[j]?.getD 0)
          have x3 := xor_fl0 (t[j]?.getD 0)
          generalize num ((t.take j).map (fl false)) = M at *
          generalize fl false (t[j]?.getD 0) = d at *
          generalize (t[j]?.getD 0).toNat = D3 at *
          have x4 := or_byte M d (by omega) hd
          have x5 : IntKind.u64.wrap ((M : Int) * 256) = (M : Int) * 256 := by rw [IntKind.wrap_u64]; omega
          have HS := Lib.hid hs
          clear hs
          go_wp2
          go_round
          case rel => exact ⟨j + 1, by omega, by go_num, by rw [HS.out]; go_num⟩
          case measure => simp [intOf]; omega
        · obtain rfl : j = k := by omega
          have hM := num_take_lt false t j
          have hM2 : 256 ^ j ≤ 256 ^ 8 := Nat.pow_le_pow_right (by omega) (by omega)
          have HR2 := HR
          generalize num ((t.take j).map (fl false)) = M at *
          by_cases g7 : 9223372036854775808 ≤ M
          · have y1 : ¬ ((M : Int) / 9223372036854775808 ≤ 0) := by omega
            have y2 : 0 < (M : Int) / 9223372036854775808 := by omega
            rw [if_pos g7] at HR2
            go_wp2
            go_ret3
            exact ⟨by rw [HR2.out]; rfl, 0, rfl⟩
          · have y1 : ¬ (0 < (M : Int) / 9223372036854775808) := by omega
            rw [if_neg g7] at HR2
            have z1 := not64m M (by omega)
            have z2 := back64 M (by omega)
            have z3 : IntKind.i64.wrap (M : Int) = (M : Int) := IntWalk.i64_in _ (by omega)
            have z4 : 18446744073709551616 - 1 - (M : Int) = 18446744073709551615 - (M : Int) := by omega
            go_wp2
            go_ret3
            exact ⟨by rw [HR2.out]; simp [retI]; try (unfold wrap64; omega), 0, rfl⟩
  · obtain rfl : k = 0 := by omega
    rw [hdec, if_neg (by omega), if_neg (by omega), if_neg (by omega)]
    clear hdec
    by_cases hc1 : c = 1
    · subst hc1
      go_enter Try.func56, Try.ntmps56
      go_wp2
      go_loop [7, 48] (fun m i => i = .int .i64 0 ∧ m = .int .u64 0) (fun _ i => 0)
      case atStart => exact ⟨rfl, rfl⟩
      case round =>
        obtain ⟨rfl, rfl⟩ := hrel
        go_wp2
        go_ret3
        exact ⟨by simp [retI, num]; try (rw [not0]; unfold wrap64; omega), 0, rfl⟩
    · have b0 : (1 : Int) < (c : Int) := by omega
      go_enter Try.func56, Try.ntmps56
      go_wp2
      go_loop [7, 48] (fun m i => i = .int .i64 0 ∧ m = .int .u64 0) (fun _ i => 0)
      case atStart => exact ⟨rfl, rfl⟩
      case round =>
        obtain ⟨rfl, rfl⟩ := hrel
        go_wp2
        go_ret3
        exact ⟨by simp [retI, num]; try (rw [not0]; unfold wrap64; omega), 0, rfl⟩


set_option maxRecDepth 100000 in
set_option maxHeartbeats 1000000 in
theorem wGetInt_neg (ad : Addr) (n c : Nat) (h : UInt8) (t : List UInt8) (w : World) (hl : Reads w w.heap.size 1 (some ad) n (bytesV (h :: t))) (hn : n ≤ 100000) (hnc : n ≤ c) (hp : h.toNat < 128) :
    Calls Try.prog 56 #[.slice (some ad) n c] w fun e W' => e = .returned (retI (decI (h :: t))) ∧ Drawn w W' := by
  have hh := h.toNat_lt
  obtain ⟨k, hk⟩ : ∃ k : Nat, h.toNat + k = 127 := ⟨127 - h.toNat, by omega⟩
  have hdec := decI_cons h t true k (by simp; omega) (by unfold fl; simp; omega)
  have el := hl.byte_len
  rw [List.length_cons] at el
  have g0 : (n : Int) ≠ 0 := by omega
  have c0 : w.cell? ad = some (.int .u8 ((h.toNat : Nat) : Int)) := by
    obtain ⟨ad', e1, -, -, e2⟩ := hl.byte_at (k := 0) (by omega)
    cases e1
    simpa [Addr.add] using e2
  have c1 : ∀ j, j < t.length → w.cell? ⟨ad.block, ad.off + 1 + j, none⟩ = some (.int .u8 (((t[j]?.getD 0).toNat : Nat) : Int)) := by
    intro j hj
    obtain ⟨ad', e1, -, -, e2⟩ := hl.byte_at (k := j + 1) (by omega)
    cases e1
    have e3 : ad.add (j + 1) = ⟨ad.block, ad.off + 1 + j, none⟩ := by
      unfold Addr.add; rw [if_neg (by omega)]; congr 1; omega
    rw [← e3, e2]; rfl
  have g1 : (h.toNat : Int) < 128 := by omega
  obtain ⟨J, hJ⟩ : ∃ J : Nat, J = 128 + k := ⟨_, rfl⟩
  have x0 : bits .xor .u8 (h.toNat : Int) 255 = (J : Int) := by rw [xor_fl1]; unfold fl; simp; omega
  have x2 : IntKind.i64.wrap ((J : Int) - 128) = (k : Int) := by rw [IntWalk.i64_in _ (by omega)]; omega
  have hJb : (J : Int) ≤ 255 := by omega
  obtain ⟨H, hH⟩ : ∃ H : Nat, H = h.toNat := ⟨_, rfl⟩
  rw [← hH] at g1 x0 c0 hk hh
  have hkb : (k : Int) ≤ 127 := by omega
  have HK := Lib.hid hk
  clear hp hk hJ
  have HH := Lib.hid hH
  clear hH
  have HC := Lib.hid c1
  clear c1
  by_cases g2 : 8 < (k : Int)
  · rw [hdec, if_pos (by omega)]
    go_enter Try.func56, Try.ntmps56
    go_wp2
    go_ret3
    exact ⟨rfl, 0, rfl⟩
  by_cases g3 : (n : Int) ≤ (k : Int)
  · rw [hdec, if_neg (by omega), if_pos (by omega)]
    go_enter Try.func56, Try.ntmps56
    go_wp2
    go_ret3
    exact ⟨rfl, 0, rfl⟩
  by_cases g4 : 0 < (k : Int)
  · have c2 : w.cell? ⟨ad.block, ad.off + 1, none⟩ = some (.int .u8 (((t[0]?.getD 0).toNat : Nat) : Int)) := by simpa using HC.out 0 (by omega)
    have x1 := xor_fl1 (t[0]?.getD 0)
    obtain ⟨d0, hd0⟩ : ∃ d0 : Nat, d0 = fl true (t[0]?.getD 0) := ⟨_, rfl⟩
    rw [← hd0] at x1
    have HD := Lib.hid hd0
    clear hd0
    obtain ⟨D, hD⟩ : ∃ D : Nat, D = (t[0]?.getD 0).toNat := ⟨_, rfl⟩
    rw [← hD] at x1 c2
    clear hD
    by_cases g5 : d0 = 0
    · rw [hdec, if_neg (by omega), if_neg (by omega), if_pos ⟨by omega, by rw [← HD.out]; omega⟩]
      subst g5
      go_enter Try.func56, Try.ntmps56
      go_wp2
      go_ret3
      exact ⟨rfl, 0, rfl⟩
    · have g6 : (d0 : Int) ≠ 0 := by omega
      rw [hdec, if_neg (by omega), if_neg (by omega), if_neg (by rintro ⟨-, h⟩; rw [← HD.out] at h; omega)]
      clear hdec
      obtain ⟨R, hR⟩ : ∃ R : Except Nat (Int × Nat), R = if 9223372036854775808 ≤ num ((t.take k).map (fl true)) then .error 2 else .ok (if true = true then -1 - (num ((t.take k).map (fl true)) : Int) else (num ((t.take k).map (fl true)) : Int), k + 1) := ⟨_, rfl⟩
      rw [← hR]
      have HR := Lib.hid hR
      clear hR
      have b1 : (k : Int) + 1 ≤ (c : Int) := by omega
      have hk8 : k ≤ 8 := by omega
      go_enter Try.func56, Try.ntmps56
      go_wp2
      go_loop [7, 48] (fun m i => ∃ j : Nat, j ≤ k ∧ i = .int .i64 j ∧ m = .int .u64 (num ((t.take j).map (fl true)))) (fun _ i => k - (intOf i).toNat)
      case atStart => exact ⟨0, by omega, rfl, rfl⟩
      case round =>
        obtain ⟨j, hj, rfl, rfl⟩ := hrel
        by_cases hlt : j < k
        · have hji : (j : Int) < (k : Int) := by omega
          have c3 := HC.out j (by omega)
          have hM := num_take_lt true t j
          have hM2 : 256 ^ j ≤ 256 ^ 7 := Nat.pow_le_pow_right (by omega) (by omega)
          have hs := num_take true t j (by omega)
          have hd := fl_lt true (t[j]?.getD 0)
          have x3 := xor_fl1 (t[j]?.getD 0)
          generalize num ((t.take j).map (fl true)) = M at *
          generalize fl true (t[j]?.getD 0) = d at *
          generalize (t[j]?.getD 0).toNat = D3 at *
          have x4 := or_byte M d (by omega) hd
          have x5 : IntKind.u64.wrap ((M : Int) * 256) = (M : Int) * 256 := by rw [IntKind.wrap_u64]; omega
          have HS := Lib.hid hs
          clear hs
          go_wp2
          go_round
          case rel => exact ⟨j + 1, by omega, by go_num, by rw [HS.out]; go_num⟩
          case measure => simp [intOf]; omega
        · obtain rfl : j = k := by omega
          have hM := num_take_lt true t j
          have hM2 : 256 ^ j ≤ 256 ^ 8 := Nat.pow_le_pow_right (by omega) (by omega)
          have HR2 := HR
          generalize num ((t.take j).map (fl true)) = M at *
          by_cases g7 : 9223372036854775808 ≤ M
          · have y1 : ¬ ((M : Int) / 9223372036854775808 ≤ 0) := by omega
            have y2 : 0 < (M : Int) / 9223372036854775808 := by omega
            rw [if_pos g7] at HR2
            go_wp2
            go_ret3
            exact ⟨by rw [HR2.out]; rfl, 0, rfl⟩
          · have y1 : ¬ (0 < (M : Int) / 9223372036854775808) := by omega
            rw [if_neg g7] at HR2
            have z1 := not64m M (by omega)
            have z2 := back64 M (by omega)
            have z3 : IntKind.i64.wrap (M : Int) = (M : Int) := IntWalk.i64_in _ (by omega)
            have z4 : 18446744073709551616 - 1 - (M : Int) = 18446744073709551615 - (M : Int) := by omega
            go_wp2
            go_ret3
            exact ⟨by rw [HR2.out]; simp [retI]; try (unfold wrap64; omega), 0, rfl⟩
  · obtain rfl : k = 0 := by omega
    rw [hdec, if_neg (by omega), if_neg (by omega), if_neg (by omega)]
    clear hdec
    by_cases hc1 : c = 1
    · subst hc1
      go_enter Try.func56, Try.ntmps56
      go_wp2
      go_loop [7, 48] (fun m i => i = .int .i64 0 ∧ m = .int .u64 0) (fun _ i => 0)
      case atStart => exact ⟨rfl, rfl⟩
      case round =>
        obtain ⟨rfl, rfl⟩ := hrel
        go_wp2
        go_ret3
        exact ⟨by simp [retI, num]; try (rw [not0]; unfold wrap64; omega), 0, rfl⟩
    · have b0 : (1 : Int) < (c : Int) := by omega
      go_enter Try.func56, Try.ntmps56
      go_wp2
      go_loop [7, 48] (fun m i => i = .int .i64 0 ∧ m = .int .u64 0) (fun _ i => 0)
      case atStart => exact ⟨rfl, rfl⟩
      case round =>
        obtain ⟨rfl, rfl⟩ := hrel
        go_wp2
        go_ret3
        exact ⟨by simp [retI, num]; try (rw [not0]; unfold wrap64; omega), 0, rfl⟩

theorem wGetInt_any (A : Option Addr) (n c : Nat) (l : List UInt8) (w : World) (hl : Reads w w.heap.size 1 A n (bytesV l)) (hn : n ≤ 100000) (hnc : n ≤ c) :
    Calls Try.prog 56 #[.slice A n c] w fun e W' => e = .returned (retI (decI l)) ∧ Drawn w W' := by
  have el := hl.byte_len
  cases l with
  | nil =>
    obtain rfl : n = 0 := by simpa using el.symm
    exact wGetInt_nil A c w
  | cons h t =>
    obtain ⟨ad, rfl, -⟩ := hl.byte_at (k := 0) (by simp at el; omega)
    by_cases hp : h.toNat < 128
    · exact wGetInt_neg ad n c h t w hl hn hnc hp
    · exact wGetInt_pos ad n c h t w hl hn hnc (by omega)
end Go.Proofs.Ytbekkndkdfmijaa
