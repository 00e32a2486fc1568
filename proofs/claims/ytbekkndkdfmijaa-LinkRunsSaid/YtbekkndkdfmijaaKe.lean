/- The reference's Around and Few; sealed bytes, by the program and by the reference. Conditions: the bytes are at most a million. -/
import Derived.Test.YtbekkndkdfmijaaKd
set_option linter.unusedSimpArgs false
set_option linter.unusedVariables false
namespace Go.Proofs.Ytbekkndkdfmijaa
open Go.RowKit

/-- What Around gives. -/
def around (n m : Int) : Int := if m < 1 then 0 else (if n < 0 then -(n + 1) else n) % m
theorem around_lt (n m : Int) (h : 1 ≤ m) : 0 ≤ around n m ∧ around n m < m := by
  unfold around; rw [if_neg (by omega)]
  exact ⟨Int.emod_nonneg _ (by omega), Int.emod_lt_of_pos _ (by omega)⟩
theorem around_zero (n m : Int) (h : m < 1) : around n m = 0 := by unfold around; rw [if_pos h]
theorem around_neg (n m : Int) (h1 : n < 0) (h2 : ¬ m < 1) : -(n + 1).tmod m = around n m := by
  unfold around; rw [if_neg h2, if_pos h1, ← Int.neg_tmod, Int.tmod_eq_emod_of_nonneg (by omega)]
theorem around_pos (n m : Int) (h1 : ¬ n < 0) (h2 : ¬ m < 1) : n % m = around n m := by
  unfold around; rw [if_neg h2, if_neg h1]
theorem around_any (n m : Int) (w : World) (hn1 : -9223372036854775808 ≤ n) (hn2 : n ≤ 9223372036854775807) (hm1 : -9223372036854775808 ≤ m) (hm2 : m ≤ 9223372036854775807) :
    Calls Try.prog 10 #[.int .i64 n, .int .i64 m] w fun e w' => e = .returned (.int .i64 (around n m)) ∧ w' = w := by
  by_cases h1 : n < 0 <;> by_cases h2 : m < 1
  all_goals
    go_enter Try.func10, Try.ntmps10
    go_wp2
    go_ret
  · exact ⟨ret_i64 (around_zero _ _ h2).symm, rfl⟩
  · exact ⟨ret_i64 (around_neg _ _ h1 (by omega)), rfl⟩
  · exact ⟨ret_i64 (around_zero _ _ h2).symm, rfl⟩
  · exact ⟨ret_i64 (around_pos _ _ (by omega) (by omega)), rfl⟩


set_option maxRecDepth 100000 in
set_option maxHeartbeats 2000000 in
theorem few_any (A : Option Addr) (n c m : Nat) (l : List UInt8) (w : World) (hl : Reads w w.heap.size 1 A n (bytesV l)) (hnc : n ≤ c) (hn : n ≤ maxLen) (hm : m ≤ 1000000) :
    Calls Try.prog 16 #[.slice A n c, .int .i64 (m : Int)] w fun e W' => ∃ v, e = .returned v ∧ W'.ownsRow w.heap.size 5 1 v (l.take m).length (bytesV (l.take m)) ∧ Below w.heap.size w W' := by
  obtain ⟨i0, hi, hz0, hz1, hz2⟩ := info_parts info_u8
  have el := hl.byte_len
  subst el
  have hN : (l.length : Int) ≤ 9223372036854775807 := by unfold maxLen at hn; omega
  by_cases hlt : m < l.length
  · have h1 : (m : Int) < (l.length : Int) := by omega
    have hr := hl.take (k := m) (by omega)
    rw [Nat.mul_one, show (bytesV l).take m = bytesV (l.take m) by simp [bytesV, List.map_take]] at hr
    have hlen : (l.take m).length = m := by rw [List.length_take]; omega
    rw [hlen]
    generalize l.take m = t at *
    go_enter Try.func16, Try.ntmps16
    go_wp2_with (at_builtin; refine wpList_append_reads _ rfl _ _ 33 rfl w.heap.size 5 i0 (.int .u8 0) 1 1 Try.underlying33 hi hz0 hz1 hz2 rfl (by decide) _ _ _ rfl (World.ownsRow_nil _ _ _ _) _ A m _ (bytesV t) rfl hr (bytesV_one _) (by unfold maxLen; omega) (by omega) (Nat.le_refl _) ?_; intro v1 w1 o1 g1)
    go_ret
    have o2 : w1.ownsRow w.heap.size 5 1 v1 m (bytesV t) := by simpa using o1
    exact ⟨_, rfl, o2, (Below.refl _ w).grown g1 (Nat.le_refl _) (fun k e => by cases e)⟩
  · have h1 : (l.length : Int) ≤ (m : Int) := by omega
    have ht : l.take m = l := List.take_of_length_le (by omega)
    rw [ht]
    have hlm : l.length ≤ 1000000 := by omega
    clear ht
    go_enter Try.func16, Try.ntmps16
    go_wp2_with (at_builtin; refine wpList_append_reads _ rfl _ _ 33 rfl w.heap.size 5 i0 (.int .u8 0) 1 1 Try.underlying33 hi hz0 hz1 hz2 rfl (by decide) _ _ _ rfl (World.ownsRow_nil _ _ _ _) _ A l.length _ (bytesV l) rfl hl (bytesV_one _) (by unfold maxLen; omega) (by omega) (Nat.le_refl _) ?_; intro v1 w1 o1 g1)
    go_ret
    have o2 : w1.ownsRow w.heap.size 5 1 v1 l.length (bytesV l) := by simpa using o1
    exact ⟨_, rfl, o2, (Below.refl _ w).grown g1 (Nat.le_refl _) (fun k e => by cases e)⟩

set_option maxRecDepth 100000 in
set_option maxHeartbeats 2000000 in
theorem wSeal_any (key : Nat) (A : Option Addr) (n c : Nat) (l : List UInt8) (w : World) (hk : key < 18446744073709551616) (hl : Reads w w.heap.size 1 A n (bytesV l)) (hn : n ≤ 1000000) :
    Calls Try.prog 24 #[.int .u64 (key : Int), .slice A n c] w fun e W' => ∃ v, e = .returned v ∧ W'.ownsRow w.heap.size 5 1 v (sealL key l).length (bytesV (sealL key l)) ∧ Below w.heap.size w W' := by
  obtain ⟨C, hC⟩ : ∃ C, C = (bytesV (sealB key l)).toArray := ⟨_, rfl⟩
  have HC := Lib.hid hC
  have hs := seal_any key A n c l w hk hl hn
  rw [← hC] at hs
  have G1 : Hid ((Try.prog.info? 79).map (·.size) = some C.size) := Lib.hid (by rw [info79, hC, List.size_toArray, bytesV_length, lowTo_length])
  have G2 : Hid ((#[.int .u8 0, .int .u8 0, .int .u8 0, .int .u8 0, .int .u8 0, .int .u8 0, .int .u8 0, .int .u8 0] : Array Value).size = C.size) := Lib.hid (by rw [hC, seal_size]; rfl)
  have G4 : Hid (∀ W : World, (W.alloc (.cells #[.int .u8 0, .int .u8 0, .int .u8 0, .int .u8 0, .int .u8 0, .int .u8 0, .int .u8 0, .int .u8 0] 79)).heap[W.heap.size]? = some (.cells #[.int .u8 0, .int .u8 0, .int .u8 0, .int .u8 0, .int .u8 0, .int .u8 0, .int .u8 0, .int .u8 0] 79 (0, 0))) := Lib.hid (fun W => heap_alloc_new W _)
  have G3 : Hid (C.all (·.oneCell') = true) := Lib.hid (by
    rw [hC, Array.all_eq_true']
    intro x hx
    exact bytesV_one _ x (by simpa using hx))
  have H1 := Lib.hid hs
  clear hC hs
  go_enter Try.func24, Try.ntmps24
  go_wp2_with fail
  refine H1.out.mono ?_
  rintro E w1 ⟨rfl, hb⟩
  go_wp2_with (first
    | (with_reducible refine wpList_store_row rfl 79 _ _ rfl w1.heap.size C rfl rfl 79 _ (G4.out w1) G1.out G2.out G3.out ?_))
  have b1 : Below w.heap.size w (w1.alloc (.cells #[.int .u8 0, .int .u8 0, .int .u8 0, .int .u8 0, .int .u8 0, .int .u8 0, .int .u8 0, .int .u8 0] 79)) := hb.alloc hb.size _
  have b2 := below_setRow (g := w1.heap.size) b1 hb.size C
  have k2 : Blk ((w1.alloc (.cells #[.int .u8 0, .int .u8 0, .int .u8 0, .int .u8 0, .int .u8 0, .int .u8 0, .int .u8 0, .int .u8 0] 79)).setRow w1.heap.size C) w1.heap.size 79 C := (Blk.new w1 79 _).row C
  have s2 : ((w1.alloc (.cells #[.int .u8 0, .int .u8 0, .int .u8 0, .int .u8 0, .int .u8 0, .int .u8 0, .int .u8 0, .int .u8 0] 79)).setRow w1.heap.size C).heap.size = w1.heap.size + 1 := by rw [setRow_size]; simp
  generalize (w1.alloc (.cells #[.int .u8 0, .int .u8 0, .int .u8 0, .int .u8 0, .int .u8 0, .int .u8 0, .int .u8 0, .int .u8 0] 79)).setRow w1.heap.size C = w2 at *
  have k3 : Blk (w2.alloc (.cells #[.slice A n c, .slice (some ⟨w1.heap.size, 0, none⟩) 8 8] 33)) (w1.heap.size + 1) 33 #[.slice A n c, .slice (some ⟨w1.heap.size, 0, none⟩) 8 8] := s2 ▸ Blk.new w2 33 _
  have b3 := b2.alloc b2.size (.cells #[.slice A n c, .slice (some ⟨w1.heap.size, 0, none⟩) 8 8] 33)
  have k4 := k2.alloc (.cells #[.slice A n c, .slice (some ⟨w1.heap.size, 0, none⟩) 8 8] 33)
  generalize w2.alloc (.cells #[.slice A n c, .slice (some ⟨w1.heap.size, 0, none⟩) 8 8] 33) = w3 at *
  have hlr := (hl.below b3).more b3.size
  have hrr : Reads w3 w3.heap.size 1 (some ⟨w1.heap.size, 0, none⟩) 8 (bytesV (sealB key l)) := by
    refine ⟨by rw [bytesV_length, lowTo_length], fun _ => ⟨_, rfl, k4.lt, fun j u hu => ?_⟩⟩
    rw [addr_add0]
    refine k4.at_ ?_
    rw [HC.out]
    simpa using hu
  refine (concat_any (w1.heap.size + 1) A (some ⟨w1.heap.size, 0, none⟩) n 8 c 8 l (sealB key l) w3 k3 hlr hrr (by omega) hn (by omega)).mono ?_
  rintro E w4 ⟨v, rfl, ho, hb4⟩
  go_wp2_with fail
  go_ret
  exact ⟨_, rfl, own_le ho b3.size, b3.trans (hb4.mono b3.size)⟩
set_option maxRecDepth 100000 in
set_option maxHeartbeats 4000000 in
theorem rSeal_any (key : Nat) (A : Option Addr) (n c : Nat) (l : List UInt8) (w : World) (hk : key < 18446744073709551616) (hl : Reads w w.heap.size 1 A n (bytesV l)) (hn : n ≤ 1000000) :
    Calls Try.prog 17 #[.int .u64 (key : Int), .slice A n c] w fun e W' => ∃ v, e = .returned v ∧ W'.ownsRow w.heap.size 5 1 v (sealL key l).length (bytesV (sealL key l)) ∧ Below w.heap.size w W' := by
  obtain ⟨i0, hi, hz0, hz1, hz2⟩ := info_parts info_u8
  have el := hl.byte_len
  have x0 : bits .xor .u64 14695981039346656037 (key : Int) = ((14695981039346656037 ^^^ key : Nat) : Int) := xor_nat64 (a := 14695981039346656037) (by decide) hk
  go_enter Try.func17, Try.ntmps17
  go_wp2_with fail
  go_loopw [5, 6] (fun h i wr => ∃ j : Nat, j ≤ n ∧ h = .int .u64 (sealH key (l.take j) : Int) ∧ i = .int .i64 (j : Int) ∧ Drawn w wr) (fun _ i _ => n - (intOf i).toNat)
  case atStart => exact ⟨0, by omega, by rw [List.take_zero, sealH_nil], rfl, 0, rfl⟩
  case round =>
    obtain ⟨j, hj, rfl, rfl, q, rfl⟩ := hrel
    by_cases hlt : j < n
    · have hji : (j : Int) < (n : Int) := by omega
      obtain ⟨ad, rfl, had, -, hc⟩ := (hl.below (below_drewN' (Below.refl _ w) q)).byte_at hlt
      have hst := sealH_take (k := key) l (j := j) (by omega)
      have HST := Lib.hid hst
      have hlt64 := sealH_lt (l.take j) hk
      clear hst
      generalize sealH key (l.take j) = H at *
      generalize l[j]?.getD 0 = C at *
      have hx := xor_nat64 hlt64 (u8_64 C)
      have hs := @step_int H C.toNat
      have hwc : IntKind.u64.wrap (C.toNat : Int) = C.toNat := by rw [IntKind.wrap_u64]; have := C.toNat_lt; omega
      go_wp2_with fail
      go_roundw
      case rel => exact ⟨j + 1, by omega, by rw [HST.out], by go_num, _, rfl⟩
      case measure => simp [intOf]; omega
    · obtain rfl : j = n := by omega
      have hji : ¬ (j : Int) < (j : Int) := by omega
      rw [List.take_of_length_le (by omega)]
      have hlt64 := sealH_lt l hk
      have hfin : sealL key l = l ++ lowTo (sealH key l) 8 := rfl
      have HF := Lib.hid hfin
      clear hfin
      generalize sealH key l = H at *
      have hld := (hl.below (below_drewN' (Below.refl _ w) q))
      have hbd := below_drewN' (Below.refl w.heap.size w) q
      generalize hw1 : w.drewN q = w1 at *
      have hb1 := hbd.alloc hbd.size (.cells #[] 5)
      go_wp2_with (at_builtin; refine wpList_append_reads _ rfl _ _ 33 rfl w.heap.size 5 i0 (.int .u8 0) 1 1 Try.underlying33 hi hz0 hz1 hz2 rfl (by decide) _ _ _ rfl (own_new w1 5 #[] _ hbd.size (by unfold maxLen; simp)) _ A j c (bytesV l) rfl (hl.below hb1) (bytesV_one _) (by unfold maxLen; simp; omega) (by simp; omega) hb1.size ?_; intro v1 w3 ho hgrow)
      have hb3 := hb1.grown hgrow hb1.size (by
        intro k hk
        have hk2 : some w1.heap.size = some k := hk
        injection hk2 with hk2
        have := hbd.size
        omega)
      have ho3 : w3.ownsRow w.heap.size 5 1 v1 (l ++ lowTo H 0).length (bytesV (l ++ lowTo H 0)) := by
        have e : l ++ lowTo H 0 = l := by simp [lowTo]
        rw [e, el]
        simpa using ho
      clear ho hb1 hgrow hld hbd
      go_loopw [5, 7, 8] (fun h v i wr => ∃ r : Nat, r ≤ 8 ∧ h = .int .u64 ((H / 256 ^ r : Nat) : Int) ∧ i = .int .i64 (r : Int) ∧ wr.ownsRow w.heap.size 5 1 v (l ++ lowTo H r).length (bytesV (l ++ lowTo H r)) ∧ Below w.heap.size w wr) (fun _ _ i _ => 8 - (intOf i).toNat)
      case atStart => exact ⟨0, by omega, by rw [Nat.pow_zero, Nat.div_one], rfl, ho3, hb3⟩
      case round =>
        clear ho3 hb3
        obtain ⟨r, hr, rfl, rfl, ho, hb⟩ := hrel
        by_cases hlr : r < 8
        · have hri : (r : Int) < 8 := by omega
          have hlow := low_byte (q := H / 256 ^ r) (m := H) (i := r) rfl
          have hsu := lowTo_succ H r
          have hdv : H / 256 ^ (r + 1) = H / 256 ^ r / 256 := by rw [Nat.pow_succ, Nat.div_div_eq_div_mul]
          have hqlt : H / 256 ^ r < 18446744073709551616 := Nat.lt_of_le_of_lt (Nat.div_le_self _ _) hlt64
          have hlen : (l ++ lowTo H r).length ≤ 1000008 := by rw [List.length_append, lowTo_length]; omega
          have HSU := Lib.hid hsu
          have HDV := Lib.hid hdv
          clear hsu hdv
          generalize byt (H / 256 ^ r % 256) = B at *
          generalize H / 256 ^ r = Q at *
          go_wp2_with (at_builtin; refine wpList_append_own _ rfl _ _ 33 rfl w.heap.size 5 i0 (.int .u8 0) 1 1 Try.underlying33 hi hz0 hz1 hz2 rfl (by decide) _ _ _ rfl (ho.alloc _) ⟨wr.heap.size, 0, none⟩ 1 1 [.int .u8 (B.toNat : Int)] rfl rfl (cell_one_new _ _ _) (by simp [Value.oneCell']) (by unfold maxLen; omega) (by omega) (by have := hb.size; simp; omega) ?_; intro v' w4 ho' hgrow _)
          go_roundw
          case rel => exact ⟨r + 1, by omega, by rw [HDV.out]; first | rfl | (congr 1; omega), by go_num, by rw [HSU.out, ← List.append_assoc, List.length_append, bytesV_append]; exact ho', (hb.alloc hb.size _).grown hgrow (by have := hb.size; simp; omega) (fun b e => (ho.lt b e).1)⟩
          case measure => simp [intOf]; omega
        · obtain rfl : r = 8 := by omega
          go_wp2_with fail
          go_ret
          exact ⟨_, rfl, by rw [HF.out]; exact ho, hb⟩
end Go.Proofs.Ytbekkndkdfmijaa
