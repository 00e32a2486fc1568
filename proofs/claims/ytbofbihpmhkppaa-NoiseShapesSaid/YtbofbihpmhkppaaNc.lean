/- SameInts, Sum, Hiding, the reference's Weights, odd: what each returns. -/
import Derived.Deep.RegionHeld3
import Derived.Deep.LoopGhost
import Derived.Deep.DeepCutAuto
import Derived.Maps.AppendAt
import Derived.Test.YtbofbihpmhkppaaNb
namespace Go.Proofs.Ytbofbihpmhkppaa
open Go.RowKit

theorem ret_two {a b a' b' : Value} (h : a = a') (k : b = b') : Ending.returned (.tuple #[a, b]) = .returned (.tuple #[a', b']) := by rw [h, k]

/-- SameInts -/
theorem take_all_eq {l r : List Int} (h : l.length = r.length) (e : ∀ j, j < l.length → l[j]?.getD 0 = r[j]?.getD 0) : l = r := by
  apply List.ext_getElem h
  intro i h1 h2
  have := e i h1
  simpa [List.getElem?_eq_getElem h1, List.getElem?_eq_getElem h2] using this

/-- the worlds that differ by draws alone -/
def Drawn (w w' : World) : Prop := ∃ n, w' = w.drewN n

set_option maxHeartbeats 1000000 in
theorem sameInts_any (A B : Option Addr) (n m c d : Nat) (l r : List Int) (b : Nat) (w : World) (hl : Reads w b 1 A n (ints l)) (hr : Reads w b 1 B m (ints r)) (hn : n ≤ 1000000) (hm : m ≤ 1000000) :
    Calls Try.prog 17 #[.slice A n c, .slice B m d] w fun e w' => e = .returned (.bool (decide (l = r))) ∧ Drawn w w' := by
  have el := hl.int_len
  have er := hr.int_len
  by_cases hnm : n = m
  · subst hnm
    have ht : l.length = r.length := by omega
    have HT := Lib.hid ht
    have HL := Lib.hid el
    clear el er ht
    have hne : ((n : Int) != (n : Int)) = false := by simp
    go_enter Try.func17, Try.ntmps17
    go_wp2
    go_loopw [5] (fun i wr => ∃ k : Nat, k ≤ n ∧ i = .int .i64 k ∧ (∀ j, j < k → l[j]?.getD 0 = r[j]?.getD 0) ∧ Drawn w wr) (fun i _ => n - (intOf i).toNat)
    case atStart => exact ⟨0, by omega, rfl, fun j hj => by omega, 0, rfl⟩
    case round =>
      obtain ⟨k, hk, rfl, heq, q, rfl⟩ := hrel
      have HE := Lib.hid heq
      clear heq
      by_cases hlt : k < n
      · obtain ⟨a1, rfl, -, -, c1⟩ := hl.int_at hlt
        obtain ⟨a2, rfl, -, -, c2⟩ := hr.int_at hlt
        have hki : (k : Int) < (n : Int) := by omega
        cases hq : (l[k]?.getD 0 == r[k]?.getD 0)
        · have hq' : (l[k]?.getD 0 != r[k]?.getD 0) = true := by simpa using hq
          go_wp2
          go_quiet (fail)
          go_wp2
          go_ret
          refine ⟨ret_bool ?_, _, World.drewN_drewN _ _ _⟩
          symm
          rw [decide_eq_false_iff_not]
          rintro rfl
          simp at hq
        · have hq' : (l[k]?.getD 0 != r[k]?.getD 0) = false := by simpa using hq
          go_wp2
          go_quiet (fail)
          go_wp2
          go_roundw
          case rel =>
            refine ⟨k + 1, by omega, by go_num, fun j hj => ?_, _, rfl⟩
            by_cases hjk : j < k
            · exact HE.out j hjk
            · obtain rfl : j = k := by omega
              simpa using hq
          case measure => simp [intOf]; omega
      · obtain rfl : k = n := by omega
        go_wp2
        go_ret
        exact ⟨ret_bool (by symm; simpa using take_all_eq HT.out (fun j hj => HE.out j (by have := HL.out; omega))), q, rfl⟩
  · have hne : ((n : Int) != (m : Int)) = true := by simp; omega
    have hno : decide (l = r) = false := by
      rw [decide_eq_false_iff_not]; rintro rfl; omega
    rw [hno]
    clear el er hno
    go_enter Try.func17, Try.ntmps17
    go_wp2
    go_ret
    exact ⟨rfl, 0, rfl⟩

/-- Sum -/
def sumL (l : List Int) : Int := l.foldl (· + ·) 0
theorem sumL_snoc (l : List Int) (x : Int) : sumL (l ++ [x]) = sumL l + x := by simp [sumL]
theorem sumL_take (l : List Int) (k : Nat) (h : k < l.length) : sumL (l.take (k + 1)) = sumL (l.take k) + l[k]?.getD 0 := by
  rw [List.take_succ_eq_append_getElem h, sumL_snoc, List.getElem?_eq_getElem h]; rfl

set_option maxHeartbeats 1000000 in
theorem sum_any (A : Option Addr) (n c : Nat) (l : List Int) (b : Nat) (w : World) (hl : Reads w b 1 A n (ints l)) (hn : n ≤ 1000000) (hb : ∀ k, k ≤ n → -4611686018427387904 ≤ sumL (l.take k) ∧ sumL (l.take k) ≤ 4611686018427387904) :
    Calls Try.prog 23 #[.slice A n c] w fun e w' => e = .returned (.int .i64 (sumL l)) ∧ w = w' := by
  have el := hl.int_len
  have HL := Lib.hid el
  have HB := Lib.hid hb
  clear el hb
  go_enter Try.func23, Try.ntmps23
  go_wp2
  go_loop [3, 4] (fun s i => ∃ k : Nat, k ≤ n ∧ i = .int .i64 k ∧ s = .int .i64 (sumL (l.take k))) (fun _ i => n - (intOf i).toNat)
  case atStart => exact ⟨0, by omega, rfl, rfl⟩
  case round =>
    obtain ⟨k, hk, rfl, rfl⟩ := hrel
    by_cases hlt : k < n
    · obtain ⟨a1, rfl, -, -, c1⟩ := hl.int_at hlt
      have hki : (k : Int) < (n : Int) := by omega
      have hs := sumL_take l k (by have := HL.out; omega)
      have b1 := HB.out (k + 1) (by omega)
      rw [hs] at b1
      have HS := Lib.hid hs
      clear hs
      have b0 := HB.out k (by omega)
      go_wp2
      go_round
      case rel => exact ⟨k + 1, by omega, by go_num, by rw [HS.out]⟩
      case measure => simp [intOf]; omega
    · obtain rfl : k = n := by omega
      go_wp2
      go_ret
      exact ⟨ret_i64 (by rw [List.take_of_length_le (by have := HL.out; omega)]), rfl⟩

/-- Hiding -/
def hidK (k : Int) : Int := 1 + around k 6
def hidM (n k : Int) : Int := 1 + around n (if 38 / hidK k - 1 < 12 then 38 / hidK k - 1 else 12)
theorem hid_bounds (n k : Int) : 1 ≤ hidM n k ∧ hidM n k ≤ 12 ∧ 1 ≤ hidK k ∧ hidK k ≤ 6 ∧ hidK k * (hidM n k + 1) ≤ 38 := by
  have h1 := around_lt k 6 (by omega)
  have hk1 : 1 ≤ hidK k := by unfold hidK; omega
  have hk2 : hidK k ≤ 6 := by unfold hidK; omega
  have hq : 6 ≤ 38 / hidK k := by
    have : hidK k = 1 ∨ hidK k = 2 ∨ hidK k = 3 ∨ hidK k = 4 ∨ hidK k = 5 ∨ hidK k = 6 := by omega
    rcases this with h | h | h | h | h | h <;> rw [h] <;> decide
  have h2 := around_lt n (if 38 / hidK k - 1 < 12 then 38 / hidK k - 1 else 12) (by split <;> omega)
  have h3 : hidM n k + 1 ≤ 38 / hidK k := by unfold hidM; split at h2 <;> split <;> omega
  refine ⟨by unfold hidM; omega, by unfold hidM; split at h2 <;> split <;> omega, hk1, hk2, ?_⟩
  calc hidK k * (hidM n k + 1) ≤ hidK k * (38 / hidK k) := Int.mul_le_mul_of_nonneg_left h3 (by omega)
    _ ≤ 38 := Int.mul_ediv_self_le (by omega)

set_option maxHeartbeats 1000000 in
theorem hiding_any (n k : Int) (w : World) (hn1 : -9223372036854775808 ≤ n) (hn2 : n ≤ 9223372036854775807) (hk1 : -9223372036854775808 ≤ k) (hk2 : k ≤ 9223372036854775807) :
    Calls Try.prog 19 #[.int .i64 n, .int .i64 k] w fun e w' => e = .returned (.tuple #[.int .i64 (hidM n k), .int .i64 (hidK k)]) ∧ w = w' := by
  have b := around_lt k 6 (by omega)
  have hq : 6 ≤ 38 / hidK k ∧ 38 / hidK k ≤ 38 := by
    have : hidK k = 1 ∨ hidK k = 2 ∨ hidK k = 3 ∨ hidK k = 4 ∨ hidK k = 5 ∨ hidK k = 6 := by unfold hidK; omega
    rcases this with h | h | h | h | h | h <;> rw [h] <;> decide
  have bk : 1 ≤ hidK k ∧ hidK k ≤ 6 := by unfold hidK; omega
  have b2 := around_lt n (if 38 / hidK k - 1 < 12 then 38 / hidK k - 1 else 12) (by split <;> omega)
  have hM : hidM n k = 1 + around n (if 38 / hidK k - 1 < 12 then 38 / hidK k - 1 else 12) := rfl
  by_cases hm : 38 / hidK k - 1 < 12
  · rw [if_pos hm] at b2 hM
    have HM := Lib.hid hM
    clear hM
    go_enter Try.func19, Try.ntmps19
    go_wp2_with fail
    refine (around_any k 6 _ hk1 hk2 (by omega) (by omega)).mono ?_
    rintro e w' ⟨rfl, rfl⟩
    have e1 : (1 : Int) + around k 6 = hidK k := rfl
    go_wp2_with fail
    refine (around_any n _ _ hn1 hn2 (by omega) (by omega)).mono ?_
    rintro e w' ⟨rfl, rfl⟩
    go_wp2_with fail
    go_ret2
    exact ⟨ret_two (congrArg (Value.int .i64) HM.out.symm) rfl, rfl⟩
  · rw [if_neg hm] at b2 hM
    have HM := Lib.hid hM
    clear hM
    go_enter Try.func19, Try.ntmps19
    go_wp2_with fail
    refine (around_any k 6 _ hk1 hk2 (by omega) (by omega)).mono ?_
    rintro e w' ⟨rfl, rfl⟩
    have e1 : (1 : Int) + around k 6 = hidK k := rfl
    go_wp2_with fail
    refine (around_any n _ _ hn1 hn2 (by omega) (by omega)).mono ?_
    rintro e w' ⟨rfl, rfl⟩
    go_wp2_with fail
    go_ret2
    exact ⟨ret_two (congrArg (Value.int .i64) HM.out.symm) rfl, rfl⟩

theorem info28 : (Try.prog.info? 28).map (fun i => (i.zero, i.size, i.bytes)) = some (some (.agg #[.int .i64 0, .int .i64 0, .int .i64 0]), 3, 24) := by kernel_rfl
/-- odd: thirty numbers, three a row -/
def I64 (x : Int) : Prop := -9223372036854775808 ≤ x ∧ x ≤ 9223372036854775807
set_option maxHeartbeats 1000000 in
theorem odd_any (a n k : Int) (w : World) (ha : I64 a) (hn : I64 n) (hk : I64 k) :
    Calls Try.prog 14 #[.int .i64 a, .int .i64 n, .int .i64 k] w fun e w' => ∃ l : List Int, e = .returned (.slice (some ⟨w.heap.size, 0, none⟩) 10 10) ∧ l.length = 30 ∧ (∀ x ∈ l, I64 x) ∧ w.alloc (.cells (ints l).toArray 28) = w' := by
  obtain ⟨m1, m2, k1, k2, -⟩ := hid_bounds n k
  have b := around_lt a (hidM n k + 1) (by omega)
  go_enter Try.func14, Try.ntmps14
  go_wp2_with fail
  refine (hiding_any n k _ hn.1 hn.2 hk.1 hk.2).mono ?_
  rintro e w' ⟨rfl, rfl⟩
  go_wp2_with fail
  refine (around_any a _ _ ha.1 ha.2 (by omega) (by omega)).mono ?_
  rintro e w' ⟨rfl, rfl⟩
  go_wp2_with fail
  go_ret
  refine ⟨[around a (hidM n k + 1), hidM n k, hidK k, a, n, k, around a (hidM n k + 1) - 1, hidM n k, hidK k, hidM n k + 1, hidM n k, hidK k, around a (hidM n k + 1), 37, 1,
    around a (hidM n k + 1), 38, 1, around a (hidM n k + 1), 18, 2, around a (hidM n k + 1), 1, 19, 0, 2, 12, 1, 1, 13], rfl, rfl, ?_, rfl⟩
  intro x hx
  unfold I64 at *
  simp only [List.mem_cons, List.not_mem_nil, or_false] at hx
  rcases hx with h | h | h | h | h | h | h | h | h | h | h | h | h | h | h | h | h | h | h | h | h | h | h | h | h | h | h | h | h | h <;> rw [h] <;> first | assumption | omega

/-- the reference's Weights -/
def oneW (c m k : Int) (x : Nat) : Int := wt c m k x
theorem wts_get (c m k : Int) : wts c m k = (List.range (m + 1).toNat).map fun i : Nat => wt c m k i := by
  simp [wts, snds, allW, upto, pairW, Function.comp_def]
def wtsTo (c m k : Int) (j : Nat) : List Int := (List.range j).map fun i : Nat => wt c m k i
theorem wtsTo_succ (c m k : Int) (j : Nat) : wtsTo c m k (j + 1) = wtsTo c m k j ++ [wt c m k j] := by simp [wtsTo, List.range_succ]
theorem wtsTo_length (c m k : Int) (j : Nat) : (wtsTo c m k j).length = j := by simp [wtsTo]

theorem fits_of_ok {c m k : Int} (h : Okay c m k) : fitsB m k = true := by
  unfold fitsB; exact decide_eq_true ⟨h.m1, h.m2, h.k1, h.k2, h.km⟩

set_option maxHeartbeats 2000000 in
theorem refW_yes (c m k : Int) (hok : Okay c m k) (w : World) :
    Calls Try.prog 16 #[.int .i64 c, .int .i64 m, .int .i64 k] w fun e W' => ∃ v, e = .returned (.tuple #[v, .int .i64 0]) ∧ W'.ownsRow w.heap.size 3 1 v (wts c m k).length (ints (wts c m k)) ∧ Below w.heap.size w W' := by
  have hf := fun W => fits_any m k W
  rw [fits_of_ok hok] at hf
  have HF := Lib.hid hf
  clear hf
  obtain ⟨i0, hi, hz0, hz1, hz2⟩ := info_parts info3
  have hm1 := hok.m1
  have hm2 := hok.m2
  have hc1 := hok.c1
  have hc2 := hok.c2
  have hk1 := hok.k1
  have hk2 := hok.k2
  have d1 : decide (c < 0) = false := by simp; omega
  have d2 : decide (m < c) = false := by simp; omega
  go_enter Try.func16, Try.ntmps16
  go_wp2_with fail
  refine (HF.out _).mono ?_
  rintro e w' ⟨rfl, rfl⟩
  go_wp2_with fail
  go_loopw [8, 9] (fun v i wr => ∃ j : Nat, (j : Int) ≤ m + 1 ∧ i = .int .i64 j ∧ wr.ownsRow w.heap.size 3 1 v j (ints (wtsTo c m k j)) ∧ Below w.heap.size w wr)
    (fun _ i _ => (m + 1 - intOf i).toNat)
  case atStart => exact ⟨0, by omega, rfl, World.ownsRow_nil _ _ _ _, Below.refl _ _⟩
  case round =>
    obtain ⟨j, hj, rfl, hown, hnx⟩ := hrel
    by_cases hlt : (j : Int) ≤ m
    · obtain ⟨he1, he2⟩ := exp_bound hok (x := j) (by omega) hlt
      have hb1 := pow_bound (k * (m - dist c j)).toNat (by omega)
      have hb2 := pow_bound k.toNat (by omega)
      have hb3 := pow_bound ((k * (m - dist c j)).toNat + k.toNat) (by omega)
      rw [Int.pow_add] at hb3
      have hE := wt_end c m k j
      have hM := wt_mid c m k j
      have hs := wtsTo_succ c m k j
      by_cases hx : (j : Int) < c
      · have hd : dist c j = c - j := if_pos hx
        rw [hd] at he1 he2 hb1 hb3 hE hM
        clear hd
        have HE := Lib.hid hE
        have HM := Lib.hid hM
        have HS := Lib.hid hs
        clear hE hM hs
        cases h0 : ((j : Int) == 0) <;> cases h1 : ((j : Int) == m)
        · have hw : wrap64 (2 ^ (k * (m - (c - j))).toNat * (2 ^ k.toNat - 1)) = wt c m k j := (wrap_mid hb1.1 hb2.1 hb3.2).trans (HM.out ⟨h0, h1⟩).symm
          go_wp2_with fail
          refine (power_any _ _ he1 (by omega)).mono ?_
          rintro e w' ⟨rfl, rfl⟩
          go_wp2_with fail
          refine (power_any _ _ (by omega) (by omega)).mono ?_
          rintro e w' ⟨rfl, rfl⟩
          go_wp2_with (at_builtin; refine wpList_append_own _ rfl _ _ 24 rfl w.heap.size 3 i0 (.int .i64 0) 1 8 Try.underlying24 hi hz0 hz1 hz2 rfl (by decide) _ _ _ rfl (hown.alloc _) ⟨wr.heap.size, 0, none⟩ 1 1 [.int .i64 (wt c m k j)] rfl rfl (cell_one_new _ _ _) (by simp [Value.oneCell']) (by unfold maxLen; omega) (by omega) (by have := hnx.size; simp; omega) ?_; intro v' w1 hown' hgrow _)
          clear hw
          go_wp2
          go_roundw
          case rel => exact ⟨j + 1, by omega, by go_num, by rw [HS.out, ints_snoc]; exact hown', (hnx.alloc hnx.size _).grown hgrow (by have := hnx.size; simp; omega) (fun b e => (hown.lt b e).1)⟩
          case measure => simp [intOf]; omega
        · have hw : 2 ^ (k * (m - (c - j))).toNat * 2 ^ k.toNat = wt c m k j := (HE.out (.inr h1)).symm
          go_wp2_with fail
          refine (power_any _ _ he1 (by omega)).mono ?_
          rintro e w' ⟨rfl, rfl⟩
          go_wp2_with fail
          refine (power_any _ _ (by omega) (by omega)).mono ?_
          rintro e w' ⟨rfl, rfl⟩
          go_wp2_with (at_builtin; refine wpList_append_own _ rfl _ _ 24 rfl w.heap.size 3 i0 (.int .i64 0) 1 8 Try.underlying24 hi hz0 hz1 hz2 rfl (by decide) _ _ _ rfl (hown.alloc _) ⟨wr.heap.size, 0, none⟩ 1 1 [.int .i64 (wt c m k j)] rfl rfl (cell_one_new _ _ _) (by simp [Value.oneCell']) (by unfold maxLen; omega) (by omega) (by have := hnx.size; simp; omega) ?_; intro v' w1 hown' hgrow _)
          clear hw
          go_wp2
          go_roundw
          case rel => exact ⟨j + 1, by omega, by go_num, by rw [HS.out, ints_snoc]; exact hown', (hnx.alloc hnx.size _).grown hgrow (by have := hnx.size; simp; omega) (fun b e => (hown.lt b e).1)⟩
          case measure => simp [intOf]; omega
        · have hw : 2 ^ (k * (m - (c - j))).toNat * 2 ^ k.toNat = wt c m k j := (HE.out (.inl h0)).symm
          go_wp2_with fail
          refine (power_any _ _ he1 (by omega)).mono ?_
          rintro e w' ⟨rfl, rfl⟩
          go_wp2_with fail
          refine (power_any _ _ (by omega) (by omega)).mono ?_
          rintro e w' ⟨rfl, rfl⟩
          go_wp2_with (at_builtin; refine wpList_append_own _ rfl _ _ 24 rfl w.heap.size 3 i0 (.int .i64 0) 1 8 Try.underlying24 hi hz0 hz1 hz2 rfl (by decide) _ _ _ rfl (hown.alloc _) ⟨wr.heap.size, 0, none⟩ 1 1 [.int .i64 (wt c m k j)] rfl rfl (cell_one_new _ _ _) (by simp [Value.oneCell']) (by unfold maxLen; omega) (by omega) (by have := hnx.size; simp; omega) ?_; intro v' w1 hown' hgrow _)
          clear hw
          go_wp2
          go_roundw
          case rel => exact ⟨j + 1, by omega, by go_num, by rw [HS.out, ints_snoc]; exact hown', (hnx.alloc hnx.size _).grown hgrow (by have := hnx.size; simp; omega) (fun b e => (hown.lt b e).1)⟩
          case measure => simp [intOf]; omega
        · have hw : 2 ^ (k * (m - (c - j))).toNat * 2 ^ k.toNat = wt c m k j := (HE.out (.inl h0)).symm
          go_wp2_with fail
          refine (power_any _ _ he1 (by omega)).mono ?_
          rintro e w' ⟨rfl, rfl⟩
          go_wp2_with fail
          refine (power_any _ _ (by omega) (by omega)).mono ?_
          rintro e w' ⟨rfl, rfl⟩
          go_wp2_with (at_builtin; refine wpList_append_own _ rfl _ _ 24 rfl w.heap.size 3 i0 (.int .i64 0) 1 8 Try.underlying24 hi hz0 hz1 hz2 rfl (by decide) _ _ _ rfl (hown.alloc _) ⟨wr.heap.size, 0, none⟩ 1 1 [.int .i64 (wt c m k j)] rfl rfl (cell_one_new _ _ _) (by simp [Value.oneCell']) (by unfold maxLen; omega) (by omega) (by have := hnx.size; simp; omega) ?_; intro v' w1 hown' hgrow _)
          clear hw
          go_wp2
          go_roundw
          case rel => exact ⟨j + 1, by omega, by go_num, by rw [HS.out, ints_snoc]; exact hown', (hnx.alloc hnx.size _).grown hgrow (by have := hnx.size; simp; omega) (fun b e => (hown.lt b e).1)⟩
          case measure => simp [intOf]; omega
      · have hd : dist c j = j - c := if_neg hx
        rw [hd] at he1 he2 hb1 hb3 hE hM
        clear hd
        have HE := Lib.hid hE
        have HM := Lib.hid hM
        have HS := Lib.hid hs
        clear hE hM hs
        cases h0 : ((j : Int) == 0) <;> cases h1 : ((j : Int) == m)
        · have hw : wrap64 (2 ^ (k * (m - (j - c))).toNat * (2 ^ k.toNat - 1)) = wt c m k j := (wrap_mid hb1.1 hb2.1 hb3.2).trans (HM.out ⟨h0, h1⟩).symm
          go_wp2_with fail
          refine (power_any _ _ he1 (by omega)).mono ?_
          rintro e w' ⟨rfl, rfl⟩
          go_wp2_with fail
          refine (power_any _ _ (by omega) (by omega)).mono ?_
          rintro e w' ⟨rfl, rfl⟩
          go_wp2_with (at_builtin; refine wpList_append_own _ rfl _ _ 24 rfl w.heap.size 3 i0 (.int .i64 0) 1 8 Try.underlying24 hi hz0 hz1 hz2 rfl (by decide) _ _ _ rfl (hown.alloc _) ⟨wr.heap.size, 0, none⟩ 1 1 [.int .i64 (wt c m k j)] rfl rfl (cell_one_new _ _ _) (by simp [Value.oneCell']) (by unfold maxLen; omega) (by omega) (by have := hnx.size; simp; omega) ?_; intro v' w1 hown' hgrow _)
          clear hw
          go_wp2
          go_roundw
          case rel => exact ⟨j + 1, by omega, by go_num, by rw [HS.out, ints_snoc]; exact hown', (hnx.alloc hnx.size _).grown hgrow (by have := hnx.size; simp; omega) (fun b e => (hown.lt b e).1)⟩
          case measure => simp [intOf]; omega
        · have hw : 2 ^ (k * (m - (j - c))).toNat * 2 ^ k.toNat = wt c m k j := (HE.out (.inr h1)).symm
          go_wp2_with fail
          refine (power_any _ _ he1 (by omega)).mono ?_
          rintro e w' ⟨rfl, rfl⟩
          go_wp2_with fail
          refine (power_any _ _ (by omega) (by omega)).mono ?_
          rintro e w' ⟨rfl, rfl⟩
          go_wp2_with (at_builtin; refine wpList_append_own _ rfl _ _ 24 rfl w.heap.size 3 i0 (.int .i64 0) 1 8 Try.underlying24 hi hz0 hz1 hz2 rfl (by decide) _ _ _ rfl (hown.alloc _) ⟨wr.heap.size, 0, none⟩ 1 1 [.int .i64 (wt c m k j)] rfl rfl (cell_one_new _ _ _) (by simp [Value.oneCell']) (by unfold maxLen; omega) (by omega) (by have := hnx.size; simp; omega) ?_; intro v' w1 hown' hgrow _)
          clear hw
          go_wp2
          go_roundw
          case rel => exact ⟨j + 1, by omega, by go_num, by rw [HS.out, ints_snoc]; exact hown', (hnx.alloc hnx.size _).grown hgrow (by have := hnx.size; simp; omega) (fun b e => (hown.lt b e).1)⟩
          case measure => simp [intOf]; omega
        · have hw : 2 ^ (k * (m - (j - c))).toNat * 2 ^ k.toNat = wt c m k j := (HE.out (.inl h0)).symm
          go_wp2_with fail
          refine (power_any _ _ he1 (by omega)).mono ?_
          rintro e w' ⟨rfl, rfl⟩
          go_wp2_with fail
          refine (power_any _ _ (by omega) (by omega)).mono ?_
          rintro e w' ⟨rfl, rfl⟩
          go_wp2_with (at_builtin; refine wpList_append_own _ rfl _ _ 24 rfl w.heap.size 3 i0 (.int .i64 0) 1 8 Try.underlying24 hi hz0 hz1 hz2 rfl (by decide) _ _ _ rfl (hown.alloc _) ⟨wr.heap.size, 0, none⟩ 1 1 [.int .i64 (wt c m k j)] rfl rfl (cell_one_new _ _ _) (by simp [Value.oneCell']) (by unfold maxLen; omega) (by omega) (by have := hnx.size; simp; omega) ?_; intro v' w1 hown' hgrow _)
          clear hw
          go_wp2
          go_roundw
          case rel => exact ⟨j + 1, by omega, by go_num, by rw [HS.out, ints_snoc]; exact hown', (hnx.alloc hnx.size _).grown hgrow (by have := hnx.size; simp; omega) (fun b e => (hown.lt b e).1)⟩
          case measure => simp [intOf]; omega
        · have hw : 2 ^ (k * (m - (j - c))).toNat * 2 ^ k.toNat = wt c m k j := (HE.out (.inl h0)).symm
          go_wp2_with fail
          refine (power_any _ _ he1 (by omega)).mono ?_
          rintro e w' ⟨rfl, rfl⟩
          go_wp2_with fail
          refine (power_any _ _ (by omega) (by omega)).mono ?_
          rintro e w' ⟨rfl, rfl⟩
          go_wp2_with (at_builtin; refine wpList_append_own _ rfl _ _ 24 rfl w.heap.size 3 i0 (.int .i64 0) 1 8 Try.underlying24 hi hz0 hz1 hz2 rfl (by decide) _ _ _ rfl (hown.alloc _) ⟨wr.heap.size, 0, none⟩ 1 1 [.int .i64 (wt c m k j)] rfl rfl (cell_one_new _ _ _) (by simp [Value.oneCell']) (by unfold maxLen; omega) (by omega) (by have := hnx.size; simp; omega) ?_; intro v' w1 hown' hgrow _)
          clear hw
          go_wp2
          go_roundw
          case rel => exact ⟨j + 1, by omega, by go_num, by rw [HS.out, ints_snoc]; exact hown', (hnx.alloc hnx.size _).grown hgrow (by have := hnx.size; simp; omega) (fun b e => (hown.lt b e).1)⟩
          case measure => simp [intOf]; omega
    · have hjm : j = (m + 1).toNat := by omega
      have HJ := Lib.hid hjm
      clear hjm
      go_wp2
      go_ret2
      exact ⟨_, rfl, by rw [wts_length, ← HJ.out, wts_get, ← HJ.out]; exact hown, hnx⟩

set_option maxHeartbeats 1000000 in
theorem refW_no (c m k : Int) (hno : okB c m k = false) (w : World) :
    Calls Try.prog 16 #[.int .i64 c, .int .i64 m, .int .i64 k] w fun e W' => e = .returned (.tuple #[.slice none 0 0, .int .i64 5]) ∧ w = W' := by
  have hf := fun W => fits_any m k W
  have hno' : ¬ Okay c m k := fun h => by rw [okB_iff.2 h] at hno; cases hno
  cases hfit : fitsB m k
  · rw [hfit] at hf
    have HF := Lib.hid hf
    clear hf hno hno' hfit
    go_enter Try.func16, Try.ntmps16
    go_wp2_with fail
    refine (HF.out _).mono ?_
    rintro e w' ⟨rfl, rfl⟩
    go_wp2_with fail
    go_ret2
    exact ⟨rfl, rfl⟩
  · have hcm : c < 0 ∨ m < c := by
      unfold fitsB at hfit
      have h := of_decide_eq_true hfit
      rcases Int.lt_or_le c 0 with h0 | h0
      · exact .inl h0
      · rcases Int.lt_or_le m c with h1 | h1
        · exact .inr h1
        · exact absurd ⟨h.1, h.2.1, h.2.2.1, h.2.2.2.1, h.2.2.2.2, h0, h1⟩ hno'
    rw [hfit] at hf
    have HF := Lib.hid hf
    clear hf hno hno' hfit
    by_cases h0 : c < 0
    · go_enter Try.func16, Try.ntmps16
      go_wp2_with fail
      refine (HF.out _).mono ?_
      rintro e w' ⟨rfl, rfl⟩
      go_wp2_with fail
      go_ret2
      exact ⟨rfl, rfl⟩
    · have h1 : m < c := by omega
      clear hcm
      go_enter Try.func16, Try.ntmps16
      go_wp2_with fail
      refine (HF.out _).mono ?_
      rintro e w' ⟨rfl, rfl⟩
      go_wp2_with fail
      go_ret2
      exact ⟨rfl, rfl⟩
end Go.Proofs.Ytbofbihpmhkppaa
