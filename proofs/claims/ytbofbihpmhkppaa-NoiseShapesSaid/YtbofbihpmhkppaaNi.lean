/- The law NoiseShapes: for every input it returns true. -/
import Derived.Test.YtbofbihpmhkppaaNg
import Derived.Test.YtbofbihpmhkppaaNh
namespace Go.Proofs.Ytbofbihpmhkppaa
open Go.RowKit

theorem sum_small {t m k : Int} (h : Okay t m k) : ∀ j : Nat, (j : Int) ≤ m + 1 → 0 ≤ sumL ((wts t m k).take j) ∧ sumL ((wts t m k).take j) ≤ j * 274877906944
  | 0, _ => by simp [sumL]
  | j + 1, hj => by
    obtain ⟨h1, h2⟩ := sum_small h j (by omega)
    have hl : j < (wts t m k).length := by rw [wts_length]; omega
    have b := wt_bound38 h (x := j) (by omega) (by omega)
    rw [sumL_take _ _ hl, wts_at (by omega)]
    omega

set_option maxRecDepth 100000 in
set_option maxHeartbeats 4000000 in
theorem noiseShapes_any (a n k : Int) (w : World) (ha : I64 a) (hn : I64 n) (hk : I64 k) :
    Calls Try.prog 5 #[.int .i64 a, .int .i64 n, .int .i64 k] w fun e W' => e = .returned (.bool true) ∧ Below w.heap.size w W' := by
  obtain ⟨m1, m2, k1, k2, km⟩ := hid_bounds n k
  have bx := around_lt a (hidM n k + 1) (by omega)
  go_enter Try.func5, Try.ntmps5
  go_wp2_with fail
  refine (hiding_any n k _ hn.1 hn.2 hk.1 hk.2).mono ?_
  rintro e w' ⟨rfl, rfl⟩
  go_wp2_with fail
  refine (around_any a _ _ ha.1 ha.2 (by omega) (by omega)).mono ?_
  rintro e w' ⟨rfl, rfl⟩
  have hxo : Okay (around a (hidM n k + 1)) (hidM n k) (hidK k) := okay_hid bx.1 (by omega)
  generalize hX : around a (hidM n k + 1) = X at *
  generalize hMM : hidM n k = M at *
  generalize hKK : hidK k = K at *
  clear hX hMM hKK
  have hyo : Okay (M - X) M K := ⟨hxo.m1, hxo.m2, hxo.k1, hxo.k2, hxo.km, by omega, by omega⟩
  have hsum := sum_all hxo
  have hS : 0 ≤ K * M ∧ K * M ≤ 38 := by
    refine ⟨Int.mul_nonneg (by omega) (by omega), ?_⟩
    have : K * (M + 1) = K * M + K := by rw [Int.mul_add]; omega
    omega
  have hp1 := pow_bound K.toNat (by omega)
  have hp3 : 0 ≤ ((2 : Int) ^ K.toNat + 1) * 2 ^ (K * M).toNat ∧ ((2 : Int) ^ K.toNat + 1) * 2 ^ (K * M).toNat ≤ 1152921504606846976 := by
    have e : ((2 : Int) ^ K.toNat + 1) * 2 ^ (K * M).toNat = 2 ^ (K.toNat + (K * M).toNat) + 2 ^ (K * M).toNat := by
      rw [Int.add_mul, Int.one_mul, ← Int.pow_add]
    have : K * (M + 1) = K * M + K := by rw [Int.mul_add]; omega
    have h1 := pow_bound (K.toNat + (K * M).toNat) (by omega)
    have h2 := pow_bound ((K * M).toNat) (by omega)
    rw [e]; omega
  have hpre := fun j hj => sum_small hxo j hj
  go_wp2_with fail
  refine (weights_yes X M K hxo _).mono ?_
  rintro e w2 ⟨v2, rfl, ho2, hb2⟩
  obtain ⟨A2, c2, rfl, hr2⟩ := own_reads ho2
  have HS := Lib.hid hsum
  have HP := Lib.hid hpre
  clear hsum hpre
  go_wp2_with fail
  refine (weights_yes (M - X) M K hyo _).mono ?_
  rintro e w3 ⟨v3, rfl, ho3, hb3⟩
  obtain ⟨A3, c3, rfl, hr3⟩ := own_reads ho3
  have r2 := hr2.below hb3
  have hw : Below w.heap.size w w3 := hb2.trans (hb3.mono hb2.size)
  have l2 := wts_length X M K
  have l3 := wts_length (M - X) M K
  obtain ⟨N, hN⟩ : ∃ N : Nat, N = (M + 1).toNat := ⟨_, rfl⟩
  have hN1 : (N : Int) ≤ M + 1 := by omega
  have hN2 : M + 1 ≤ (N : Int) := by omega
  rw [← hN] at l2 l3
  rw [l2] at r2
  rw [l3] at hr3
  rw [l2, l3]
  clear ho2 ho3 hr2 hb2 hb3 l2 l3 hN
  have hne : ((N : Int) != M + 1) = false := by simp; omega
  go_wp2_with fail
  refine (sum_any A2 N c2 _ _ w3 r2 (by omega) (fun j hj => by have := HP.out j (by omega); omega)).mono ?_
  rintro e w4 ⟨rfl, rfl⟩
  rw [HS.out]
  go_wp2_with fail
  go_loopw [14] (fun i wr => ∃ j : Nat, j ≤ N ∧ i = .int .i64 j ∧ Drawn w3 wr) (fun i _ => N - (intOf i).toNat)
  case atStart => exact ⟨0, by omega, rfl, 0, rfl⟩
  case round =>
    obtain ⟨j, hj, rfl, q, rfl⟩ := hrel
    by_cases hlt : j < N
    · have hjN : (j : Int) < (N : Int) := by omega
      have hjM : (j : Int) ≤ M := by omega
      obtain ⟨a2, rfl, -, -, e2⟩ := r2.int_at hlt
      obtain ⟨a3, rfl, -, -, e3⟩ := hr3.int_at (k := N - 1 - j) (by omega)
      rw [wts_at (by omega)] at e2 e3
      have e4 : ((N - 1 - j : Nat) : Int) = M - j := by omega
      rw [e4, wt_mirror] at e3
      have b2 := wt_bound38 hxo (x := j) (by omega) (by omega)
      have e5 : M.toNat - j = N - 1 - j := by omega
      rw [← e5] at e3
      clear e4 e5
      have b3 := wt_bound38 hxo (x := j - 1)
      generalize hP : wt X M K j = P at *
      have d1 : decide (P ≤ 0) = false := by simp; omega
      have d2 : (P != P) = false := by simp
      have i1 : 0 ≤ M - (j : Int) := by omega
      have i2 : M - (j : Int) < (N : Int) := by omega
      have v1 : IntKind.i64.wrap (M - (j : Int)) = M - (j : Int) := IntWalk.i64_in _ (by omega)
      have v2 : 1 < (j : Int) → IntKind.i64.wrap ((j : Int) - 1) = (j : Int) - 1 := fun _ => IntWalk.i64_in _ (by omega)
      have HPP := Lib.hid hP
      clear hP
      by_cases hmid : 1 < (j : Int) ∧ (j : Int) < M
      · obtain ⟨g1, g2⟩ := hmid
        have v3 := v2 g1
        have i3 : 0 ≤ (j : Int) - 1 := by omega
        have i4 : (j : Int) - 1 < (N : Int) := by omega
        clear v2
        obtain ⟨a4, h4, -, -, e4⟩ := r2.int_at (k := j - 1) (by omega)
        cases h4
        rw [wts_at (by omega)] at e4
        have hj1 : ((j - 1 : Nat) : Int) = (j : Int) - 1 := by omega
        rw [hj1] at e4
        have mono1 : (j : Int) ≤ X → wt X M K (j - 1) ≤ P := fun h => by
          rw [← HPP.out]
          exact wt_mono hxo (by omega) (by omega) (by unfold dist; (repeat' split) <;> omega)
        have mono2 : X < (j : Int) → P ≤ wt X M K (j - 1) := fun h => by
          rw [← HPP.out]
          exact wt_mono hxo (by omega) (by omega) (by unfold dist; (repeat' split) <;> omega)
        generalize wt X M K (j - 1) = Q at *
        have M1 := Lib.hid mono1
        have M2 := Lib.hid mono2
        clear hj1 mono1 mono2 b3
        by_cases hx : (j : Int) ≤ X
        · have m1' := M1.out hx
          have t1 : decide ((1 : Int) < j) = true := by simp; omega
          have t2 : decide ((j : Int) < M) = true := by simp; omega
          have t3 : decide ((j : Int) ≤ X) = true := by simp; omega
          have t4 : decide (P < Q) = false := by simp; omega
          have t5 : decide (X < (j : Int)) = false := by simp; omega
          go_wp2_with fail
          go_quiet (fail)
          go_wp2_with fail
          go_quiet (fail)
          go_wp2_with fail
          go_roundw
          case rel => exact ⟨j + 1, by omega, by go_num, _, rfl⟩
          case measure => simp [intOf]; omega
        · have m2' := M2.out (by omega)
          have t1 : decide ((1 : Int) < j) = true := by simp; omega
          have t2 : decide ((j : Int) < M) = true := by simp; omega
          have t3 : decide ((j : Int) ≤ X) = false := by simp; omega
          have t4 : decide (Q < P) = false := by simp; omega
          have t5 : decide (X < (j : Int)) = true := by simp; omega
          go_wp2_with fail
          go_quiet (fail)
          go_wp2_with fail
          go_quiet (fail)
          go_wp2_with fail
          go_roundw
          case rel => exact ⟨j + 1, by omega, by go_num, _, rfl⟩
          case measure => simp [intOf]; omega
      · clear b3 v2
        by_cases g1 : 1 < (j : Int)
        · have t1 : decide ((1 : Int) < j) = true := by simp; omega
          have t2 : decide ((j : Int) < M) = false := by simp; omega
          go_wp2_with fail
          go_quiet (fail)
          go_wp2_with fail
          go_quiet (fail)
          go_wp2_with fail
          go_roundw
          case rel => exact ⟨j + 1, by omega, by go_num, _, rfl⟩
          case measure => simp [intOf]; omega
        · have t1 : decide ((1 : Int) < j) = false := by simp; omega
          go_wp2_with fail
          go_quiet (fail)
          go_wp2_with fail
          go_quiet (fail)
          go_wp2_with fail
          go_roundw
          case rel => exact ⟨j + 1, by omega, by go_num, _, rfl⟩
          case measure => simp [intOf]; omega
    · obtain rfl : j = N := by omega
      go_wp2_with fail
      refine (lives_any _).mono ?_
      rintro e w4 ⟨rfl, hb4⟩
      go_wp2_with fail
      go_ret
      exact ⟨rfl, (below_drewN' hw q).trans (hb4.mono (by simpa using hw.size))⟩
theorem noiseShapes_walk (a n k : Int) (w : World) (ha : (Lit.int .i64 a).wf = true) (hn : (Lit.int .i64 n).wf = true) (hk : (Lit.int .i64 k).wf = true) :
    Calls Try.prog 5 #[.int .i64 a, .int .i64 n, .int .i64 k] w fun e W' => e = .returned (.bool true) ∧ Below w.heap.size w W' :=
  noiseShapes_any a n k w (i64_of ha) (i64_of hn) (i64_of hk)
end Go.Proofs.Ytbofbihpmhkppaa
