/- Both functions count, for any bytes, return the same decoded count or error. Conditions: at most 100000 bytes; the least size of an element is from 1 to 16. -/
import Derived.Test.YtbekkndkdfmijaaWg
namespace Go.Proofs.Ytbekkndkdfmijaa
open Go.RowKit

theorem decI_err {b : List UInt8} {q : Nat} (h : decI b = .error q) : q = 2 ∨ q = 3 := by
  cases b with
  | nil => right; simpa [decI] using h.symm
  | cons c t =>
    rw [decI_cons c t _ _ rfl rfl] at h
    split at h
    · left; simpa using h.symm
    · split at h
      · right; simpa using h.symm
      · split at h
        · left; simpa using h.symm
        · split at h
          · left; simpa using h.symm
          · simp at h
/-- DECODING A LENGTH: of elements that have at least s bytes -/
def decC (s : Nat) (b : List UInt8) : Except Nat (Nat × Nat) :=
  match decI b with
  | .error e => .error e
  | .ok (n, u) => if n < 0 then .error 2 else if (b.length - u) / s < n.toNat then .error 3 else .ok (n.toNat, u)
theorem decC_err {s : Nat} {b : List UInt8} {q : Nat} (h : decC s b = .error q) : q = 2 ∨ q = 3 := by
  unfold decC at h
  cases hD : decI b with
  | error e => rw [hD] at h; simp at h; subst h; exact decI_err hD
  | ok p =>
    obtain ⟨n, u⟩ := p
    rw [hD] at h
    dsimp only at h
    split at h
    · left; simpa using h.symm
    · split at h
      · right; simpa using h.symm
      · simp at h
theorem decC_ok {s : Nat} {b : List UInt8} {n u : Nat} (h : decC s b = .ok (n, u)) (hs : 0 < s) : decI b = .ok ((n : Int), u) ∧ n * s + u ≤ b.length := by
  unfold decC at h
  cases hD : decI b with
  | error e => rw [hD] at h; simp at h
  | ok p =>
    obtain ⟨m, v⟩ := p
    rw [hD] at h
    dsimp only at h
    obtain ⟨-, -, -, hv, -⟩ := decI_canon b m v hD
    by_cases g1 : m < 0
    · rw [if_pos g1] at h; simp at h
    rw [if_neg g1] at h
    by_cases g2 : (b.length - v) / s < m.toNat
    · rw [if_pos g2] at h; simp at h
    rw [if_neg g2] at h
    simp only [Except.ok.injEq, Prod.mk.injEq] at h
    obtain ⟨h1, rfl⟩ := h
    subst h1
    refine ⟨by rw [Int.toNat_of_nonneg (by omega)], ?_⟩
    have h3 : m.toNat ≤ (b.length - v) / s := by omega
    rw [Nat.le_div_iff_mul_le hs] at h3
    omega

set_option maxRecDepth 100000 in
set_option maxHeartbeats 1000000 in
theorem wCount_any (A : Option Addr) (n c s : Nat) (l : List UInt8) (w : World) (hl : Reads w w.heap.size 1 A n (bytesV l)) (hn : n ≤ 100000) (hnc : n ≤ c) (hs : 0 < s) (hs2 : s ≤ 16) :
    Calls Try.prog 52 #[.slice A n c, .int .i64 (s : Int)] w fun e W' => (∃ x y z : Int, e = .returned (.tuple #[.int .i64 x, .int .i64 y, .int .i64 z]) ∧ (∀ q, decC s l = .error q → z = q) ∧ (∀ p : Nat × Nat, decC s l = .ok p → x = p.1 ∧ y = p.2 ∧ z = 0)) ∧ Drawn w W' := by
  have hdef : decC s l = (match decI l with
    | .error e => .error e
    | .ok (n, u) => if n < 0 then .error 2 else if (l.length - u) / s < n.toNat then .error 3 else .ok (n.toNat, u)) := rfl
  have el := hl.byte_len
  cases hD : decI l with
  | error q =>
    rw [hD] at hdef
    dsimp only at hdef
    rw [hdef]
    have hq : (q : Int) ≠ 0 := by rcases decI_err hD with h | h <;> omega
    go_enter Try.func52, Try.ntmps52
    go_wp2_with fail
    refine (wGetInt_any A n c l w hl hn hnc).mono ?_
    rintro e w1 ⟨rfl, k, rfl⟩
    rw [hD]
    simp only [retI]
    go_wp2_with fail
    go_ret3
    exact ⟨⟨0, 0, q, rfl, fun q' h => by simp at h; rw [h], fun p h => by simp at h⟩, k, rfl⟩
  | ok p =>
    obtain ⟨m, u⟩ := p
    obtain ⟨hI, hu1, hu9, hul, -⟩ := decI_canon l m u hD
    rw [hD] at hdef
    dsimp only at hdef
    by_cases g1 : m < 0
    · rw [if_pos g1] at hdef
      rw [hdef]
      clear hdef
      go_enter Try.func52, Try.ntmps52
      go_wp2_with fail
      refine (wGetInt_any A n c l w hl hn hnc).mono ?_
      rintro e w1 ⟨rfl, k, rfl⟩
      rw [hD]
      simp only [retI]
      go_wp2_with fail
      go_ret3
      exact ⟨⟨m, u, 2, rfl, fun q' h => by simp at h; rw [← h]; rfl, fun p h => by simp at h⟩, k, rfl⟩
    · obtain ⟨M, rfl⟩ := Int.eq_ofNat_of_zero_le (show 0 ≤ m by omega)
      rw [if_neg g1, Int.toNat_natCast] at hdef
      rw [hdef]
      clear hdef
      have hun : (u : Int) ≤ (n : Int) := by omega
      have hx := hI.2
      have hdiv : ((n : Int) - (u : Int)) / (s : Int) = (((l.length - u) / s : Nat) : Int) := by
        rw [Int.natCast_ediv, el, Int.ofNat_sub (by omega)]
      have gm : ¬ ((M : Int) < 0) := by omega
      by_cases g2 : (l.length - u) / s < M
      · rw [if_pos g2]
        have g3 : ((n : Int) - (u : Int)) / (s : Int) < (M : Int) := by rw [hdiv]; omega
        clear g2 hdiv
        go_enter Try.func52, Try.ntmps52
        go_wp2_with fail
        refine (wGetInt_any A n c l w hl hn hnc).mono ?_
        rintro e w1 ⟨rfl, k, rfl⟩
        rw [hD]
        simp only [retI]
        go_wp2_with fail
        go_ret3
        exact ⟨⟨M, u, 3, rfl, fun q' h => by simp at h; rw [← h]; rfl, fun p h => by simp at h⟩, k, rfl⟩
      · rw [if_neg g2]
        have g3 : ¬ (((n : Int) - (u : Int)) / (s : Int) < (M : Int)) := by rw [hdiv]; omega
        clear g2 hdiv
        go_enter Try.func52, Try.ntmps52
        go_wp2_with fail
        refine (wGetInt_any A n c l w hl hn hnc).mono ?_
        rintro e w1 ⟨rfl, k, rfl⟩
        rw [hD]
        simp only [retI]
        go_wp2_with fail
        go_ret3
        exact ⟨⟨M, u, 0, rfl, fun q' h => by simp at h, fun p h => by simp at h; rw [← h]; simp⟩, k, rfl⟩

set_option maxRecDepth 100000 in
set_option maxHeartbeats 1000000 in
theorem rCount_any (A : Option Addr) (n c s : Nat) (l : List UInt8) (w : World) (hl : Reads w w.heap.size 1 A n (bytesV l)) (hn : n ≤ 100000) (hnc : n ≤ c) (hs : 0 < s) (hs2 : s ≤ 16) :
    Calls Try.prog 54 #[.slice A n c, .int .i64 (s : Int)] w fun e W' => (∃ x y z : Int, e = .returned (.tuple #[.int .i64 x, .int .i64 y, .int .i64 z]) ∧ (∀ q, decC s l = .error q → z = q) ∧ (∀ p : Nat × Nat, decC s l = .ok p → x = p.1 ∧ y = p.2 ∧ z = 0)) ∧ Below w.heap.size w W' := by
  have hdef : decC s l = (match decI l with
    | .error e => .error e
    | .ok (n, u) => if n < 0 then .error 2 else if (l.length - u) / s < n.toNat then .error 3 else .ok (n.toNat, u)) := rfl
  have el := hl.byte_len
  cases hD : decI l with
  | error q =>
    rw [hD] at hdef
    dsimp only at hdef
    rw [hdef]
    have hq : (q : Int) ≠ 0 := by rcases decI_err hD with h | h <;> omega
    go_enter Try.func54, Try.ntmps54
    go_wp2_with fail
    refine (rGetInt_any A n c l w hl hn hnc).mono ?_
    rintro e w1 ⟨rfl, hb⟩
    rw [hD]
    simp only [retI]
    go_wp2_with fail
    go_ret3
    exact ⟨⟨0, 0, q, rfl, fun q' h => by simp at h; rw [h], fun p h => by simp at h⟩, hb⟩
  | ok p =>
    obtain ⟨m, u⟩ := p
    obtain ⟨hI, hu1, hu9, hul, -⟩ := decI_canon l m u hD
    rw [hD] at hdef
    dsimp only at hdef
    by_cases g1 : m < 0
    · rw [if_pos g1] at hdef
      rw [hdef]
      clear hdef
      go_enter Try.func54, Try.ntmps54
      go_wp2_with fail
      refine (rGetInt_any A n c l w hl hn hnc).mono ?_
      rintro e w1 ⟨rfl, hb⟩
      rw [hD]
      simp only [retI]
      go_wp2_with fail
      go_ret3
      exact ⟨⟨0, 0, 2, rfl, fun q' h => by simp at h; rw [← h]; rfl, fun p h => by simp at h⟩, hb⟩
    · obtain ⟨M, rfl⟩ := Int.eq_ofNat_of_zero_le (show 0 ≤ m by omega)
      rw [if_neg g1, Int.toNat_natCast] at hdef
      rw [hdef]
      clear hdef
      have hun : (u : Int) ≤ (n : Int) := by omega
      have hx := hI.2
      have gm : ¬ ((M : Int) < 0) := by omega
      have hdiv : (l.length - u) / s < M ↔ n - u < M * s := by rw [Nat.div_lt_iff_lt_mul hs, el]
      by_cases g4 : (n : Int) < (M : Int)
      · have g2 : (l.length - u) / s < M := by
          rw [hdiv]; have := Nat.le_mul_of_pos_right M hs; omega
        rw [if_pos g2]
        clear g2 hdiv
        go_enter Try.func54, Try.ntmps54
        go_wp2_with fail
        refine (rGetInt_any A n c l w hl hn hnc).mono ?_
        rintro e w1 ⟨rfl, hb⟩
        rw [hD]
        simp only [retI]
        go_wp2_with fail
        go_ret3
        exact ⟨⟨0, 0, 3, rfl, fun q' h => by simp at h; rw [← h]; rfl, fun p h => by simp at h⟩, hb⟩
      · have hMs : M * s ≤ 100000 * 16 := Nat.mul_le_mul (by omega) hs2
        obtain ⟨T, hT⟩ : ∃ T : Nat, T = M * s := ⟨_, rfl⟩
        have hTi : IntKind.i64.wrap ((M : Int) * (s : Int)) = (T : Int) := by
          rw [show (M : Int) * (s : Int) = (T : Int) by rw [hT]; simp]; exact IntWalk.i64_in _ (by omega)
        rw [← hT] at hdiv
        by_cases g2 : (l.length - u) / s < M
        · rw [if_pos g2]
          have g3 : (n : Int) - (u : Int) < (T : Int) := by omega
          clear g2 hdiv hT
          go_enter Try.func54, Try.ntmps54
          go_wp2_with fail
          refine (rGetInt_any A n c l w hl hn hnc).mono ?_
          rintro e w1 ⟨rfl, hb⟩
          rw [hD]
          simp only [retI]
          go_wp2_with fail
          go_ret3
          exact ⟨⟨0, 0, 3, rfl, fun q' h => by simp at h; rw [← h]; rfl, fun p h => by simp at h⟩, hb⟩
        · rw [if_neg g2]
          have g3 : ¬ ((n : Int) - (u : Int) < (T : Int)) := by omega
          clear g2 hdiv hT
          go_enter Try.func54, Try.ntmps54
          go_wp2_with fail
          refine (rGetInt_any A n c l w hl hn hnc).mono ?_
          rintro e w1 ⟨rfl, hb⟩
          rw [hD]
          simp only [retI]
          go_wp2_with fail
          go_ret3
          exact ⟨⟨M, u, 0, rfl, fun q' h => by simp at h, fun p h => by simp at h; rw [← h]; simp⟩, hb⟩
end Go.Proofs.Ytbekkndkdfmijaa
