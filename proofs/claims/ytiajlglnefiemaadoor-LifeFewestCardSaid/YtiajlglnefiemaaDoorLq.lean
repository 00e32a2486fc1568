/- Life cycles: the fewest moves, plain laws. No program in sight. -/
import Derived.Test.YtiajlglnefiemaaDoorLp
set_option linter.unusedSimpArgs false
set_option linter.unusedVariables false
namespace Go.Proofs.YtiajlglnefiemaaDoor
open Go.RowKit

theorem lst_spec (M : List (Int × Int)) (s : Nat) : ∀ k, (lst M k s = -1 ∧ ∀ j, j < k → reachB M j s = false) ∨ ∃ j : Nat, j < k ∧ lst M k s = (j : Int) ∧ reachB M j s = true ∧ ∀ i, i < j → reachB M i s = false
  | 0 => .inl ⟨rfl, fun j hj => by omega⟩
  | k + 1 => by
    have e : lst M (k + 1) s = lsee k (reachB M k) (lst M k) s := rfl
    rcases lst_spec M s k with ⟨h1, h2⟩ | ⟨j, hj, h1, h2, h3⟩
    · cases hr : reachB M k s
      · refine .inl ⟨?_, fun j hj => ?_⟩
        · rw [e]; unfold lsee; rw [hr, Bool.false_and]; exact h1
        · by_cases ej : j = k
          · rw [ej]; exact hr
          · exact h2 j (by omega)
      · refine .inr ⟨k, by omega, ?_, hr, h2⟩
        rw [e]; unfold lsee; rw [hr, h1]; rfl
    · refine .inr ⟨j, by omega, ?_, h2, h3⟩
      rw [e]; unfold lsee; rw [h1, decide_eq_false (by omega), Bool.and_false]; rfl
theorem reach_step {M : List (Int × Int)} {k s : Nat} : reachB M (k + 1) s = true ↔ ∃ a b, (a, b) ∈ M ∧ reachB M k a.toNat = true ∧ b = (s : Int) := by
  show (M.any fun p => reachB M k p.1.toNat && decide (p.2 = (s : Int))) = true ↔ _
  rw [List.any_eq_true]
  constructor
  · rintro ⟨⟨a, b⟩, h1, h2⟩
    rw [Bool.and_eq_true, decide_eq_true_iff] at h2
    exact ⟨a, b, h1, h2.1, h2.2⟩
  · rintro ⟨a, b, h1, h2, h3⟩
    refine ⟨(a, b), h1, ?_⟩
    rw [Bool.and_eq_true, decide_eq_true_iff]
    exact ⟨h2, h3⟩
/-- a way of k moves -/
def WayB (M : List (Int × Int)) (p : Nat → Nat) (k : Nat) : Prop := p 0 = 0 ∧ ∀ i, i < k → ∃ a b, (a, b) ∈ M ∧ a.toNat = p i ∧ b = (p (i + 1) : Int)
theorem way_of (M : List (Int × Int)) : ∀ k s, reachB M k s = true → ∃ p, WayB M p k ∧ p k = s
  | 0, s, h => ⟨fun _ => 0, ⟨rfl, fun i hi => by omega⟩, by
    have : decide (s = 0) = true := h
    rw [decide_eq_true_iff] at this
    exact this.symm⟩
  | k + 1, s, h => by
    obtain ⟨a, b, h1, h2, h3⟩ := reach_step.1 h
    obtain ⟨p, ⟨q0, q1⟩, q2⟩ := way_of M k _ h2
    refine ⟨fun i => if i ≤ k then p i else s, ⟨by simp [q0], fun i hi => ?_⟩, if_neg (by omega)⟩
    by_cases e : i = k
    · subst e
      refine ⟨a, b, h1, ?_, ?_⟩
      · dsimp only; rw [if_pos (Nat.le_refl _)]; exact q2.symm
      · dsimp only; rw [if_neg (by omega)]; exact h3
    · obtain ⟨a', b', r1, r2, r3⟩ := q1 i (by omega)
      refine ⟨a', b', r1, ?_, ?_⟩
      · dsimp only; rw [if_pos (by omega)]; exact r2
      · dsimp only; rw [if_pos (by omega)]; exact r3
theorem way_goes {M : List (Int × Int)} {p : Nat → Nat} {k : Nat} (h : WayB M p k) (c i : Nat) (hc : reachB M c (p i) = true) : ∀ d, i + d ≤ k → reachB M (c + d) (p (i + d)) = true
  | 0, _ => hc
  | d + 1, hd => by
    have ih := way_goes h c i hc d (by omega)
    obtain ⟨a, b, h1, h2, h3⟩ := h.2 (i + d) (by omega)
    exact reach_step.2 ⟨a, b, h1, by rw [h2]; exact ih, h3⟩
theorem reach_short {M : List (Int × Int)} {n : Nat} (h1 : 1 ≤ n) (hM : ∀ a b, (a, b) ∈ M → 0 ≤ a ∧ a < n ∧ 0 ≤ b ∧ b < n) : ∀ f k s, k ≤ f → reachB M k s = true → ∃ i, i < n ∧ i ≤ k ∧ reachB M i s = true
  | 0, k, s, hk, h => ⟨k, by omega, Nat.le_refl _, h⟩
  | f + 1, k, s, hk, h => by
    by_cases hn : k < n
    · exact ⟨k, hn, Nat.le_refl _, h⟩
    · obtain ⟨p, hp, hs⟩ := way_of M k s h
      have hlt : ∀ i, i ≤ n → p i < n := fun i hi => by
        cases i with
        | zero => rw [hp.1]; omega
        | succ i =>
          obtain ⟨a, b, q1, q2, q3⟩ := hp.2 i (by omega)
          have := hM a b q1
          omega
      obtain ⟨i, j, hij, hj, e⟩ := pigeon n p hlt
      have g0 : reachB M 0 (p 0) = true := by rw [hp.1]; rfl
      have g1 := way_goes hp 0 0 g0 i (by omega)
      simp only [Nat.zero_add] at g1
      rw [e] at g1
      have g2 := way_goes hp i j g1 (k - j) (by omega)
      rw [show j + (k - j) = k by omega, hs] at g2
      obtain ⟨r, r1, r2, r3⟩ := reach_short h1 hM f (i + (k - j)) s (by omega) g2
      exact ⟨r, r1, by omega, r3⟩
/-- what the fewest moves tell -/
theorem fewest {M : List (Int × Int)} {n : Nat} (h1 : 1 ≤ n) (hM : ∀ a b, (a, b) ∈ M → 0 ≤ a ∧ a < n ∧ 0 ≤ b ∧ b < n) {k s : Nat} (h : reachB M k s = true) : 0 ≤ lst M (n + 1) s ∧ lst M (n + 1) s ≤ k := by
  obtain ⟨i, i1, i2, i3⟩ := reach_short h1 hM k k s (Nat.le_refl _) h
  rcases lst_spec M s (n + 1) with ⟨q1, q2⟩ | ⟨j, q1, q2, q3, q4⟩
  · have := q2 i (by omega)
    rw [i3] at this
    cases this
  · rw [q2]
    have : j ≤ i := by
      apply Nat.le_of_not_lt
      intro hlt
      have := q4 i hlt
      rw [i3] at this
      cases this
    omega
theorem fewest_zero {M : List (Int × Int)} {n : Nat} (h1 : 1 ≤ n) (hM : ∀ a b, (a, b) ∈ M → 0 ≤ a ∧ a < n ∧ 0 ≤ b ∧ b < n) : lst M (n + 1) 0 = 0 := by
  have := fewest h1 hM (show reachB M 0 0 = true from rfl)
  omega
theorem fewest_reached {M : List (Int × Int)} {n s : Nat} (h : 0 ≤ lst M (n + 1) s) : reachB M (lst M (n + 1) s).toNat s = true := by
  rcases lst_spec M s (n + 1) with ⟨q1, q2⟩ | ⟨j, q1, q2, q3, q4⟩
  · omega
  · rw [q2, Int.toNat_natCast]; exact q3
theorem fewest_le (M : List (Int × Int)) (n s : Nat) : lst M (n + 1) s ≤ n := by
  rcases lst_spec M s (n + 1) with ⟨q1, q2⟩ | ⟨j, q1, q2, q3, q4⟩ <;> omega
theorem fewest_pos {M : List (Int × Int)} {n s : Nat} (hs : 0 < s) : lst M (n + 1) s ≠ 0 := fun e => by
  have := fewest_reached (M := M) (n := n) (s := s) (by omega)
  rw [e] at this
  have : decide (s = 0) = true := this
  rw [decide_eq_true_iff] at this
  omega
theorem fewest_move {M : List (Int × Int)} {n : Nat} (h1 : 1 ≤ n) (hM : ∀ a b, (a, b) ∈ M → 0 ≤ a ∧ a < n ∧ 0 ≤ b ∧ b < n) {a s : Nat} (h : ((a : Int), (s : Int)) ∈ M) (h0 : 0 ≤ lst M (n + 1) a) : 0 ≤ lst M (n + 1) s ∧ lst M (n + 1) s ≤ lst M (n + 1) a + 1 := by
  have hr := fewest_reached h0
  have := fewest h1 hM (reach_step.2 ⟨(a : Int), (s : Int), h, by rw [Int.toNat_natCast]; exact hr, rfl⟩)
  omega
/-- among the first k moves one leads to s, with one move more -/
def fndB (M : List (Int × Int)) (n s : Nat) : Nat → Bool
  | 0 => decide (s = 0) || decide (lst M (n + 1) s = -1)
  | k + 1 => fndB M n s k || (match M[k]? with | some (a, b) => decide (b = (s : Int)) && decide (0 ≤ lst M (n + 1) a.toNat) && decide (lst M (n + 1) s = lst M (n + 1) a.toNat + 1) | none => false)
theorem fnd_up {M : List (Int × Int)} {n s j : Nat} (h : fndB M n s j = true) : ∀ d, fndB M n s (j + d) = true
  | 0 => h
  | d + 1 => by
    show (fndB M n s (j + d) || _) = true
    rw [fnd_up h d, Bool.true_or]
theorem found {M : List (Int × Int)} {n s : Nat} (h1 : 1 ≤ n) (hM : ∀ a b, (a, b) ∈ M → 0 ≤ a ∧ a < n ∧ 0 ≤ b ∧ b < n) : fndB M n s M.length = true := by
  rcases lst_spec M s (n + 1) with ⟨q1, q2⟩ | ⟨j, q1, q2, q3, q4⟩
  · have h0 : fndB M n s 0 = true := by
      show (decide (s = 0) || decide (lst M (n + 1) s = -1)) = true
      rw [decide_eq_true q1, Bool.or_true]
    have := fnd_up h0 M.length
    rwa [Nat.zero_add] at this
  · cases j with
    | zero =>
      have e : decide (s = 0) = true := q3
      have h0 : fndB M n s 0 = true := by
        show (decide (s = 0) || decide (lst M (n + 1) s = -1)) = true
        rw [e, Bool.true_or]
      have := fnd_up h0 M.length
      rwa [Nat.zero_add] at this
    | succ j =>
      obtain ⟨a, b, r1, r2, r3⟩ := reach_step.1 q3
      have f1 := fewest h1 hM r2
      have ha := hM a b r1
      have f2 := fewest_move h1 hM (a := a.toNat) (s := s) (by rw [Int.toNat_of_nonneg ha.1, ← r3]; exact r1) f1.1
      obtain ⟨i, hi, hg⟩ := List.mem_iff_getElem.1 r1
      have h0 : fndB M n s (i + 1) = true := by
        show (fndB M n s i || (match M[i]? with | some (a, b) => decide (b = (s : Int)) && decide (0 ≤ lst M (n + 1) a.toNat) && decide (lst M (n + 1) s = lst M (n + 1) a.toNat + 1) | none => false)) = true
        rw [List.getElem?_eq_getElem hi, hg]
        show (fndB M n s i || (decide (b = (s : Int)) && decide (0 ≤ lst M (n + 1) a.toNat) && decide (lst M (n + 1) s = lst M (n + 1) a.toNat + 1))) = true
        rw [decide_eq_true r3, decide_eq_true f1.1, decide_eq_true (by omega)]
        simp
      have := fnd_up h0 (M.length - (i + 1))
      rwa [show i + 1 + (M.length - (i + 1)) = M.length by omega] at this
/-- what Reach of m moves tells -/
theorem fewest_out {M : List (Int × Int)} {n : Nat} (h1 : 1 ≤ n) (hM : ∀ a b, (a, b) ∈ M → 0 ≤ a ∧ a < n ∧ 0 ≤ b ∧ b < n) {m s : Nat} (h : outB M m (m + 1) s = true) : 0 ≤ lst M (n + 1) s ∧ lst M (n + 1) s ≤ m := by
  obtain ⟨j, j1, j2, -⟩ := (outB_iff M m s _).1 h
  have := fewest h1 hM j2
  omega
theorem fewest_in {M : List (Int × Int)} {n m s : Nat} (h : (m : Int) = lst M (n + 1) s) : outB M m (m + 1) s = true := by
  have := fewest_reached (M := M) (n := n) (s := s) (by omega)
  rw [← h, Int.toNat_natCast] at this
  exact (outB_iff M m s _).2 ⟨m, by omega, this, .inl (Nat.le_refl _)⟩
end Go.Proofs.YtiajlglnefiemaaDoor
