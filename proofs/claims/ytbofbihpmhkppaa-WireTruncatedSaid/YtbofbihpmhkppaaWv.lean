/- Plain laws on the decoders: lengths, round trips, canonical forms, prefixes. Nothing of the program stands here. -/
import Derived.Test.YtbofbihpmhkppaaWt
namespace Go.Proofs.Ytbofbihpmhkppaa
open Go.RowKit

section
variable {α : Type} {f : List UInt8 → Except Nat (α × Nat)} {enc : α → List UInt8} {p : α → Prop}
theorem decN_length {b : List UInt8} : ∀ {k at_ : Nat} {r : List α} {z : Nat}, decN f b k at_ = .ok (r, z) → r.length = k
  | 0, at_, r, z, h => by simp [decN] at h; simp [h.1]
  | k + 1, at_, r, z, h => by
    unfold decN at h
    cases hf : f (b.drop at_) with
    | error e => rw [hf] at h; simp at h
    | ok q =>
      obtain ⟨x, u⟩ := q
      rw [hf] at h
      dsimp only at h
      cases hn : decN f b k (at_ + u) with
      | error e => rw [hn] at h; simp at h
      | ok q =>
        obtain ⟨r', z'⟩ := q
        rw [hn] at h
        simp only [Except.ok.injEq, Prod.mk.injEq] at h
        rw [← h.1, List.length_cons, decN_length hn]
theorem decL_len {b r z} (h : decL f b = .ok (r, z)) : r.length ≤ b.length := by
  unfold decL at h
  cases hc : decC 1 b with
  | error e => rw [hc] at h; simp at h
  | ok q =>
    obtain ⟨n, u⟩ := q
    rw [hc] at h
    dsimp only at h
    have := decN_length h
    have := (decC_ok hc (by omega)).2
    omega
end
theorem decD_len {b r : List UInt8} {n z : Nat} (h : decD b = .ok (r, n, z)) : n ≤ b.length := by
  unfold decD at h
  cases hc : decC 16 b with
  | error e => rw [hc] at h; simp at h
  | ok q =>
    obtain ⟨m, u⟩ := q
    rw [hc] at h
    simp only [Except.ok.injEq, Prod.mk.injEq] at h
    have := (decC_ok hc (by omega)).2
    omega
/-- both ways to say what was decoded agree -/
theorem got_same {α : Type} {D : Except Nat (List α × Nat)} {r r' : List α} {z z' q q' : Nat} (h1 : D = (if q = 0 then .ok (r, z) else .error q)) (k1 : q ≠ 0 → r = [] ∧ z = 0)
    (h2 : D = (if q' = 0 then .ok (r', z') else .error q')) (k2 : q' ≠ 0 → r' = [] ∧ z' = 0) : r' = r ∧ z' = z ∧ q' = q := by
  rw [h1] at h2
  by_cases e : q = 0 <;> by_cases e' : q' = 0
  · subst e; subst e'; simp at h2; exact ⟨h2.1.symm, h2.2.symm, rfl⟩
  · rw [if_pos e, if_neg e'] at h2; cases h2
  · rw [if_neg e, if_pos e'] at h2; cases h2
  · rw [if_neg e, if_neg e'] at h2
    injection h2 with h2
    obtain ⟨rfl, rfl⟩ := k1 e
    obtain ⟨rfl, rfl⟩ := k2 e'
    exact ⟨rfl, rfl, h2.symm⟩
theorem gotD_same {D : Except Nat (List UInt8 × Nat × Nat)} {r r' : List UInt8} {n n' z z' q q' : Nat} (h1 : D = (if q = 0 then .ok (r, n, z) else .error q)) (k1 : q ≠ 0 → r = [] ∧ n = 0 ∧ z = 0)
    (h2 : D = (if q' = 0 then .ok (r', n', z') else .error q')) (k2 : q' ≠ 0 → r' = [] ∧ n' = 0 ∧ z' = 0) : r' = r ∧ n' = n ∧ z' = z ∧ q' = q := by
  rw [h1] at h2
  by_cases e : q = 0 <;> by_cases e' : q' = 0
  · subst e; subst e'; simp at h2; exact ⟨h2.1.symm, h2.2.1.symm, h2.2.2.symm, rfl⟩
  · rw [if_pos e, if_neg e'] at h2; cases h2
  · rw [if_neg e, if_pos e'] at h2; cases h2
  · rw [if_neg e, if_neg e'] at h2
    injection h2 with h2
    obtain ⟨rfl, rfl, rfl⟩ := k1 e
    obtain ⟨rfl, rfl, rfl⟩ := k2 e'
    exact ⟨rfl, rfl, rfl, h2.symm⟩
theorem got_len {α : Type} {f : List UInt8 → Except Nat (α × Nat)} {b : List UInt8} {r : List α} {z q : Nat} (h1 : decL f b = (if q = 0 then .ok (r, z) else .error q)) (k1 : q ≠ 0 → r = [] ∧ z = 0) : r.length ≤ b.length := by
  by_cases e : q = 0
  · rw [if_pos e] at h1; exact decL_len h1
  · obtain ⟨rfl, -⟩ := k1 e; exact Nat.zero_le _
theorem gotD_len {b r : List UInt8} {n z q : Nat} (h1 : decD b = (if q = 0 then .ok (r, n, z) else .error q)) (k1 : q ≠ 0 → r = [] ∧ n = 0 ∧ z = 0) : n ≤ b.length := by
  by_cases e : q = 0
  · rw [if_pos e] at h1; exact decD_len h1
  · obtain ⟨-, rfl, -⟩ := k1 e; exact Nat.zero_le _
theorem retI_form (D : Except Nat (Int × Nat)) : ∃ x y z : Int, retI D = .tuple #[.int .i64 x, .int .i64 y, .int .i64 z] := by
  cases D with
  | error e => exact ⟨_, _, _, rfl⟩
  | ok p => exact ⟨_, _, _, rfl⟩
theorem retB_form (D : Except Nat (List UInt8 × Nat)) : ∃ (s : ByteArray) (y z : Int), retB D = .tuple #[.string s, .int .i64 y, .int .i64 z] := by
  cases D with
  | error e => exact ⟨_, _, _, rfl⟩
  | ok p => exact ⟨_, _, _, rfl⟩
end Go.Proofs.Ytbofbihpmhkppaa
