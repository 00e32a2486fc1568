/- The nodes of made splits: halves as the draws say, each first word accepted. Conditions: the ranges that the theorems state. -/
import Derived.Test.YtkchalnohkfhbaaDoorZz
import Derived.Test.YtkchalnohkfhbaaDoorVk
set_option linter.unusedSimpArgs false
set_option linter.unusedVariables false
namespace Go.Proofs.YtkchalnohkfhbaaDoor
open Go.RowKit Go.Shelf Go

/-- a node of a split of at most twelve, with a total within its bounds -/
def MadeI (lo hi : Int) (a m : Nat) (t : Int) : Prop := a + m ≤ 12 ∧ (2 ≤ m → (a, m) ∈ nodes) ∧ (m : Int) * lo ≤ t ∧ t ≤ (m : Int) * hi
theorem nodes_root : ((List.range 13).all fun m => decide (m < 2 ∨ (0, m) ∈ nodes)) = true := by decide
theorem nodes_down : (nodes.all fun q => decide ((q.2 / 2 < 2 ∨ (q.1, q.2 / 2) ∈ nodes) ∧ (q.2 - q.2 / 2 < 2 ∨ (q.1 + q.2 / 2, q.2 - q.2 / 2) ∈ nodes))) = true := by decide
theorem made_root {lo hi T : Int} {m : Nat} (hm : m ≤ 12) (h0 : (m : Int) * lo ≤ T) (h1 : T ≤ (m : Int) * hi) : MadeI lo hi 0 m T := by
  refine ⟨by omega, fun h2 => ?_, h0, h1⟩
  rcases of_decide_eq_true (List.all_eq_true.1 nodes_root m (List.mem_range.2 (by omega))) with h | h
  · omega
  · exact h
/-- the bounds of a left half -/
theorem half_bounds {lo hi t : Int} {m : Nat} (h : lo ≤ hi) (h0 : (m : Int) * lo ≤ t) (h1 : t ≤ (m : Int) * hi) :
    loB lo hi t m ≤ hiB lo hi t m ∧ hiB lo hi t m - loB lo hi t m ≤ ((m / 2 : Nat) : Int) * (hi - lo) ∧ (∀ D, loB lo hi t m ≤ D → D ≤ hiB lo hi t m → ((m / 2 : Nat) : Int) * lo ≤ D ∧ D ≤ ((m / 2 : Nat) : Int) * hi ∧ ((m - m / 2 : Nat) : Int) * lo ≤ t - D ∧ t - D ≤ ((m - m / 2 : Nat) : Int) * hi) := by
  have e1 : (m : Int) = ((m / 2 : Nat) : Int) + ((m - m / 2 : Nat) : Int) := by omega
  have p0 : (0 : Int) ≤ ((m / 2 : Nat) : Int) := by omega
  have q0 : (0 : Int) ≤ ((m - m / 2 : Nat) : Int) := by omega
  unfold loB hiB
  generalize ((m / 2 : Nat) : Int) = p at *
  generalize ((m - m / 2 : Nat) : Int) = q at *
  rw [e1, Int.add_mul] at h0 h1
  have h2 := Int.mul_le_mul_of_nonneg_left h p0
  have h3 := Int.mul_le_mul_of_nonneg_left h q0
  rw [Int.mul_sub]
  generalize p * lo = a at *
  generalize p * hi = b at *
  generalize q * lo = c at *
  generalize q * hi = d at *
  exact ⟨by omega, by omega, fun D g0 g1 => by omega⟩
theorem seedOf_le (x : Int) : (seedOf x).size ≤ 32 := by
  unfold seedOf
  split
  · decide
  · split <;> decide
theorem made_halved {x : Int} (h0 : 0 ≤ x) (h1 : x < 3) {P : Option Addr} {q d : Nat} {p : List Int} (hq : q ≤ 3) (hl : p.length ≤ 3) (hp : ∀ y ∈ p, 0 ≤ y ∧ y < 100) (T N lo hi : Int) (b0 : -10000 ≤ lo) (b1 : lo ≤ hi) (b2 : hi ≤ 10000) (b3 : hi - lo ≤ 1000) :
    Halved (seedOf x) P q d p T N lo hi (leftV (seedOf x) p lo hi) (MadeI lo hi) := by
  have hs : (seedOf x).size ≤ 32 := by
    unfold seedOf
    split
    · decide
    · split <;> decide
  have key : ∀ a m t, MadeI lo hi a m t → 2 ≤ m → loB lo hi t m ≤ leftV (seedOf x) p lo hi a m t ∧ leftV (seedOf x) p lo hi a m t ≤ hiB lo hi t m := fun a m t hI h2 => by
    unfold leftV
    exact drawV_in _ _ (half_bounds b1 hI.2.2.1 hI.2.2.2).1
  have kid : ∀ a m t, MadeI lo hi a m t → 2 ≤ m → (m / 2 < 2 ∨ (a, m / 2) ∈ nodes) ∧ (m - m / 2 < 2 ∨ (a + m / 2, m - m / 2) ∈ nodes) := fun a m t hI h2 =>
    of_decide_eq_true (List.all_eq_true.1 nodes_down (a, m) (hI.2.1 h2))
  refine ⟨fun a m t h => by have := h.1; omega, ?_, ?_, ?_⟩
  · intro a m t hI h2 W hW
    obtain ⟨c1, c2, c3⟩ := half_bounds b1 hI.2.2.1 hI.2.2.2
    have hm : ((m / 2 : Nat) : Int) * (hi - lo) ≤ 12 * 1000 := by
      have e1 : ((m / 2 : Nat) : Int) * (hi - lo) ≤ ((m / 2 : Nat) : Int) * 1000 := Int.mul_le_mul_of_nonneg_left b3 (by omega)
      have := hI.1
      omega
    have hw := word_ok h0 h1 hl hp (hI.2.1 h2)
    have t0 : (m : Int) * (-10000) ≤ (m : Int) * lo := Int.mul_le_mul_of_nonneg_left b0 (by omega)
    have t1 : (m : Int) * hi ≤ (m : Int) * 10000 := Int.mul_le_mul_of_nonneg_left b2 (by omega)
    have hm12 := hI.1
    have ht0 := hI.2.2.1
    have ht1 := hI.2.2.2
    exact halves_w hW hs (by omega) T N lo hi a m t (by omega) (by omega) (by omega) b1 (by omega) (by omega) (by omega) c1 (by omega) (acc_of hw (by omega) (by omega))
  · intro a m t hI h2
    obtain ⟨k1, k2⟩ := key a m t hI h2
    obtain ⟨-, -, c3⟩ := half_bounds b1 hI.2.2.1 hI.2.2.2
    obtain ⟨d1, d2, -, -⟩ := c3 _ k1 k2
    have := hI.1
    exact ⟨by omega, fun h => by
      rcases (kid a m t hI h2).1 with k | k
      · omega
      · exact k, d1, d2⟩
  · intro a m t hI h2
    obtain ⟨k1, k2⟩ := key a m t hI h2
    obtain ⟨-, -, c3⟩ := half_bounds b1 hI.2.2.1 hI.2.2.2
    obtain ⟨-, -, d3, d4⟩ := c3 _ k1 k2
    have := hI.1
    exact ⟨by omega, fun h => by
      rcases (kid a m t hI h2).2 with k | k
      · omega
      · exact k, d3, d4⟩
theorem madeI_bound {lo hi : Int} (b0 : -10000 ≤ lo) (b2 : hi ≤ 10000) {a m : Nat} {t : Int} (h : MadeI lo hi a m t) : -68719476736 ≤ t ∧ t ≤ 68719476736 := by
  obtain ⟨h1, -, h2, h3⟩ := h
  have t0 : (m : Int) * (-10000) ≤ (m : Int) * lo := Int.mul_le_mul_of_nonneg_left b0 (by omega)
  have t1 : (m : Int) * hi ≤ (m : Int) * 10000 := Int.mul_le_mul_of_nonneg_left b2 (by omega)
  omega
end Go.Proofs.YtkchalnohkfhbaaDoor
