/- The nodes of great splits: halves as the draws say, one of the first two words taken. Conditions: the ranges that the theorems state. -/
import Derived.Test.YtkchalnohkfhbaaDoorZl
import Derived.Test.YtkchalnohkfhbaaDoorVn
set_option linter.unusedSimpArgs false
set_option linter.unusedVariables false
namespace Go.Proofs.YtkchalnohkfhbaaDoor
open Go.RowKit Go.Shelf Go

/-- a node of a great split, with a total within its bounds -/
def GreatI (N : Nat) (lo hi : Int) (a m : Nat) (t : Int) : Prop := GI N a m ∧ (m : Int) * lo ≤ t ∧ t ≤ (m : Int) * hi
theorem great_bound {N : Nat} (hN : N ≤ 65536) {lo hi : Int} (b0 : 0 ≤ lo) (b1 : lo ≤ hi) (b2 : hi ≤ 1048575) {a m : Nat} {t : Int} (h : GreatI N lo hi a m t) : a ≤ 65536 ∧ m ≤ 65536 ∧ 0 ≤ t ∧ t ≤ 68719476736 := by
  obtain ⟨⟨h1, -⟩, h2, h3⟩ := h
  have t0 : (m : Int) * 0 ≤ (m : Int) * lo := Int.mul_le_mul_of_nonneg_left b0 (by omega)
  have t1 : (m : Int) * hi ≤ (m : Int) * 1048575 := Int.mul_le_mul_of_nonneg_left b2 (by omega)
  omega
theorem great_halved {N : Nat} (hN : N ≤ 65536) {P : Option Addr} {d : Nat} (T lo hi : Int) (b0 : 0 ≤ lo) (b1 : lo ≤ hi) (b2 : hi ≤ 1048575) :
    Halved sG P 0 d [] T (N : Int) lo hi (leftV sG [] lo hi) (GreatI N lo hi) := by
  have key : ∀ a m t, GreatI N lo hi a m t → 2 ≤ m → loB lo hi t m ≤ leftV sG [] lo hi a m t ∧ leftV sG [] lo hi a m t ≤ hiB lo hi t m := fun a m t hI h2 => by
    unfold leftV
    exact drawV_in _ _ (half_bounds b1 hI.2.1 hI.2.2).1
  refine ⟨fun a m t h => (great_bound hN b0 b1 b2 h).2.1, ?_, ?_, ?_⟩
  · intro a m t hI h2 W hW
    obtain ⟨c1, c2, c3⟩ := half_bounds b1 hI.2.1 hI.2.2
    obtain ⟨g1, g2, g3, g4⟩ := great_bound hN b0 b1 b2 hI
    have hm : ((m / 2 : Nat) : Int) * (hi - lo) ≤ ((m / 2 : Nat) : Int) * 1048575 := Int.mul_le_mul_of_nonneg_left (by omega) (by omega)
    have hM : (hiB lo hi t m - loB lo hi t m + 1).toNat ≤ m / 2 * 1048575 + 1 := by omega
    have hA : Acc sG ([] ++ [(a : Int), (m : Int)]) (hiB lo hi t m - loB lo hi t m + 1).toNat := great_try hN hI.1 h2 (by omega) hM
    exact halves_acc hW (by decide) (by omega) T N lo hi a m t g1 g2 (by omega) b1 (by omega) (by omega) (by omega) c1 (by omega) hA
  · intro a m t hI h2
    obtain ⟨k1, k2⟩ := key a m t hI h2
    obtain ⟨-, -, c3⟩ := half_bounds b1 hI.2.1 hI.2.2
    obtain ⟨d1, d2, -, -⟩ := c3 _ k1 k2
    exact ⟨(gi_half hI.1 h2).1, d1, d2⟩
  · intro a m t hI h2
    obtain ⟨k1, k2⟩ := key a m t hI h2
    obtain ⟨-, -, c3⟩ := half_bounds b1 hI.2.1 hI.2.2
    obtain ⟨-, -, d3, d4⟩ := c3 _ k1 k2
    exact ⟨(gi_half hI.1 h2).2, d3, d4⟩
end Go.Proofs.YtkchalnohkfhbaaDoor
