/- What both Alls return, in one form; the tables of both. Conditions as in the texts before. -/
import Derived.Test.YtiajlglnefiemaaDoorQd
import Derived.Test.YtiajlglnefiemaaDoorQe
set_option linter.unusedSimpArgs false
set_option linter.unusedVariables false
namespace Go.Proofs.YtiajlglnefiemaaDoor
open Go.RowKit

/-- the error of All -/
def allE (s : ByteArray) (n : Nat) (N : Int) : Int := if givenE s n N = 4 then 4 else if N < 0 then 1 else 0
/-- the list of All -/
noncomputable def allL (s : ByteArray) (n : Nat) (l : List Int) (N : Int) : List Nat := if allE s n N = 0 then allV s l N.toNat else []
theorem allL_le (s : ByteArray) (n : Nat) (l : List Int) (N : Int) : (allL s n l N).length ≤ 65536 := by
  unfold allL
  split
  · rename_i h
    rw [allV_length]
    unfold allE at h
    rcases givenE_cases s n N with h4 | ⟨h0, hN, -, -⟩
    · rw [if_pos h4] at h; omega
    · omega
  · simp
set_option maxRecDepth 100000 in
theorem pAll_any {s : ByteArray} {A : Option Addr} {n c : Nat} {l : List Int} {w : World} (h : Net s A n l w) (N : Int) :
    Calls Tryd.prog 16 #[.string s, .slice A n c, .int .i64 N] w fun E W' => ∃ A' c', E = .returned (.tuple #[.slice A' (allL s n l N).length c', .int .i64 (allE s n N)]) ∧ Reads W' W'.heap.size 1 A' (allL s n l N).length (intsN (allL s n l N)) ∧ Below w.heap.size w W' := by
  have hc := givenE_cases s n N
  by_cases hno : givenE s n N = 4 ∨ givenE s n N = 0 ∧ N < 0
  · have e1 : allE s n N = (if givenE s n N = 4 then 4 else 1) := by
      unfold allE
      rcases hno with h4 | ⟨h0, hn⟩
      · rw [if_pos h4, if_pos h4]
      · have h4 : ¬ givenE s n N = 4 := by omega
        simp only [if_neg h4, if_pos hn]
    have e2 : allL s n l N = [] := by unfold allL; rw [if_neg (by rw [e1]; split <;> omega)]
    rw [e1, e2]
    exact (all_no h N hno).mono fun E W' ⟨h1, h2⟩ => ⟨none, 0, h1, Reads.nil_ _ _ _ _, h2⟩
  · have h0 : givenE s n N = 0 := by omega
    have hN : 0 ≤ N := by omega
    obtain ⟨M, rfl⟩ := Int.eq_ofNat_of_zero_le hN
    have e1 : allE s n (M : Int) = 0 := by unfold allE; rw [if_neg (by omega), if_neg (by omega)]
    have e2 : allL s n l (M : Int) = allV s l M := by unfold allL; rw [if_pos e1, Int.toNat_natCast]
    rw [e1, e2]
    refine (all_yes h M h0).mono fun E W' ⟨v, h1, h2, h3⟩ => ?_
    obtain ⟨A', c', rfl, -, hr⟩ := own_places h2
    rw [allV_length]
    exact ⟨A', c', h1, hr, h3⟩
set_option maxRecDepth 100000 in
theorem rAll_any {s : ByteArray} {A : Option Addr} {n c : Nat} {l : List Int} {w : World} (h : RNet s A n l w) (N : Int) :
    Calls Tryd.prog 17 #[.string s, .slice A n c, .int .i64 N] w fun E W' => ∃ A' c', E = .returned (.tuple #[.slice A' (allL s n l N).length c', .int .i64 (allE s n N)]) ∧ Reads W' W'.heap.size 1 A' (allL s n l N).length (intsN (allL s n l N)) ∧ Below w.heap.size w W' := by
  have hc := givenE_cases s n N
  by_cases hno : givenE s n N = 4 ∨ givenE s n N = 0 ∧ N < 0
  · have e1 : allE s n N = (if givenE s n N = 4 then 4 else 1) := by
      unfold allE
      rcases hno with h4 | ⟨h0, hn⟩
      · rw [if_pos h4, if_pos h4]
      · have h4 : ¬ givenE s n N = 4 := by omega
        simp only [if_neg h4, if_pos hn]
    have e2 : allL s n l N = [] := by unfold allL; rw [if_neg (by rw [e1]; split <;> omega)]
    rw [e1, e2]
    exact (rAll_no h N hno).mono fun E W' ⟨h1, h2⟩ => ⟨none, 0, h1, Reads.nil_ _ _ _ _, h2⟩
  · have h0 : givenE s n N = 0 := by omega
    have hN : 0 ≤ N := by omega
    obtain ⟨M, rfl⟩ := Int.eq_ofNat_of_zero_le hN
    have e1 : allE s n (M : Int) = 0 := by unfold allE; rw [if_neg (by omega), if_neg (by omega)]
    have e2 : allL s n l (M : Int) = allV s l M := by unfold allL; rw [if_pos e1, Int.toNat_natCast]
    rw [e1, e2]
    refine (rAll_yes h M h0).mono fun E W' ⟨v, h1, h2, h3⟩ => ?_
    obtain ⟨A', c', rfl, -, hr⟩ := own_places h2
    rw [allV_length]
    exact ⟨A', c', h1, hr, h3⟩
end Go.Proofs.YtiajlglnefiemaaDoor
