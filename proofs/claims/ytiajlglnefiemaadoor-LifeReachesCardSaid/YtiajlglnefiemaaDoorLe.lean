/- Life cycles: SameBools. Conditions: the lists are short. -/
import Derived.Test.YtiajlglnefiemaaDoorQe
set_option linter.unusedSimpArgs false
set_option linter.unusedVariables false
namespace Go.Proofs.YtiajlglnefiemaaDoor
open Go.RowKit

/-- a list of booleans as cells -/
def bools (l : List Bool) : List Value := l.map Value.bool
theorem bools_length (l : List Bool) : (bools l).length = l.length := by simp [bools]
theorem Reads.bool_len {w : World} {b n : Nat} {A : Option Addr} {l : List Bool} (h : Reads w b 1 A n (bools l)) : l.length = n := by
  have := h.1
  rw [bools_length] at this
  omega
theorem Reads.bool_at {w : World} {b n k : Nat} {A : Option Addr} {l : List Bool} (h : Reads w b 1 A n (bools l)) (hk : k < n) :
    ∃ ad, A = some ad ∧ ad.block < b ∧ w.cell? (ad.add k) = some (.bool (l[k]?.getD false)) := by
  obtain ⟨ad, u, e, hb, hu, hc⟩ := h.at_ hk
  have hl := h.bool_len
  refine ⟨ad, e, hb, ?_⟩
  rw [hc]
  unfold bools at hu
  rw [List.getElem?_map, List.getElem?_eq_getElem (by omega)] at hu
  injection hu with hu
  rw [← hu, List.getElem?_eq_getElem (by omega)]
  rfl
theorem same_bools {l r : List Bool} (h : l.length = r.length) (e : ∀ j, j < l.length → l[j]?.getD false = r[j]?.getD false) : l = r := by
  apply List.ext_getElem h
  intro i h1 h2
  have := e i h1
  simpa [List.getElem?_eq_getElem h1, List.getElem?_eq_getElem h2] using this
set_option maxRecDepth 100000 in
set_option maxHeartbeats 2000000 in
theorem sameBools_any (A B : Option Addr) (n m c d : Nat) (l r : List Bool) (b : Nat) (w : World) (hl : Reads w b 1 A n (bools l)) (hr : Reads w b 1 B m (bools r)) (hn : n ≤ 1000000) (hm : m ≤ 1000000) :
    Calls Tryd.prog 35 #[.slice A n c, .slice B m d] w fun e w' => e = .returned (.bool (decide (l = r))) ∧ ∃ q, w' = w.drewN q := by
  have el := hl.bool_len
  have er := hr.bool_len
  by_cases hnm : n = m
  · subst hnm
    have ht : l.length = r.length := by omega
    have HT := Lib.hid ht
    have HL := Lib.hid el
    clear el er ht
    have hne : ((n : Int) != (n : Int)) = false := by simp
    go_enter Tryd.func35, Tryd.ntmps35
    go_wp2
    go_loopw [5] (fun i wr => ∃ k : Nat, k ≤ n ∧ i = .int .i64 k ∧ (∀ j, j < k → l[j]?.getD false = r[j]?.getD false) ∧ ∃ q, wr = w.drewN q) (fun i _ => n - (intOf i).toNat)
    case atStart => exact ⟨0, by omega, rfl, fun j hj => by omega, 0, rfl⟩
    case round =>
      obtain ⟨k, hk, rfl, heq, q, rfl⟩ := hrel
      have HE := Lib.hid heq
      clear heq
      by_cases hlt : k < n
      · obtain ⟨a1, rfl, -, c1⟩ := hl.bool_at hlt
        obtain ⟨a2, rfl, -, c2⟩ := hr.bool_at hlt
        have hki : (k : Int) < (n : Int) := by omega
        cases hq : (l[k]?.getD false == r[k]?.getD false)
        · have hq' : (l[k]?.getD false != r[k]?.getD false) = true := by simpa using hq
          go_wp2
          go_quiet (fail)
          go_wp2
          go_ret
          refine ⟨ret_bool ?_, _, World.drewN_drewN _ _ _⟩
          symm
          rw [decide_eq_false_iff_not]
          rintro rfl
          simp at hq
        · have hq' : (l[k]?.getD false != r[k]?.getD false) = false := by simpa using hq
          go_wp2
          go_quiet (fail)
          go_wp2
          go_roundw
          case rel =>
            refine ⟨k + 1, by omega, by go_num, fun j hj => ?_, _, rfl⟩
            by_cases hjk : j < k
            · exact HE.out j hjk
            · obtain rfl : j = k := by omega
              simpa using hq
          case measure => simp [intOf]; omega
      · obtain rfl : k = n := by omega
        go_wp2
        go_ret
        refine ⟨ret_bool ?_, q, rfl⟩
        symm
        rw [decide_eq_true_iff]
        exact same_bools HT.out fun j hj => HE.out j (by have := HL.out; omega)
  · have hne : ((n : Int) != (m : Int)) = true := by simp; omega
    go_enter Tryd.func35, Tryd.ntmps35
    go_wp2
    go_ret
    refine ⟨ret_bool ?_, 0, rfl⟩
    symm
    rw [decide_eq_false_iff_not]
    rintro rfl
    omega
end Go.Proofs.YtiajlglnefiemaaDoor
