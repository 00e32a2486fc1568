/- Small functions of the laws: SameInts, Take, few. Conditions: the lists are short. -/
import Derived.Test.YtiajlglnefiemaaDoorPf
import Derived.Deep.QuietTactic
set_option linter.unusedSimpArgs false
set_option linter.unusedVariables false
namespace Go.Proofs.YtiajlglnefiemaaDoor
open Go.RowKit

theorem take_all_eq {l r : List Int} (h : l.length = r.length) (e : ∀ j, j < l.length → l[j]?.getD 0 = r[j]?.getD 0) : l = r := by
  apply List.ext_getElem h
  intro i h1 h2
  have := e i h1
  simpa [List.getElem?_eq_getElem h1, List.getElem?_eq_getElem h2] using this
set_option maxRecDepth 100000 in
set_option maxHeartbeats 2000000 in
theorem sameInts_any (A B : Option Addr) (n m c d : Nat) (l r : List Int) (b : Nat) (w : World) (hl : Reads w b 1 A n (ints l)) (hr : Reads w b 1 B m (ints r)) (hn : n ≤ 1000000) (hm : m ≤ 1000000) :
    Calls Tryd.prog 18 #[.slice A n c, .slice B m d] w fun e w' => e = .returned (.bool (decide (l = r))) ∧ ∃ q, w' = w.drewN q := by
  have el := hl.int_len
  have er := hr.int_len
  by_cases hnm : n = m
  · subst hnm
    have ht : l.length = r.length := by omega
    have HT := Lib.hid ht
    have HL := Lib.hid el
    clear el er ht
    have hne : ((n : Int) != (n : Int)) = false := by simp
    go_enter Tryd.func18, Tryd.ntmps18
    go_wp2
    go_loopw [5] (fun i wr => ∃ k : Nat, k ≤ n ∧ i = .int .i64 k ∧ (∀ j, j < k → l[j]?.getD 0 = r[j]?.getD 0) ∧ ∃ q, wr = w.drewN q) (fun i _ => n - (intOf i).toNat)
    case atStart => exact ⟨0, by omega, rfl, fun j hj => by omega, 0, rfl⟩
    case round =>
      obtain ⟨k, hk, rfl, heq, q, rfl⟩ := hrel
      have HE := Lib.hid heq
      clear heq
      by_cases hlt : k < n
      · obtain ⟨a1, rfl, -, -, c1⟩ := hl.int_at hlt
        obtain ⟨a2, rfl, -, -, c2⟩ := hr.int_at hlt
        have hki : (k : Int) < (n : Int) := by omega
        cases hq : (l[k]?.getD 0 == r[k]?.getD 0)
        · have hq' : (l[k]?.getD 0 != r[k]?.getD 0) = true := by simpa using hq
          go_wp2
          go_quiet (fail)
          go_wp2
          go_ret
          refine ⟨ret_bool ?_, _, World.drewN_drewN _ _ _⟩
          symm
          rw [decide_eq_false_iff_not]
          rintro rfl
          simp at hq
        · have hq' : (l[k]?.getD 0 != r[k]?.getD 0) = false := by simpa using hq
          go_wp2
          go_quiet (fail)
          go_wp2
          go_roundw
          case rel =>
            refine ⟨k + 1, by omega, by go_num, fun j hj => ?_, _, rfl⟩
            by_cases hjk : j < k
            · exact HE.out j hjk
            · obtain rfl : j = k := by omega
              simpa using hq
          case measure => simp [intOf]; omega
      · obtain rfl : k = n := by omega
        go_wp2
        go_ret
        exact ⟨ret_bool (by symm; simpa using take_all_eq HT.out (fun j hj => HE.out j (by have := HL.out; omega))), q, rfl⟩
  · have hne : ((n : Int) != (m : Int)) = true := by simp; omega
    have hno : decide (l = r) = false := by
      rw [decide_eq_false_iff_not]; rintro rfl; omega
    rw [hno]
    clear el er hno
    go_enter Tryd.func18, Tryd.ntmps18
    go_wp2
    go_ret
    exact ⟨rfl, 0, rfl⟩
set_option maxRecDepth 100000 in
set_option maxHeartbeats 2000000 in
theorem take_any (A : Option Addr) (n c m : Nat) (l : List Int) (w : World) (hl : Reads w w.heap.size 1 A n (ints l)) (hnc : n ≤ c) (hn : n ≤ maxLen) (hm : m ≤ 1000) :
    Calls Tryd.prog 28 #[.slice A n c, .int .i64 (m : Int)] w fun e W' => ∃ v, e = .returned v ∧ W'.ownsRow w.heap.size 3 1 v (l.take m).length (ints (l.take m)) ∧ Below w.heap.size w W' := by
  obtain ⟨i0, hi, hz0, hz1, hz2⟩ := info_parts info_i64
  have el := hl.int_len
  subst el
  have hN : (l.length : Int) ≤ 9223372036854775807 := by unfold maxLen at hn; omega
  by_cases hlt : m < l.length
  · have h1 : (m : Int) < (l.length : Int) := by omega
    have hr := hl.take (k := m) (by omega)
    rw [Nat.mul_one, show (ints l).take m = ints (l.take m) by simp [ints, List.map_take]] at hr
    have hlen : (l.take m).length = m := by rw [List.length_take]; omega
    rw [hlen]
    generalize l.take m = t at *
    go_enter Tryd.func28, Tryd.ntmps28
    go_wp2_with (at_builtin; refine wpList_append_reads _ rfl _ _ 22 rfl w.heap.size 3 i0 (.int .i64 0) 1 8 Tryd.underlying22 hi hz0 hz1 hz2 rfl (by decide) _ _ _ rfl (World.ownsRow_nil _ _ _ _) _ A m _ (ints t) rfl hr (ints_one _) (by unfold maxLen; omega) (by omega) (Nat.le_refl _) ?_; intro v1 w1 o1 g1)
    go_ret
    have o2 : w1.ownsRow w.heap.size 3 1 v1 m (ints t) := by simpa using o1
    exact ⟨_, rfl, o2, (Below.refl _ w).grown g1 (Nat.le_refl _) (fun k e => by cases e)⟩
  · have h1 : (l.length : Int) ≤ (m : Int) := by omega
    have ht : l.take m = l := List.take_of_length_le (by omega)
    rw [ht]
    have hlm : l.length ≤ 1000 := by omega
    clear ht
    go_enter Tryd.func28, Tryd.ntmps28
    go_wp2_with (at_builtin; refine wpList_append_reads _ rfl _ _ 22 rfl w.heap.size 3 i0 (.int .i64 0) 1 8 Tryd.underlying22 hi hz0 hz1 hz2 rfl (by decide) _ _ _ rfl (World.ownsRow_nil _ _ _ _) _ A l.length _ (ints l) rfl hl (ints_one _) (by unfold maxLen; omega) (by omega) (Nat.le_refl _) ?_; intro v1 w1 o1 g1)
    go_ret
    have o2 : w1.ownsRow w.heap.size 3 1 v1 l.length (ints l) := by simpa using o1
    exact ⟨_, rfl, o2, (Below.refl _ w).grown g1 (Nat.le_refl _) (fun k e => by cases e)⟩
set_option maxRecDepth 100000 in
set_option maxHeartbeats 2000000 in
theorem few10_any (A : Option Addr) (n c : Nat) (l : List Int) (w : World) (hl : Reads w w.heap.size 1 A n (ints l)) (hnc : n ≤ c) (hn : n ≤ maxLen) :
    Calls Tryd.prog 14 #[.slice A n c] w fun e W' => ∃ v, e = .returned v ∧ W'.ownsRow w.heap.size 3 1 v (l.take 10).length (ints (l.take 10)) ∧ Below w.heap.size w W' := by
  go_enter Tryd.func14, Tryd.ntmps14
  go_wp2_with fail
  refine (take_any A n c 10 l w hl hnc hn (by omega)).mono ?_
  rintro E w1 ⟨v, rfl, o, b⟩
  go_wp2_with fail
  go_ret
  exact ⟨_, rfl, o, b⟩
end Go.Proofs.YtiajlglnefiemaaDoor
