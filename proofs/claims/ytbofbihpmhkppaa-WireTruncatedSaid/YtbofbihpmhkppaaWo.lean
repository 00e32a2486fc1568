/- The comparisons SameInts and SameTexts return whether both lists are equal. Conditions: lists of at most a million elements. -/
import Derived.Test.YtbofbihpmhkppaaWn
namespace Go.Proofs.Ytbofbihpmhkppaa
open Go.RowKit

theorem take_all_eq {l r : List Int} (h : l.length = r.length) (e : ∀ j, j < l.length → l[j]?.getD 0 = r[j]?.getD 0) : l = r := by
  apply List.ext_getElem h
  intro i h1 h2
  have := e i h1
  simpa [List.getElem?_eq_getElem h1, List.getElem?_eq_getElem h2] using this


theorem take_all_eqS {l r : List ByteArray} (h : l.length = r.length) (hj : ∀ j, j < l.length → l[j]?.getD ByteArray.empty = r[j]?.getD ByteArray.empty) : l = r := by
  apply List.ext_getElem h
  intro j h1 h2
  have := hj j h1
  rw [List.getElem?_eq_getElem h1, List.getElem?_eq_getElem h2, Option.getD_some, Option.getD_some] at this
  exact this
theorem toList_inj {a b : ByteArray} (h : a.toList = b.toList) : a = b := by
  rw [ByteArray.toList_eq, ByteArray.toList_eq] at h
  exact ByteArray.ext (Array.toList_inj.1 h)

set_option maxHeartbeats 1000000 in
theorem sameInts_any (A B : Option Addr) (n m c d : Nat) (l r : List Int) (b : Nat) (w : World) (hl : Reads w b 1 A n (ints l)) (hr : Reads w b 1 B m (ints r)) (hn : n ≤ 1000000) (hm : m ≤ 1000000) :
    Calls Try.prog 17 #[.slice A n c, .slice B m d] w fun e w' => e = .returned (.bool (decide (l = r))) ∧ Drawn w w' := by
  have el := hl.int_len
  have er := hr.int_len
  by_cases hnm : n = m
  · subst hnm
    have ht : l.length = r.length := by omega
    have HT := Lib.hid ht
    have HL := Lib.hid el
    clear el er ht
    have hne : ((n : Int) != (n : Int)) = false := by simp
    go_enter Try.func17, Try.ntmps17
    go_wp2
    go_loopw [5] (fun i wr => ∃ k : Nat, k ≤ n ∧ i = .int .i64 k ∧ (∀ j, j < k → l[j]?.getD 0 = r[j]?.getD 0) ∧ Drawn w wr) (fun i _ => n - (intOf i).toNat)
    case atStart => exact ⟨0, by omega, rfl, fun j hj => by omega, 0, rfl⟩
    case round =>
      obtain ⟨k, hk, rfl, heq, q, rfl⟩ := hrel
      have HE := Lib.hid heq
      clear heq
      by_cases hlt : k < n
      · obtain ⟨a1, rfl, -, -, c1⟩ := hl.int_at hlt
        obtain ⟨a2, rfl, -, -, c2⟩ := hr.int_at hlt
        have hki : (k : Int) < (n : Int) := by omega
        cases hq : (l[k]?.getD 0 == r[k]?.getD 0)
        · have hq' : (l[k]?.getD 0 != r[k]?.getD 0) = true := by simpa using hq
          go_wp2
          go_quiet (fail)
          go_wp2
          go_ret
          refine ⟨ret_bool ?_, _, World.drewN_drewN _ _ _⟩
          symm
          rw [decide_eq_false_iff_not]
          rintro rfl
          simp at hq
        · have hq' : (l[k]?.getD 0 != r[k]?.getD 0) = false := by simpa using hq
          go_wp2
          go_quiet (fail)
          go_wp2
          go_roundw
          case rel =>
            refine ⟨k + 1, by omega, by go_num, fun j hj => ?_, _, rfl⟩
            by_cases hjk : j < k
            · exact HE.out j hjk
            · obtain rfl : j = k := by omega
              simpa using hq
          case measure => simp [intOf]; omega
      · obtain rfl : k = n := by omega
        go_wp2
        go_ret
        exact ⟨ret_bool (by symm; simpa using take_all_eq HT.out (fun j hj => HE.out j (by have := HL.out; omega))), q, rfl⟩
  · have hne : ((n : Int) != (m : Int)) = true := by simp; omega
    have hno : decide (l = r) = false := by
      rw [decide_eq_false_iff_not]; rintro rfl; omega
    rw [hno]
    clear el er hno
    go_enter Try.func17, Try.ntmps17
    go_wp2
    go_ret
    exact ⟨rfl, 0, rfl⟩


set_option maxHeartbeats 1000000 in
theorem sameTexts_any (A B : Option Addr) (n m c d : Nat) (l r : List ByteArray) (b : Nat) (w : World) (hl : Reads w b 1 A n (strs l)) (hr : Reads w b 1 B m (strs r)) (hn : n ≤ 1000000) (hm : m ≤ 1000000) :
    Calls Try.prog 45 #[.slice A n c, .slice B m d] w fun e w' => e = .returned (.bool (decide (l = r))) ∧ Drawn w w' := by
  have el := hl.str_len
  have er := hr.str_len
  by_cases hnm : n = m
  · subst hnm
    have ht : l.length = r.length := by omega
    have HT := Lib.hid ht
    have HL := Lib.hid el
    clear el er ht
    have hne : ((n : Int) != (n : Int)) = false := by simp
    go_enter Try.func45, Try.ntmps45
    go_wp2
    go_loopw [5] (fun i wr => ∃ k : Nat, k ≤ n ∧ i = .int .i64 k ∧ (∀ j, j < k → l[j]?.getD ByteArray.empty = r[j]?.getD ByteArray.empty) ∧ Drawn w wr) (fun i _ => n - (intOf i).toNat)
    case atStart => exact ⟨0, by omega, rfl, fun j hj => by omega, 0, rfl⟩
    case round =>
      obtain ⟨k, hk, rfl, heq, q, rfl⟩ := hrel
      have HE := Lib.hid heq
      clear heq
      by_cases hlt : k < n
      · obtain ⟨a1, rfl, -, -, c1⟩ := hl.str_at hlt
        obtain ⟨a2, rfl, -, -, c2⟩ := hr.str_at hlt
        have hki : (k : Int) < (n : Int) := by omega
        cases hq : ((l[k]?.getD ByteArray.empty).toList == (r[k]?.getD ByteArray.empty).toList)
        · have hq' : (!(l[k]?.getD ByteArray.empty).toList == (r[k]?.getD ByteArray.empty).toList) = true := by rw [hq]; rfl
          go_wp2
          go_quiet (fail)
          go_wp2
          go_ret
          refine ⟨ret_bool ?_, _, World.drewN_drewN _ _ _⟩
          symm
          rw [decide_eq_false_iff_not]
          rintro rfl
          simp at hq
        · have hq' : (!(l[k]?.getD ByteArray.empty).toList == (r[k]?.getD ByteArray.empty).toList) = false := by rw [hq]; rfl
          go_wp2
          go_quiet (fail)
          go_wp2
          go_roundw
          case rel =>
            refine ⟨k + 1, by omega, by go_num, fun j hj => ?_, _, rfl⟩
            by_cases hjk : j < k
            · exact HE.out j hjk
            · obtain rfl : j = k := by omega
              exact toList_inj (by simpa using hq)
          case measure => simp [intOf]; omega
      · obtain rfl : k = n := by omega
        go_wp2
        go_ret
        exact ⟨ret_bool (by symm; simpa using take_all_eqS HT.out (fun j hj => HE.out j (by have := HL.out; omega))), q, rfl⟩
  · have hne : ((n : Int) != (m : Int)) = true := by simp; omega
    have hno : decide (l = r) = false := by
      rw [decide_eq_false_iff_not]; rintro rfl; omega
    rw [hno]
    clear el er hno
    go_enter Try.func45, Try.ntmps45
    go_wp2
    go_ret
    exact ⟨rfl, 0, rfl⟩


end Go.Proofs.Ytbofbihpmhkppaa
