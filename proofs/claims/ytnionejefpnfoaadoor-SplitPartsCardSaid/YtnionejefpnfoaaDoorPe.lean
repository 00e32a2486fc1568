/- Around, At, SameInts of the reference. Conditions: the ranges that each theorem states. -/
import Derived.Test.YtnionejefpnfoaaDoorPa
import Derived.BigQuiet
import Derived.Deep.QuietTactic
set_option linter.unusedSimpArgs false
set_option linter.unusedVariables false
namespace Go.Proofs.YtnionejefpnfoaaDoor
open Go.RowKit

/-- What Around gives. -/
def around (n m : Int) : Int := if m < 1 then 0 else (if n < 0 then -(n + 1) else n) % m
theorem around_lt (n m : Int) (h : 1 ≤ m) : 0 ≤ around n m ∧ around n m < m := by
  unfold around; rw [if_neg (by omega)]
  exact ⟨Int.emod_nonneg _ (by omega), Int.emod_lt_of_pos _ (by omega)⟩
theorem around_zero (n m : Int) (h : m < 1) : around n m = 0 := by unfold around; rw [if_pos h]
theorem around_neg (n m : Int) (h1 : n < 0) (h2 : ¬ m < 1) : -(n + 1).tmod m = around n m := by
  unfold around; rw [if_neg h2, if_pos h1, ← Int.neg_tmod, Int.tmod_eq_emod_of_nonneg (by omega)]
theorem around_pos (n m : Int) (h1 : ¬ n < 0) (h2 : ¬ m < 1) : n % m = around n m := by
  unfold around; rw [if_neg h2, if_neg h1]
theorem around_any (n m : Int) (w : World) (hn1 : -9223372036854775808 ≤ n) (hn2 : n ≤ 9223372036854775807) (hm1 : -9223372036854775808 ≤ m) (hm2 : m ≤ 9223372036854775807) :
    Calls Tryd.prog 12 #[.int .i64 n, .int .i64 m] w fun e w' => e = .returned (.int .i64 (around n m)) ∧ w' = w := by
  by_cases h1 : n < 0 <;> by_cases h2 : m < 1
  all_goals
    go_enter Tryd.func12, Tryd.ntmps12
    go_wp2
    go_ret
  · exact ⟨ret_i64 (around_zero _ _ h2).symm, rfl⟩
  · exact ⟨ret_i64 (around_neg _ _ h1 (by omega)), rfl⟩
  · exact ⟨ret_i64 (around_zero _ _ h2).symm, rfl⟩
  · exact ⟨ret_i64 (around_pos _ _ (by omega) (by omega)), rfl⟩

/-- What At gives. -/
def rAt (l : List Int) (i : Nat) (m : Int) : Int := if l.length ≤ i then 0 else around (l[i]?.getD 0) m
theorem rAt_lt (l : List Int) (i : Nat) (m : Int) (h : 1 ≤ m) : 0 ≤ rAt l i m ∧ rAt l i m < m := by
  unfold rAt
  split
  · omega
  · exact around_lt _ _ h
set_option maxRecDepth 100000 in
set_option maxHeartbeats 2000000 in
theorem rAt_any (A : Option Addr) (n c B : Nat) (l : List Int) (i : Nat) (m : Int) (w : World) (hl : Reads w B 1 A n (ints l)) (hI : ∀ x ∈ l, I64 x) (hi : i ≤ 1000000) (hm : I64 m) :
    Calls Tryd.prog 20 #[.slice A n c, .int .i64 (i : Int), .int .i64 m] w fun e w' => e = .returned (.int .i64 (rAt l i m)) ∧ w' = w := by
  have el := hl.int_len
  by_cases h : i < n
  · obtain ⟨ad, rfl, -, hlt, hc⟩ := hl.int_at h
    have e1 : rAt l i m = around (l[i]?.getD 0) m := by unfold rAt; rw [if_neg (by omega)]
    have hx : I64 (l[i]?.getD 0) := by rw [List.getElem?_eq_getElem hlt]; exact hI _ (List.getElem_mem _)
    rw [e1]
    have ha := around_any (l[i]?.getD 0) m w hx.1 hx.2 hm.1 hm.2
    generalize l[i]?.getD 0 = x at *
    have hin : (i : Int) < (n : Int) := by omega
    clear e1 el
    go_enter Tryd.func20, Tryd.ntmps20
    go_wp2_with fail
    refine ha.mono ?_
    rintro E w1 ⟨rfl, rfl⟩
    go_wp2_with fail
    go_ret
    exact ⟨rfl, rfl⟩
  · have e1 : rAt l i m = 0 := by unfold rAt; rw [if_pos (by omega)]
    rw [e1]
    have hin : ¬ (i : Int) < (n : Int) := by omega
    have hin2 : (n : Int) ≤ (i : Int) := by omega
    clear e1 el
    go_enter Tryd.func20, Tryd.ntmps20
    go_wp2_with fail
    go_ret
    exact ⟨rfl, rfl⟩
theorem take_all_eq {l r : List Int} (h : l.length = r.length) (e : ∀ j, j < l.length → l[j]?.getD 0 = r[j]?.getD 0) : l = r := by
  apply List.ext_getElem h
  intro i h1 h2
  have := e i h1
  simpa [List.getElem?_eq_getElem h1, List.getElem?_eq_getElem h2] using this
set_option maxRecDepth 100000 in
set_option maxHeartbeats 2000000 in
theorem sameInts_any (A B : Option Addr) (n m c d : Nat) (l r : List Int) (b : Nat) (w : World) (hl : Reads w b 1 A n (ints l)) (hr : Reads w b 1 B m (ints r)) (hn : n ≤ 1000000) (hm : m ≤ 1000000) :
    Calls Tryd.prog 11 #[.slice A n c, .slice B m d] w fun e w' => e = .returned (.bool (decide (l = r))) ∧ ∃ q, w' = w.drewN q := by
  have el := hl.int_len
  have er := hr.int_len
  by_cases hnm : n = m
  · subst hnm
    have ht : l.length = r.length := by omega
    have HT := Lib.hid ht
    have HL := Lib.hid el
    clear el er ht
    have hne : ((n : Int) != (n : Int)) = false := by simp
    go_enter Tryd.func11, Tryd.ntmps11
    go_wp2
    go_loopw [5] (fun i wr => ∃ k : Nat, k ≤ n ∧ i = .int .i64 k ∧ (∀ j, j < k → l[j]?.getD 0 = r[j]?.getD 0) ∧ ∃ q, wr = w.drewN q) (fun i _ => n - (intOf i).toNat)
    case atStart => exact ⟨0, by omega, rfl, fun j hj => by omega, 0, rfl⟩
    case round =>
      obtain ⟨k, hk, rfl, heq, q, rfl⟩ := hrel
      have HE := Lib.hid heq
      clear heq
      by_cases hlt : k < n
      · obtain ⟨a1, rfl, -, -, c1⟩ := hl.int_at hlt
        obtain ⟨a2, rfl, -, -, c2⟩ := hr.int_at hlt
        have hki : (k : Int) < (n : Int) := by omega
        cases hq : (l[k]?.getD 0 == r[k]?.getD 0)
        · have hq' : (l[k]?.getD 0 != r[k]?.getD 0) = true := by simpa using hq
          go_wp2
          go_quiet (fail)
          go_wp2
          go_ret
          refine ⟨ret_bool ?_, _, World.drewN_drewN _ _ _⟩
          symm
          rw [decide_eq_false_iff_not]
          rintro rfl
          simp at hq
        · have hq' : (l[k]?.getD 0 != r[k]?.getD 0) = false := by simpa using hq
          go_wp2
          go_quiet (fail)
          go_wp2
          go_roundw
          case rel =>
            refine ⟨k + 1, by omega, by go_num, fun j hj => ?_, _, rfl⟩
            by_cases hjk : j < k
            · exact HE.out j hjk
            · obtain rfl : j = k := by omega
              simpa using hq
          case measure => simp [intOf]; omega
      · obtain rfl : k = n := by omega
        go_wp2
        go_ret
        exact ⟨ret_bool (by symm; simpa using take_all_eq HT.out (fun j hj => HE.out j (by have := HL.out; omega))), q, rfl⟩
  · have hne : ((n : Int) != (m : Int)) = true := by simp; omega
    have hno : decide (l = r) = false := by
      rw [decide_eq_false_iff_not]; rintro rfl; omega
    rw [hno]
    clear el er hno
    go_enter Tryd.func11, Tryd.ntmps11
    go_wp2
    go_ret
    exact ⟨rfl, 0, rfl⟩
end Go.Proofs.YtnionejefpnfoaaDoor
