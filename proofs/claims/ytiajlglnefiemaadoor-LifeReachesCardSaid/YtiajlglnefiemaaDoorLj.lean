/- slices.Contains of numbers; Least's closure. Conditions: the lists are short. -/
import Derived.Test.YtiajlglnefiemaaDoorLd
import Derived.Test.YtiajlglnefiemaaDoorLi
set_option linter.unusedSimpArgs false
set_option linter.unusedVariables false
namespace Go.Proofs.YtiajlglnefiemaaDoor
open Go.RowKit

/-- is the number there? -/
def hasB (l : List Int) (v : Int) : Bool := decide (v ∈ l)
theorem hasB_iff (l : List Int) (v : Int) : hasB l v = true ↔ v ∈ l := by unfold hasB; rw [decide_eq_true_iff]
set_option maxRecDepth 100000 in
set_option maxHeartbeats 2000000 in
theorem index_any (A : Option Addr) (n c : Nat) (l : List Int) (v : Int) (b : Nat) (w : World) (hl : Reads w b 1 A n (ints l)) (hn : n ≤ 1000000) :
    Calls Tryd.prog 96 #[.slice A n c, .int .i64 v] w fun E W' => (∃ i : Int, E = .returned (.int .i64 i) ∧ (0 ≤ i ↔ hasB l v = true)) ∧ ∃ q, W' = w.drewN q := by
  have el := hl.int_len
  have HL := Lib.hid el
  clear el
  go_enter Tryd.func96, Tryd.ntmps96
  go_wp2_with fail
  go_loopw [8] (fun i wr => ∃ k : Nat, k ≤ n ∧ i = .int .i64 k ∧ Hid (∀ j, j < k → l[j]?.getD 0 ≠ v) ∧ ∃ q, wr = w.drewN q) (fun i _ => n - (intOf i).toNat)
  case atStart => exact ⟨0, by omega, rfl, Lib.hid (fun j hj => by omega), 0, rfl⟩
  case round =>
    obtain ⟨k, hk, rfl, HE, q, rfl⟩ := hrel
    by_cases hlt : k < n
    · obtain ⟨a1, rfl, -, -, c1⟩ := hl.int_at hlt
      have hki : (k : Int) < (n : Int) := by omega
      have c2 : (w.drewN q).cell? (a1.add k) = some (.int .i64 (l[k]?.getD 0)) := c1
      by_cases hq : v = l[k]?.getD 0
      · have HQ := Lib.hid hq
        have hq1 : (v == l[k]?.getD 0) = true := by simpa using hq
        clear hq
        go_wp2_with fail
        go_ret
        have hlen := HL.out
        refine ⟨⟨(k : Int), rfl, ⟨fun _ => (hasB_iff l v).2 ?_, fun _ => by omega⟩⟩, q, rfl⟩
        have e := HQ.out
        rw [List.getElem?_eq_getElem (by omega)] at e
        rw [e]
        exact List.getElem_mem _
      · have HQ := Lib.hid hq
        have hq1 : (v == l[k]?.getD 0) = false := by simpa using hq
        clear hq
        go_wp2_with fail
        go_roundw
        case rel =>
          refine ⟨k + 1, by omega, by go_num, Lib.hid (fun j hj => ?_), _, rfl⟩
          by_cases e : j = k
          · subst e
            exact fun h => HQ.out h.symm
          · exact HE.out j (by omega)
        case measure => simp [intOf]; omega
    · obtain rfl : k = n := by omega
      have hki : ¬ (k : Int) < (k : Int) := by omega
      go_wp2_with fail
      go_ret
      refine ⟨⟨-1, rfl, ⟨fun h => by omega, fun hm => ?_⟩⟩, q, rfl⟩
      obtain ⟨j, hj, e⟩ := List.getElem_of_mem ((hasB_iff l v).1 hm)
      refine absurd ?_ (HE.out j (by have := HL.out; omega))
      rw [List.getElem?_eq_getElem hj, e]
      rfl
set_option maxRecDepth 100000 in
set_option maxHeartbeats 2000000 in
theorem contains_any (A : Option Addr) (n c : Nat) (l : List Int) (v : Int) (b : Nat) (w : World) (hl : Reads w b 1 A n (ints l)) (hn : n ≤ 1000000) :
    Calls Tryd.prog 73 #[.slice A n c, .int .i64 v] w fun E W' => E = .returned (.bool (hasB l v)) ∧ ∃ q, W' = w.drewN q := by
  have hx := index_any A n c l v b w hl hn
  have HX := Lib.hid hx
  clear hx
  go_enter Tryd.func73, Tryd.ntmps73
  go_wp2_with fail
  refine HX.out.mono ?_
  rintro E w2 ⟨⟨i, rfl, hi⟩, q, rfl⟩
  go_wp2_with fail
  go_ret
  exact ⟨rfl, q, rfl⟩
/-- numbers as cells -/
def rowI (f : Nat → Int) (n : Nat) : Array Value := (ints ((List.range n).map f)).toArray
theorem rowI_size (f : Nat → Int) (n : Nat) : (rowI f n).size = n := by simp [rowI, ints]
theorem rowI_get (f : Nat → Int) {n i : Nat} (h : i < n) : (rowI f n)[i]? = some (.int .i64 (f i)) := by
  unfold rowI
  rw [List.getElem?_toArray, ints_get, List.getElem?_map, List.getElem?_range h]
  rfl
theorem rowI_ext {f g : Nat → Int} {n : Nat} (h : ∀ i, i < n → f i = g i) : rowI f n = rowI g n := by
  apply Array.ext_getElem?
  intro j
  by_cases hj : j < n
  · rw [rowI_get _ hj, rowI_get _ hj, h j hj]
  · rw [Array.getElem?_eq_none (by rw [rowI_size]; omega), Array.getElem?_eq_none (by rw [rowI_size]; omega)]
theorem rowI_set (f : Nat → Int) {n i : Nat} (h : i < n) (v : Int) : (rowI f n).setIfInBounds i (.int .i64 v) = rowI (fun j => if j = i then v else f j) n := by
  apply Array.ext_getElem?
  intro j
  by_cases hj : j < n
  · rw [rowI_get _ hj]
    by_cases e : i = j
    · subst e
      rw [Array.getElem?_setIfInBounds_self_of_lt (by rw [rowI_size]; exact h), if_pos rfl]
    · rw [Array.getElem?_setIfInBounds_ne e, rowI_get _ hj, if_neg (fun h => e h.symm)]
  · rw [Array.getElem?_eq_none (by rw [Array.size_setIfInBounds, rowI_size]; omega), Array.getElem?_eq_none (by rw [rowI_size]; omega)]
theorem Blk.rowI_at {w : World} {g : Nat} {t : TypeId} {n : Nat} {f : Nat → Int} (h : Blk w g t (rowI f n)) {i : Nat} (hi : i < n) : w.cell? ⟨g, i, none⟩ = some (.int .i64 (f i)) := h.at_ (rowI_get f hi)
theorem Blk.rowI_reads {w : World} {g : Nat} {t : TypeId} {n b : Nat} {f : Nat → Int} (h : Blk w g t (rowI f n)) (hb : g < b) : Reads w b 1 (some ⟨g, 0, none⟩) n (ints ((List.range n).map f)) := by
  refine ⟨by simp [ints], fun _ => ⟨_, rfl, hb, fun j u hu => ?_⟩⟩
  have e : (⟨g, 0, none⟩ : Addr).add j = ⟨g, j, none⟩ := by cases j <;> simp [Addr.add]
  rw [e]
  exact h.at_ (by unfold rowI; rw [List.getElem?_toArray]; exact hu)
end Go.Proofs.YtiajlglnefiemaaDoor
