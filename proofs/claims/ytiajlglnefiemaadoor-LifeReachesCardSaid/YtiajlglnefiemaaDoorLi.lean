/- slices.Repeat of one number. Conditions: up to twelve times. -/
import Derived.Test.YtiajlglnefiemaaDoorLb
import Derived.BigRegion
import Derived.Laws.CopyOwn
set_option linter.unusedSimpArgs false
set_option linter.unusedVariables false
namespace Go.Proofs.YtiajlglnefiemaaDoor
open Go.RowKit

set_option maxRecDepth 100000 in
set_option maxHeartbeats 8000000 in
theorem mul64_one (n : Nat) (w : World) (h1 : 1 ≤ n) (h2 : n ≤ 12) : Calls Tryd.prog 108 #[.int .u64 1, .int .u64 (n : Int)] w fun E W' => E = .returned (.tuple #[.int .u64 0, .int .u64 (n : Int)]) ∧ W' = w := by
  have : n = 1 ∨ n = 2 ∨ n = 3 ∨ n = 4 ∨ n = 5 ∨ n = 6 ∨ n = 7 ∨ n = 8 ∨ n = 9 ∨ n = 10 ∨ n = 11 ∨ n = 12 := by omega
  rcases this with rfl | rfl | rfl | rfl | rfl | rfl | rfl | rfl | rfl | rfl | rfl | rfl
  all_goals
    go_enter Tryd.func108, Tryd.ntmps108
    go_wp2_with fail
    go_ret2
    exact ⟨by kernel_rfl, rfl⟩
set_option maxRecDepth 100000 in
set_option maxHeartbeats 8000000 in
theorem mul_one' (n : Nat) (w : World) (h1 : 1 ≤ n) (h2 : n ≤ 12) : Calls Tryd.prog 95 #[.int .u64 1, .int .u64 (n : Int)] w fun E W' => E = .returned (.tuple #[.int .u64 0, .int .u64 (n : Int)]) ∧ W' = w := by
  have hm := fun W => mul64_one n W h1 h2
  go_enter Tryd.func95, Tryd.ntmps95
  go_wp2_with fail
  refine (hm _).mono ?_
  rintro E w1 ⟨rfl, rfl⟩
  go_wp2_with fail
  go_ret2
  exact ⟨rfl, rfl⟩
/-- k cells laid, the others zero -/
def rpart (n k : Nat) (v : Int) : List Value := ints (List.replicate k v ++ List.replicate (n - k) 0)
theorem rpart_length {n k : Nat} (h : k ≤ n) (v : Int) : (rpart n k v).length = n := by unfold rpart; rw [ints_length]; simp; omega
theorem rpart_full (n : Nat) (v : Int) : rpart n n v = ints (List.replicate n v) := by unfold rpart; simp
theorem rpart_splice {n k c : Nat} (v : Int) (h : k + c ≤ n) : splice (rpart n k v) k (ints (List.replicate c v)) = rpart n (k + c) v := by
  unfold splice rpart ints
  simp only [List.map_append, List.map_replicate, List.length_replicate]
  rw [List.take_left' (by simp)]
  rw [← List.append_assoc, List.replicate_append_replicate]
  congr 1
  rw [List.drop_append]
  simp
  omega
theorem rpart_zero (n : Nat) (v : Int) : (rpart n 0 v).toArray = madeCells #[.int .i64 0] n := by
  apply Array.ext
  · rw [List.size_toArray, rpart_length (Nat.zero_le _), size_madeCells]
  · intro i h1 h2
    unfold rpart ints
    simp [madeCells, Nat.mod_one]
theorem info3s : (Tryd.prog.info? 3).map (·.size) = some 1 := by kernel_rfl
theorem splice_eq (L : List Value) (off : Nat) (cs : List Value) : L.take off ++ cs ++ L.drop (off + cs.length) = splice L off cs := by unfold splice; rw [List.append_assoc]
theorem copy_first (W : World) (go g cx n : Nat) (v : Int) (h : Blk W go 3 (rpart n 0 v).toArray) (hn : 1 ≤ n) (hx : W.cell? ⟨g, 0, none⟩ = some (.int .i64 v)) :
    (Builtin.copy_ #[22, 22] 3 #[.slice (some ⟨go, 0, none⟩) n n, .slice (some ⟨g, 0, none⟩) 1 cx]).run Tryd.prog W = .ok (.int .i64 1) (W.setRow go (rpart n 1 v).toArray) := by
  have hr := run_copy_row (P := Tryd.prog) W 22 22 3 3 go 0 n n ⟨g, 0, none⟩ 1 cx (rpart n 0 v).toArray 3 (ints (List.replicate 1 v)) Tryd.underlying22 info3s h (by rw [ints_length, List.length_replicate]; exact (Nat.min_eq_left hn).symm) (by
    intro j u hu
    cases j with
    | zero =>
      have e : u = .int .i64 v := by simpa [ints] using hu.symm
      rw [e]
      exact hx
    | succ j => simp [ints] at hu) (by rw [List.size_toArray, rpart_length (Nat.zero_le _), ints_length, List.length_replicate]; omega) (ints_one _)
  rw [hr, splice_eq, rpart_splice v (by omega)]
  simp [ints, goInt]
theorem copy_more (W : World) (go n k : Nat) (v : Int) (h : Blk W go 3 (rpart n k v).toArray) (hk : k ≤ n) :
    (Builtin.copy_ #[22, 22] 3 #[.slice (some ⟨go, k, none⟩) (n - k) (n - k), .slice (some ⟨go, 0, none⟩) k n]).run Tryd.prog W = .ok (.int .i64 ((min k (n - k) : Nat) : Int)) (W.setRow go (rpart n (k + min k (n - k)) v).toArray) := by
  have hr := run_copy_row (P := Tryd.prog) W 22 22 3 3 go k (n - k) (n - k) ⟨go, 0, none⟩ k n (rpart n k v).toArray 3 (ints (List.replicate (min k (n - k)) v)) Tryd.underlying22 info3s h (by rw [ints_length, List.length_replicate]) (by
    intro j u hu
    have hj : j < min k (n - k) := by
      rcases Nat.lt_or_ge j (min k (n - k)) with h1 | h1
      · exact h1
      · rw [List.getElem?_eq_none (by rw [ints_length, List.length_replicate]; exact h1)] at hu
        cases hu
    have e : u = .int .i64 v := by
      rw [ints_get, List.getElem?_replicate] at hu
      rw [if_pos hj] at hu
      simpa using hu.symm
    have e2 : (⟨go, 0, none⟩ : Addr).add j = ⟨go, j, none⟩ := by cases j <;> simp [Addr.add]
    rw [e2, e]
    refine h.at_ ?_
    rw [List.getElem?_toArray]
    unfold rpart
    rw [ints_get, List.getElem?_append_left (by rw [List.length_replicate]; omega), List.getElem?_replicate, if_pos (by omega)]
    rfl) (by rw [List.size_toArray, rpart_length hk, ints_length, List.length_replicate]; omega) (ints_one _)
  rw [hr, splice_eq, rpart_splice v (by omega)]
  simp [ints, goInt]
set_option maxRecDepth 100000 in
set_option maxHeartbeats 8000000 in
theorem repeat_any (g cx n : Nat) (v : Int) (w : World) (h1 : 1 ≤ n) (h2 : n ≤ 12) (hx : w.cell? ⟨g, 0, none⟩ = some (.int .i64 v)) (hg : g < w.heap.size) :
    Calls Tryd.prog 71 #[.slice (some ⟨g, 0, none⟩) 1 cx, .int .i64 (n : Int)] w fun E W' => ∃ go, E = .returned (.slice (some ⟨go, 0, none⟩) n n) ∧ Blk W' go 3 (ints (List.replicate n v)).toArray ∧ w.heap.size ≤ go ∧ Below w.heap.size w W' := by
  obtain ⟨i0, hi0, hz0, hz1, hz2'⟩ := info_parts info_i64
  have hm := fun W => mul_one' n W h1 h2
  have c0 : ¬ (n : Int) < 0 := by omega
  go_enter Tryd.func71, Tryd.ntmps71
  go_wp2_with fail
  refine (hm _).mono ?_
  rintro E w1 ⟨rfl, rfl⟩
  have hz := Blk.new w1 3 (madeCells #[.int .i64 0] n)
  have hb0 := (Below.refl w1.heap.size w1).alloc (Nat.le_refl _) (.cells (madeCells #[.int .i64 0] n) 3)
  have hx1 : (w1.alloc (.cells (madeCells #[.int .i64 0] n) 3)).cell? ⟨g, 0, none⟩ = some (.int .i64 v) := (World.cell?_alloc_lt w1 _ ⟨g, 0, none⟩ hg).trans hx
  have hz2 := hz
  rw [← rpart_zero n v] at hz2
  have hcp := copy_first (w1.alloc (.cells (madeCells #[.int .i64 0] n) 3)) w1.heap.size g cx n v (by rw [← rpart_zero n v] at hz ⊢; exact hz) h1 hx1
  clear hz2
  go_wp2_with (at_make; refine wpList_make_row _ rfl _ _ 22 rfl 3 i0 (.int .i64 0) Tryd.underlying22 hi0 hz0 hz1 rfl .i64 .i64 n rfl rfl (by rw [hz2']; omega) (by omega) ?_)
  have hz3 := hz.row (rpart n 1 v).toArray
  have hb3 := below_setRow hb0 (Nat.le_refl _) (rpart n 1 v).toArray
  generalize (w1.alloc (.cells (madeCells #[.int .i64 0] n) 3)).setRow w1.heap.size (rpart n 1 v).toArray = w3 at *
  clear hcp hz hb0 hx1
  go_loopw [8] (fun i wr => ∃ k : Nat, 1 ≤ k ∧ k ≤ n ∧ i = .int .i64 (k : Int) ∧ Blk wr w1.heap.size 3 (rpart n k v).toArray ∧ Below w1.heap.size w1 wr) (fun i _ => (n - intOf i).toNat)
  case atStart => exact ⟨1, by omega, h1, rfl, hz3, hb3⟩
  case round =>
    clear hz3 hb3
    obtain ⟨k, hk1, hk, rfl, hz, hb⟩ := hrel
    by_cases hlt : k < n
    · have hji : (k : Int) < (n : Int) := by omega
      have hcp := copy_more wr.drew w1.heap.size n k v hz.drew hk
      have hnew := (hz.drew.row (rpart n (k + min k (n - k)) v).toArray)
      have hbn := below_setRow hb.drew (Nat.le_refl _) (rpart n (k + min k (n - k)) v).toArray
      have hmin : 1 ≤ min k (n - k) := by omega
      have hmin2 : k + min k (n - k) ≤ n := by omega
      generalize min k (n - k) = c at *
      have HN := Lib.hid hnew
      have HBN := Lib.hid hbn
      clear hnew hbn hz hb
      go_wp2_with fail
      go_region
      go_wp2_with fail
      go_roundw
      case rel => exact ⟨k + c, by omega, hmin2, by go_num, HN.out, HBN.out⟩
      case measure => simp [intOf]; omega
    · obtain rfl : k = n := by omega
      have hji : ¬ (k : Int) < (k : Int) := by omega
      go_wp2_with fail
      go_ret
      rw [rpart_full] at hz
      exact ⟨_, rfl, hz, Nat.le_refl _, hb⟩
end Go.Proofs.YtiajlglnefiemaaDoor
