/- The walk of the examples of package draw, and of the law DrawWords. Conditions: the round constants lie in their variables. -/
import Derived.Test.YtiajlglnefiemaaDoorDc
import Derived.Test.YtiajlglnefiemaaDoorQe
import Derived.Deep.OwnRows
set_option linter.unusedSimpArgs false
set_option linter.unusedVariables false
namespace Go.Proofs.YtiajlglnefiemaaDoor
open Go.RowKit

theorem reads_fresh (w : World) (xs : List Value) (t : TypeId) : Reads (w.alloc (.cells xs.toArray t)) (w.heap.size + 1) 1 (some ⟨w.heap.size, 0, none⟩) xs.length xs := by
  refine ⟨by simp, fun _ => ⟨_, rfl, by simp, fun j u hu => ?_⟩⟩
  have h := (Blk.new w t xs.toArray).at_ (i := j) (v := u) (by simpa using hu)
  have e : (⟨w.heap.size, 0, none⟩ : Addr).add j = ⟨w.heap.size, j, none⟩ := by cases j <;> simp [Addr.add]
  rw [e]
  exact h
theorem net_fresh {s : ByteArray} (l : List Int) {w : World} (hs : s.size ≤ 100000) (hl : ∀ x ∈ l, I64 x) (hn : l.length ≤ 10000) (hK : Consts w) (h0 : 0 < w.heap.size) : Net s (some ⟨w.heap.size, 0, none⟩) l.length l (w.alloc (.cells (ints l).toArray 3)) := by
  have h := reads_fresh w (ints l) 3
  rw [ints_length] at h
  refine ⟨by rw [World.size_alloc]; exact h, hl, hn, hs, hK.below (((Below.refl _ w).alloc (Nat.le_refl _) _).mono h0), by simp⟩
theorem reads_fresh' (w : World) (xs : List Value) (t : TypeId) : Reads (w.alloc (.cells xs.toArray t)) (w.alloc (.cells xs.toArray t)).heap.size 1 (some ⟨w.heap.size, 0, none⟩) xs.length xs := by
  have h := reads_fresh w xs t
  rw [World.size_alloc]
  exact h
theorem zero9 : madeCells #[.int .i64 0] 9 = (ints (List.replicate 9 0)).toArray := by kernel_rfl
theorem valid_s : validB ⟨#[115]⟩ 0 = true := by decide
theorem valid_t : validB ⟨#[116]⟩ 1 = true := by decide
theorem word_t' : wordN ⟨#[116]⟩ [3] 0 < 281474976710655 := by
  have h := word_t
  rw [Nat.blt_eq] at h
  exact h
theorem num_noV {s : ByteArray} {n : Nat} {l : List Int} {N : Int} (h : ¬ ((1 ≤ N ∧ N ≤ 1099511627776) ∧ validB s n)) : numV s n l N = 0 := by unfold numV; rw [if_neg h]
set_option maxRecDepth 100000 in
set_option maxHeartbeats 8000000 in
theorem drawLives_any (w : World) (hK : Consts w) (h0 : 0 < w.heap.size) : Calls Tryd.prog 32 #[] w fun e W' => e = .returned (.bool true) ∧ Below w.heap.size w W' := by
  obtain ⟨i0, hi, hz0, hz1, hz2⟩ := info_parts info_i64
  go_enter Tryd.func32, Tryd.ntmps32
  go_wp2_with fail
  have n1 := num_any (c := 2) (net_fresh (s := ⟨#[115]⟩) [1, 2] (w := w) (by decide) (by simp [I64]) (by simp) hK h0) 1 (fun _ => by have := wordN_lt ⟨#[115]⟩ [1, 2] 0; simpa using this)
  rw [show numV ⟨#[115]⟩ [(1 : Int), 2].length [1, 2] 1 = 0 from by unfold numV; split <;> simp [Nat.mod_one]] at n1
  rw [show errV ⟨#[115]⟩ [(1 : Int), 2].length (decide (1 ≤ (1 : Int) ∧ (1 : Int) ≤ 1099511627776)) = 0 from by kernel_rfl] at n1
  refine n1.mono ?_
  rintro E w1 ⟨rfl, b1⟩
  have c1 := below_next ((Below.refl _ w).alloc (Nat.le_refl _) _) b1
  have K1 := hK.below (c1.mono h0)
  have p1 : 0 < w1.heap.size := Nat.lt_of_lt_of_le h0 c1.size
  clear n1 b1
  go_wp2_with fail
  refine (between_seven (net_none (s := ⟨#[115]⟩) (by decide) K1 p1) valid_s).mono ?_
  rintro E w2 ⟨rfl, b2⟩
  have c2 := below_next c1 b2
  have K2 := hK.below (c2.mono h0)
  have p2 : 0 < w2.heap.size := Nat.lt_of_lt_of_le h0 c2.size
  clear K1 p1 b2
  go_wp2_with fail
  have n3 := net_fresh (s := ⟨#[116]⟩) [3] (w := w2) (by decide) (by simp [I64]) (by simp) K2 p2
  have b3 := (Below.refl w2.heap.size w2).alloc (Nat.le_refl _) (.cells (ints [3]).toArray 3)
  change Net ⟨#[116]⟩ (some ⟨w2.heap.size, 0, none⟩) 1 [3] (w2.alloc (.cells #[.int .i64 3] 3)) at n3
  change Below w2.heap.size w2 (w2.alloc (.cells #[.int .i64 3] 3)) at b3
  have s3 : (w2.alloc (.cells #[.int .i64 3] 3)).heap.size = w2.heap.size + 1 := by simp
  generalize w2.alloc (.cells #[.int .i64 3] 3) = w3 at *
  have b4 := (Below.refl w3.heap.size w3).alloc (Nat.le_refl _) (.cells (ints [0, 5, 0]).toArray 3)
  have L4 := reads_fresh' w3 (ints [0, 5, 0]) 3
  have n4 := n3.below b4
  change Below w3.heap.size w3 (w3.alloc (.cells #[.int .i64 0, .int .i64 5, .int .i64 0] 3)) at b4
  change Reads (w3.alloc (.cells #[.int .i64 0, .int .i64 5, .int .i64 0] 3)) (w3.alloc (.cells #[.int .i64 0, .int .i64 5, .int .i64 0] 3)).heap.size 1 (some ⟨w3.heap.size, 0, none⟩) 3 (ints [0, 5, 0]) at L4
  change Net ⟨#[116]⟩ (some ⟨w2.heap.size, 0, none⟩) 1 [3] (w3.alloc (.cells #[.int .i64 0, .int .i64 5, .int .i64 0] 3)) at n4
  have c4 := below_next (below_next c2 b3) b4
  generalize hw4 : w3.alloc (.cells #[.int .i64 0, .int .i64 5, .int .i64 0] 3) = w4 at *
  clear hw4
  rw [s3] at L4
  refine (pick_three (w2.heap.size + 1) 3 n4 valid_t word_t' L4).mono ?_
  rintro E w5 ⟨rfl, b5⟩
  have c5 := below_next c4 b5
  have K5 := hK.below (c5.mono h0)
  have p5 : 0 < w5.heap.size := Nat.lt_of_lt_of_le h0 c5.size
  clear n4 b4 L4 n3 b3 K2 p2 c4 b5
  go_wp2_with fail
  have b6 := (Below.refl w5.heap.size w5).alloc (Nat.le_refl _) (.cells (ints [4]).toArray 3)
  change Below w5.heap.size w5 (w5.alloc (.cells #[.int .i64 4] 3)) at b6
  refine (coin_zero ⟨#[116]⟩ (some ⟨w5.heap.size, 0, none⟩) 1 1 (w5.alloc (.cells #[.int .i64 4] 3)) (by decide) (by decide) valid_t).mono ?_
  rintro E w6 ⟨rfl, b7⟩
  have c6 := below_next (below_next c5 b6) b7
  have K6 := hK.below (c6.mono h0)
  have p6 : 0 < w6.heap.size := Nat.lt_of_lt_of_le h0 c6.size
  clear K5 p5 b6 b7
  go_wp2_with fail
  have n6 := net_fresh (s := ⟨#[116]⟩) [4] (w := w6) (by decide) (by simp [I64]) (by simp) K6 p6
  have b6 := (Below.refl w6.heap.size w6).alloc (Nat.le_refl _) (.cells (ints [4]).toArray 3)
  change Net ⟨#[116]⟩ (some ⟨w6.heap.size, 0, none⟩) 1 [4] (w6.alloc (.cells #[.int .i64 4] 3)) at n6
  change Below w6.heap.size w6 (w6.alloc (.cells #[.int .i64 4] 3)) at b6
  refine (coin_one n6 valid_t).mono ?_
  rintro E w7 ⟨rfl, b7⟩
  have c7 := below_next (below_next c6 b6) b7
  have K7 := hK.below (c7.mono h0)
  have p7 : 0 < w7.heap.size := Nat.lt_of_lt_of_le h0 c7.size
  clear n6 K6 p6 b6 b7
  go_wp2_with (at_make; refine wpList_make_row _ rfl _ _ 22 rfl 3 i0 (.int .i64 0) Tryd.underlying22 hi hz0 hz1 rfl .i64 .i64 9 rfl rfl (by rw [hz2]; omega) (by omega) ?_)
  have n8 := net_fresh (s := ⟨#[115]⟩) (List.replicate 9 0) (w := w7) (by decide) (by simp [I64]) (by simp) K7 p7
  have b8 := (Below.refl w7.heap.size w7).alloc (Nat.le_refl _) (.cells (ints (List.replicate 9 0)).toArray 3)
  rw [← zero9, List.length_replicate] at n8
  rw [← zero9] at b8
  have m8 := num_any (c := 9) n8 5 (fun h => absurd h.2 (by decide))
  rw [num_noV (fun h => absurd h.2 (by decide)), show errV ⟨#[115]⟩ 9 (decide (1 ≤ (5 : Int) ∧ (5 : Int) ≤ 1099511627776)) = 1 from by kernel_rfl] at m8
  generalize w7.alloc (.cells (madeCells #[.int .i64 0] 9) 3) = w8 at *
  refine m8.mono ?_
  rintro E w9 ⟨rfl, b9⟩
  have c9 := below_next (below_next c7 b8) b9
  have K9 := hK.below (c9.mono h0)
  have p9 : 0 < w9.heap.size := Nat.lt_of_lt_of_le h0 c9.size
  clear n8 m8 K7 p7 b8 b9
  go_wp2_with fail
  have m9 := num_any (c := 0) (net_none (s := ⟨#[115]⟩) (by decide) K9 p9) 0 (fun h => absurd h.1.1 (by decide))
  rw [num_noV (fun h => absurd h.1.1 (by decide)), show errV ⟨#[115]⟩ 0 (decide (1 ≤ (0 : Int) ∧ (0 : Int) ≤ 1099511627776)) = 5 from by kernel_rfl] at m9
  refine m9.mono ?_
  rintro E w10 ⟨rfl, b10⟩
  have c10 := below_next c9 b10
  clear m9 K9 p9 b10
  go_wp2_with fail
  go_ret
  exact ⟨rfl, c10⟩
end Go.Proofs.YtiajlglnefiemaaDoor
