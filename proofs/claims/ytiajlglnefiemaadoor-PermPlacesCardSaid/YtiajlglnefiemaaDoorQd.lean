/- The reference's permutation: Given, All. Conditions: the round constants lie in their variables; the seed and the path are short. -/
import Derived.Test.YtiajlglnefiemaaDoorQc
set_option linter.unusedSimpArgs false
set_option linter.unusedVariables false
namespace Go.Proofs.YtiajlglnefiemaaDoor
open Go.RowKit

set_option maxRecDepth 100000 in
set_option maxHeartbeats 2000000 in
theorem rGiven_any (s : ByteArray) (A : Option Addr) (n c : Nat) (N : Int) (w : World) (hs : s.size ≤ 1000000) (hn : n ≤ 1000000) :
    Calls Tryd.prog 46 #[.string s, .slice A n c, .int .i64 N] w fun E W' => E = .returned (.int .i64 (givenE s n N)) ∧ W' = w := by
  unfold givenE
  by_cases h1 : (32 : Int) < (s.size : Int)
  · rw [if_pos (by omega)]
    go_enter Tryd.func46, Tryd.ntmps46
    go_wp2_with fail
    go_ret
    exact ⟨rfl, rfl⟩
  · by_cases h2 : (8 : Int) < (n : Int)
    · rw [if_pos (by omega)]
      go_enter Tryd.func46, Tryd.ntmps46
      go_wp2_with fail
      go_ret
      exact ⟨rfl, rfl⟩
    · by_cases h3 : (65536 : Int) < N
      · rw [if_pos (by omega)]
        go_enter Tryd.func46, Tryd.ntmps46
        go_wp2_with fail
        go_ret
        exact ⟨rfl, rfl⟩
      · rw [if_neg (by omega)]
        go_enter Tryd.func46, Tryd.ntmps46
        go_wp2_with fail
        go_ret
        exact ⟨rfl, rfl⟩
set_option maxRecDepth 100000 in
set_option maxHeartbeats 2000000 in
theorem rAll_no {s : ByteArray} {A : Option Addr} {n c : Nat} {l : List Int} {w : World} (h : RNet s A n l w) (N : Int) (hg : givenE s n N = 4 ∨ givenE s n N = 0 ∧ N < 0) :
    Calls Tryd.prog 17 #[.string s, .slice A n c, .int .i64 N] w fun E W' => E = .returned (.tuple #[.slice none 0 0, .int .i64 (if givenE s n N = 4 then 4 else 1)]) ∧ Below w.heap.size w W' := by
  have hgv := rGiven_any s A n c N w (by have := h.text; omega) (by have := h.short; omega)
  rcases hg with h4 | ⟨h0, hn⟩
  · rw [if_pos h4]
    rw [h4] at hgv
    have HGV := Lib.hid hgv
    clear hgv h4
    go_enter Tryd.func17, Tryd.ntmps17
    go_wp2_with fail
    refine HGV.out.mono ?_
    rintro E w1 ⟨rfl, rfl⟩
    go_wp2_with fail
    go_ret2
    exact ⟨rfl, Below.refl _ _⟩
  · rw [if_neg (by omega)]
    rw [h0] at hgv
    have HGV := Lib.hid hgv
    clear hgv h0
    go_enter Tryd.func17, Tryd.ntmps17
    go_wp2_with fail
    refine HGV.out.mono ?_
    rintro E w1 ⟨rfl, rfl⟩
    go_wp2_with fail
    go_ret2
    exact ⟨rfl, Below.refl _ _⟩
set_option maxRecDepth 100000 in
set_option maxHeartbeats 2000000 in
theorem rAll_yes {s : ByteArray} {A : Option Addr} {n c : Nat} {l : List Int} {w : World} (h : RNet s A n l w) (N : Nat) (hg : givenE s n (N : Int) = 0) :
    Calls Tryd.prog 17 #[.string s, .slice A n c, .int .i64 (N : Int)] w fun E W' => ∃ v, E = .returned (.tuple #[v, .int .i64 0]) ∧ W'.ownsRow w.heap.size 3 1 v (allV s l N).length (intsN (allV s l N)) ∧ Below w.heap.size w W' := by
  obtain ⟨i0, hi, hz0, hz1, hz2⟩ := info_parts info_i64
  have hgv := rGiven_any s A n c (N : Int) w (by have := h.text; omega) (by have := h.short; omega)
  have hN : N ≤ 65536 := by rcases givenE_cases s n (N : Int) with h4 | ⟨h0, hN, hn8, hs32⟩ <;> omega
  rw [hg] at hgv
  clear hg
  have hpl := fun (W : World) (x : Nat) (hW : RNet s A n l W) (hx : x < N) => rPlace_any (c := c) hW N x hN hx
  rw [allV_length, allV_eq]
  have HPL := Lib.hid hpl
  have HGV := Lib.hid hgv
  clear hpl hgv
  generalize placeN s l N = f at *
  go_enter Tryd.func17, Tryd.ntmps17
  go_wp2_with fail
  refine HGV.out.mono ?_
  rintro E w1 ⟨rfl, rfl⟩
  go_wp2_with fail
  go_loopw [9, 10] (fun v i wr => ∃ j : Nat, j ≤ N ∧ i = .int .i64 (j : Int) ∧ wr.ownsRow w1.heap.size 3 1 v j (intsN (upto f j)) ∧ Below w1.heap.size w1 wr) (fun _ i _ => (N - intOf i).toNat)
  case atStart => exact ⟨0, by omega, rfl, World.ownsRow_nil _ _ _ _, Below.refl _ _⟩
  case round =>
    obtain ⟨j, hj, rfl, ho, hb⟩ := hrel
    by_cases hlt : j < N
    · have hji : (j : Int) < (N : Int) := by omega
      have hp := HPL.out wr j (h.below hb) hlt
      have hup := upto_succ f j
      have HUP := Lib.hid hup
      have HP := Lib.hid hp
      clear hp hup
      go_wp2_with fail
      refine HP.out.mono ?_
      rintro E w2 ⟨rfl, b2⟩
      have hb2 := hb.trans (b2.mono hb.size)
      have o2 := own_thru ho b2
      go_wp2_with (at_builtin; refine wpList_append_own _ rfl _ _ 22 rfl w1.heap.size 3 i0 (.int .i64 0) 1 8 Tryd.underlying22 hi hz0 hz1 hz2 rfl (by decide) _ _ _ rfl (o2.alloc _) ⟨w2.heap.size, 0, none⟩ 1 1 [.int .i64 (f j : Int)] rfl rfl (cell_one_new _ _ _) (by simp [Value.oneCell']) (by unfold maxLen; omega) (by omega) (by have := hb2.size; simp; omega) ?_; intro v3 w3 o3 g3 _)
      have b3 : Below w1.heap.size w1 w3 := (hb2.alloc hb2.size _).grown g3 (by have := hb2.size; simp; omega) (fun k e => (o2.lt k e).1)
      rw [← intsN_snoc, ← HUP.out] at o3
      go_roundw
      case rel => exact ⟨j + 1, by omega, by go_num, o3, b3⟩
      case measure => simp [intOf]; omega
    · obtain rfl : j = N := by omega
      go_wp2_with fail
      go_ret2
      exact ⟨_, rfl, ho, hb⟩
end Go.Proofs.YtiajlglnefiemaaDoor
