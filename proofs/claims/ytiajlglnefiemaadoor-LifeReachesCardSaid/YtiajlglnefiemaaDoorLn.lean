/- Life cycles: Walk of one move, where the state 0 has one. Conditions: the life cycle is valid, the path is nil, the seed short; the round constants lie in their variable. -/
import Derived.Test.YtiajlglnefiemaaDoorLm
import Derived.Test.YtiajlglnefiemaaDoorDd
import Derived.WalkMore
set_option linter.unusedSimpArgs false
set_option linter.unusedVariables false
namespace Go.Proofs.YtiajlglnefiemaaDoor
open Go.RowKit

set_option maxRecDepth 100000 in
set_option maxHeartbeats 8000000 in
theorem walk_one (nm : ByteArray) (A : Option Addr) (n c : Nat) (B : Option Addr) (m d : Nat) (M : List (Int × Int)) (x : Int) (w : World) (h : Reads w w.heap.size 2 B m (movsV M)) (hE : lifeE n M = 0) (hmv : mv M 0 = [x]) (hn : n ≤ 1000000) (hm : m ≤ 1000000) (hK : Consts w) (h0 : 0 < w.heap.size) :
    Calls Tryd.prog 75 #[lifeV nm A n c B m d, .string ⟨#[]⟩, .slice none 0 0, .int .i64 1] w fun E W' => ∃ v, E = .returned (.tuple #[v, .int .i64 0]) ∧ W'.ownsRow w.heap.size 3 1 v 2 (ints [0, x]) ∧ Below w.heap.size w W' := by
  have b0 := (Below.refl w.heap.size w).alloc (Nat.le_refl _) (.cells #[.string nm, .slice A n c, .slice B m d] 50)
  have k0 := Blk.new w 50 #[.string nm, .slice A n c, .slice B m d]
  have hv := lifeValid_any nm A n c B m d M _ ((h.below b0).more b0.size) hn hm
  rw [hE] at hv
  have HV := Lib.hid hv
  clear hv
  go_enter Tryd.func75, Tryd.ntmps75
  go_wp2_with fail
  go_step3
  go_wp2_with fail
  refine HV.out.mono ?_
  rintro E w1 ⟨rfl, b1⟩
  have c1 := below_next b0 b1
  have j1 := k0.thru b1
  go_wp2_with fail
  have o2 := own_new w1 3 #[.int .i64 0] w1.heap.size (Nat.le_refl _) (by unfold maxLen; simp)
  have c2 := c1.alloc c1.size (.cells #[.int .i64 0] 3)
  have j2 := j1.alloc (.cells #[.int .i64 0] 3)
  have hw1 : w.heap.size ≤ w1.heap.size := c1.size
  generalize w1.alloc (.cells #[.int .i64 0] 3) = w2 at *
  generalize w1.heap.size = g1 at *
  obtain ⟨i0, hi, hz0, hz1, hz2⟩ := info_parts info_i64
  go_step3
  go_wp2_with fail
  go_loopw [11, 12, 38] (fun v s i wr => (i = .int .i64 0 ∧ s = .int .i64 0 ∧ v = .slice (some ⟨g1, 0, none⟩) 1 1 ∧ wr = w2) ∨ (i = .int .i64 1 ∧ wr.ownsRow w.heap.size 3 1 v 2 (ints [0, x]) ∧ Below w.heap.size w wr)) (fun _ _ i _ => 1 - (intOf i).toNat)
  case atStart => exact .inl ⟨rfl, rfl, rfl, rfl⟩
  case round =>
    rcases hrel with ⟨rfl, rfl, rfl, rfl⟩ | ⟨rfl, ho, hb⟩
    · have p0 : wr.cell? ⟨w.heap.size, 0, none⟩ = some (.string nm) := j2.at_ rfl
      have p1 : wr.cell? ⟨w.heap.size, 1, none⟩ = some (.slice A n c) := j2.at_ rfl
      have p2 : wr.cell? ⟨w.heap.size, 2, none⟩ = some (.slice B m d) := j2.at_ rfl
      have hmm := mov_any nm A n c B m d M 0 wr ((h.below c2).more c2.size) hm
      rw [hmv] at hmm
      have HMM := Lib.hid hmm
      clear hmm
      go_wp2_with fail
      refine HMM.out.mono ?_
      rintro E w3 ⟨v3, rfl, o3, b3⟩
      obtain ⟨A3, d3, rfl, hr3⟩ := own_reads1 o3
      have c3 := below_next c2 b3
      obtain ⟨ad3, rfl, had3, -, q3⟩ := (show Reads w3 w3.heap.size 1 A3 1 (ints [x]) from hr3).int_at (show 0 < 1 by omega)
      go_wp2_with fail
      refine (clone_any none 0 0 [] w3 (Reads.nil_ _ _ _ _) (by omega)).mono ?_
      rintro E w4 ⟨v4, rfl, o4, b4⟩
      have c4 := below_next c3 b4
      have o4' : w4.ownsRow w3.heap.size 3 1 v4 0 [] := o4
      go_wp2_with (at_builtin; refine wpList_append_own _ rfl _ _ 22 rfl w3.heap.size 3 i0 (.int .i64 0) 1 8 Tryd.underlying22 hi hz0 hz1 hz2 rfl (by decide) _ _ _ rfl (o4'.alloc _) ⟨w4.heap.size, 0, none⟩ 1 1 [.int .i64 0] rfl rfl (cell_one_new _ _ _) (by simp [Value.oneCell']) (by unfold maxLen; omega) (by omega) (by have := b4.size; simp; omega) ?_; intro v5 w5 o5 g5 _)
      have b5 : Below w3.heap.size w3 w5 := (b4.alloc b4.size _).grown g5 (by have := b4.size; simp; omega) (fun q e => (o4'.lt q e).1)
      have c5 := below_next c3 b5
      obtain ⟨A5, d5, rfl, hr5⟩ := own_reads1 o5
      have hK5 := hK.below (c5.mono h0)
      have h05 : 0 < w5.heap.size := Nat.lt_of_lt_of_le h0 c5.size
      have net5 : Net ⟨#[]⟩ A5 1 [0] w5 := ⟨hr5, by simp [I64], by omega, by decide, hK5, h05⟩
      have hnum := num_any (c := d5) net5 1 (fun _ => by have := wordN_lt ⟨#[]⟩ [0] 0; simpa using this)
      rw [show numV ⟨#[]⟩ 1 [0] 1 = 0 from by unfold numV; split <;> simp [Nat.mod_one], show errV ⟨#[]⟩ 1 (decide (1 ≤ (1 : Int) ∧ (1 : Int) ≤ 1099511627776)) = 0 from by kernel_rfl] at hnum
      have HNUM := Lib.hid hnum
      clear hnum net5 hr5 o5 o4 o4' hK5 h05 g5 b4 c4
      refine HNUM.out.mono ?_
      rintro E w6 ⟨rfl, b6⟩
      have c6 := below_next c5 b6
      have b36 := below_next b5 b6
      have q6 : w6.cell? ad3 = some (.int .i64 x) := (b36.cell (p := ad3) had3).trans (by simpa [Addr.add] using q3)
      have o6 : w6.ownsRow w.heap.size 3 1 (.slice (some ⟨g1, 0, none⟩) 1 1) 1 [.int .i64 0] := own_le (own_thru (own_thru o2 b3) b36) hw1
      clear b36 b5 b6 c5 b3 q3 HNUM HMM
      go_wp2_with (at_builtin; refine wpList_append_own _ rfl _ _ 22 rfl w.heap.size 3 i0 (.int .i64 0) 1 8 Tryd.underlying22 hi hz0 hz1 hz2 rfl (by decide) _ _ _ rfl (o6.alloc _) ⟨w6.heap.size, 0, none⟩ 1 1 [.int .i64 x] rfl rfl (cell_one_new _ _ _) (by simp [Value.oneCell']) (by unfold maxLen; omega) (by omega) (by have := c6.size; simp; omega) ?_; intro v7 w7 o7 g7 _)
      have b7 : Below w.heap.size w w7 := (c6.alloc c6.size _).grown g7 (by have := c6.size; simp; omega) (fun q e => (o6.lt q e).1)
      have o8 : w7.ownsRow w.heap.size 3 1 v7 2 (ints [0, x]) := o7
      go_roundw
      case rel => exact .inr ⟨by go_num, o8, b7⟩
      case measure => simp [intOf]
    · go_wp2_with fail
      rw [Exit.noGoto_ret]
      go_ret2
      exact ⟨_, rfl, ho, hb⟩
end Go.Proofs.YtiajlglnefiemaaDoor
