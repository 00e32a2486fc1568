/- The checks of the batches of draws, reckoned by the kernel: part 5 of 6. No condition; nothing of the program stands here but the specification of its words. -/
import Derived.Test.YtkchalnohkfhbaaDoorZe
set_option linter.unusedVariables false
set_option maxRecDepth 100000
set_option maxHeartbeats 1000000000
namespace Go.Proofs.YtkchalnohkfhbaaDoor

/-- one great number, first: what is freed later stays with the process -/
theorem wide4 : Nat.beq (Nat.shiftRight (Nat.shiftLeft 1 260000000) 259999999) 2 = true := by kernel_rfl
theorem ok2_0 : OkB [115, 101, 101, 100, 32, 50] 0 2 := by
  refine okB_up ?_ (by as_aux_lemma => kernel_rfl)
  iterate 100 refine upC_step ?_ (by as_aux_lemma => kernel_rfl)
  exact upC_zero _
theorem ok2_1 : OkB [115, 101, 101, 100, 32, 50] 0 3 := by
  refine okB_up ?_ (by as_aux_lemma => kernel_rfl)
  iterate 100 refine upC_step ?_ (by as_aux_lemma => kernel_rfl)
  exact upC_zero _
theorem ok2_2 : OkB [115, 101, 101, 100, 32, 50] 0 4 := by
  refine okB_up ?_ (by as_aux_lemma => kernel_rfl)
  iterate 100 refine upC_step ?_ (by as_aux_lemma => kernel_rfl)
  exact upC_zero _
theorem ok2_3 : OkB [115, 101, 101, 100, 32, 50] 0 5 := by
  refine okB_up ?_ (by as_aux_lemma => kernel_rfl)
  iterate 100 refine upC_step ?_ (by as_aux_lemma => kernel_rfl)
  exact upC_zero _
theorem ok2_4 : OkB [115, 101, 101, 100, 32, 50] 0 6 := by
  refine okB_up ?_ (by as_aux_lemma => kernel_rfl)
  iterate 100 refine upC_step ?_ (by as_aux_lemma => kernel_rfl)
  exact upC_zero _
theorem ok2_5 : OkB [115, 101, 101, 100, 32, 50] 0 7 := by
  refine okB_up ?_ (by as_aux_lemma => kernel_rfl)
  iterate 100 refine upC_step ?_ (by as_aux_lemma => kernel_rfl)
  exact upC_zero _
theorem ok2_6 : OkB [115, 101, 101, 100, 32, 50] 0 8 := by
  refine okB_up ?_ (by as_aux_lemma => kernel_rfl)
  iterate 100 refine upC_step ?_ (by as_aux_lemma => kernel_rfl)
  exact upC_zero _
theorem ok2_7 : OkB [115, 101, 101, 100, 32, 50] 0 9 := by
  refine okB_up ?_ (by as_aux_lemma => kernel_rfl)
  iterate 100 refine upC_step ?_ (by as_aux_lemma => kernel_rfl)
  exact upC_zero _
theorem ok2_8 : OkB [115, 101, 101, 100, 32, 50] 0 10 := by
  refine okB_up ?_ (by as_aux_lemma => kernel_rfl)
  iterate 100 refine upC_step ?_ (by as_aux_lemma => kernel_rfl)
  exact upC_zero _
theorem ok2_9 : OkB [115, 101, 101, 100, 32, 50] 0 11 := by
  refine okB_up ?_ (by as_aux_lemma => kernel_rfl)
  iterate 100 refine upC_step ?_ (by as_aux_lemma => kernel_rfl)
  exact upC_zero _
theorem ok2_10 : OkB [115, 101, 101, 100, 32, 50] 0 12 := by
  refine okB_up ?_ (by as_aux_lemma => kernel_rfl)
  iterate 100 refine upC_step ?_ (by as_aux_lemma => kernel_rfl)
  exact upC_zero _
theorem ok2_11 : OkB [115, 101, 101, 100, 32, 50] 1 2 := by
  refine okB_up ?_ (by as_aux_lemma => kernel_rfl)
  iterate 100 refine upC_step ?_ (by as_aux_lemma => kernel_rfl)
  exact upC_zero _
theorem ok2_12 : OkB [115, 101, 101, 100, 32, 50] 2 2 := by
  refine okB_up ?_ (by as_aux_lemma => kernel_rfl)
  iterate 100 refine upC_step ?_ (by as_aux_lemma => kernel_rfl)
  exact upC_zero _
theorem ok2_13 : OkB [115, 101, 101, 100, 32, 50] 2 3 := by
  refine okB_up ?_ (by as_aux_lemma => kernel_rfl)
  iterate 100 refine upC_step ?_ (by as_aux_lemma => kernel_rfl)
  exact upC_zero _
theorem ok2_14 : OkB [115, 101, 101, 100, 32, 50] 3 2 := by
  refine okB_up ?_ (by as_aux_lemma => kernel_rfl)
  iterate 100 refine upC_step ?_ (by as_aux_lemma => kernel_rfl)
  exact upC_zero _
theorem ok2_15 : OkB [115, 101, 101, 100, 32, 50] 3 3 := by
  refine okB_up ?_ (by as_aux_lemma => kernel_rfl)
  iterate 100 refine upC_step ?_ (by as_aux_lemma => kernel_rfl)
  exact upC_zero _
theorem ok2_16 : OkB [115, 101, 101, 100, 32, 50] 3 4 := by
  refine okB_up ?_ (by as_aux_lemma => kernel_rfl)
  iterate 100 refine upC_step ?_ (by as_aux_lemma => kernel_rfl)
  exact upC_zero _
end Go.Proofs.YtkchalnohkfhbaaDoor
