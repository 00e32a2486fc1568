/- The checks of the batches of draws, reckoned by the kernel: part 6 of 6. No condition; nothing of the program stands here but the specification of its words. -/
import Derived.Test.YtkchalnohkfhbaaDoorZe
set_option linter.unusedVariables false
set_option maxRecDepth 100000
set_option maxHeartbeats 1000000000
namespace Go.Proofs.YtkchalnohkfhbaaDoor

/-- one great number, first: what is freed later stays with the process -/
theorem wide5 : Nat.beq (Nat.shiftRight (Nat.shiftLeft 1 260000000) 259999999) 2 = true := by kernel_rfl
theorem ok2_17 : OkB [115, 101, 101, 100, 32, 50] 4 2 := by
  refine okB_up ?_ (by as_aux_lemma => kernel_rfl)
  iterate 100 refine upC_step ?_ (by as_aux_lemma => kernel_rfl)
  exact upC_zero _
theorem ok2_18 : OkB [115, 101, 101, 100, 32, 50] 4 4 := by
  refine okB_up ?_ (by as_aux_lemma => kernel_rfl)
  iterate 100 refine upC_step ?_ (by as_aux_lemma => kernel_rfl)
  exact upC_zero _
theorem ok2_19 : OkB [115, 101, 101, 100, 32, 50] 4 5 := by
  refine okB_up ?_ (by as_aux_lemma => kernel_rfl)
  iterate 100 refine upC_step ?_ (by as_aux_lemma => kernel_rfl)
  exact upC_zero _
theorem ok2_20 : OkB [115, 101, 101, 100, 32, 50] 5 2 := by
  refine okB_up ?_ (by as_aux_lemma => kernel_rfl)
  iterate 100 refine upC_step ?_ (by as_aux_lemma => kernel_rfl)
  exact upC_zero _
theorem ok2_21 : OkB [115, 101, 101, 100, 32, 50] 5 3 := by
  refine okB_up ?_ (by as_aux_lemma => kernel_rfl)
  iterate 100 refine upC_step ?_ (by as_aux_lemma => kernel_rfl)
  exact upC_zero _
theorem ok2_22 : OkB [115, 101, 101, 100, 32, 50] 5 5 := by
  refine okB_up ?_ (by as_aux_lemma => kernel_rfl)
  iterate 100 refine upC_step ?_ (by as_aux_lemma => kernel_rfl)
  exact upC_zero _
theorem ok2_23 : OkB [115, 101, 101, 100, 32, 50] 5 6 := by
  refine okB_up ?_ (by as_aux_lemma => kernel_rfl)
  iterate 100 refine upC_step ?_ (by as_aux_lemma => kernel_rfl)
  exact upC_zero _
theorem ok2_24 : OkB [115, 101, 101, 100, 32, 50] 6 2 := by
  refine okB_up ?_ (by as_aux_lemma => kernel_rfl)
  iterate 100 refine upC_step ?_ (by as_aux_lemma => kernel_rfl)
  exact upC_zero _
theorem ok2_25 : OkB [115, 101, 101, 100, 32, 50] 6 3 := by
  refine okB_up ?_ (by as_aux_lemma => kernel_rfl)
  iterate 100 refine upC_step ?_ (by as_aux_lemma => kernel_rfl)
  exact upC_zero _
theorem ok2_26 : OkB [115, 101, 101, 100, 32, 50] 6 6 := by
  refine okB_up ?_ (by as_aux_lemma => kernel_rfl)
  iterate 100 refine upC_step ?_ (by as_aux_lemma => kernel_rfl)
  exact upC_zero _
theorem ok2_27 : OkB [115, 101, 101, 100, 32, 50] 7 2 := by
  refine okB_up ?_ (by as_aux_lemma => kernel_rfl)
  iterate 100 refine upC_step ?_ (by as_aux_lemma => kernel_rfl)
  exact upC_zero _
theorem ok2_28 : OkB [115, 101, 101, 100, 32, 50] 7 3 := by
  refine okB_up ?_ (by as_aux_lemma => kernel_rfl)
  iterate 100 refine upC_step ?_ (by as_aux_lemma => kernel_rfl)
  exact upC_zero _
theorem ok2_29 : OkB [115, 101, 101, 100, 32, 50] 8 2 := by
  refine okB_up ?_ (by as_aux_lemma => kernel_rfl)
  iterate 100 refine upC_step ?_ (by as_aux_lemma => kernel_rfl)
  exact upC_zero _
theorem ok2_30 : OkB [115, 101, 101, 100, 32, 50] 8 3 := by
  refine okB_up ?_ (by as_aux_lemma => kernel_rfl)
  iterate 100 refine upC_step ?_ (by as_aux_lemma => kernel_rfl)
  exact upC_zero _
theorem ok2_31 : OkB [115, 101, 101, 100, 32, 50] 9 2 := by
  refine okB_up ?_ (by as_aux_lemma => kernel_rfl)
  iterate 100 refine upC_step ?_ (by as_aux_lemma => kernel_rfl)
  exact upC_zero _
theorem ok2_32 : OkB [115, 101, 101, 100, 32, 50] 9 3 := by
  refine okB_up ?_ (by as_aux_lemma => kernel_rfl)
  iterate 100 refine upC_step ?_ (by as_aux_lemma => kernel_rfl)
  exact upC_zero _
theorem ok2_33 : OkB [115, 101, 101, 100, 32, 50] 10 2 := by
  refine okB_up ?_ (by as_aux_lemma => kernel_rfl)
  iterate 100 refine upC_step ?_ (by as_aux_lemma => kernel_rfl)
  exact upC_zero _
end Go.Proofs.YtkchalnohkfhbaaDoor
