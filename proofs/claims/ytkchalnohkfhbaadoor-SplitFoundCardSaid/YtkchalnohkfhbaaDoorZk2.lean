/- The checks of the batches of draws, reckoned by the kernel: part 3 of 6. No condition; nothing of the program stands here but the specification of its words. -/
import Derived.Test.YtkchalnohkfhbaaDoorZe
set_option linter.unusedVariables false
set_option maxRecDepth 100000
set_option maxHeartbeats 1000000000
namespace Go.Proofs.YtkchalnohkfhbaaDoor

/-- one great number, first: what is freed later stays with the process -/
theorem wide2 : Nat.beq (Nat.shiftRight (Nat.shiftLeft 1 260000000) 259999999) 2 = true := by kernel_rfl
theorem ok1_0 : OkB [115] 0 2 := by
  refine okB_up ?_ (by as_aux_lemma => kernel_rfl)
  iterate 100 refine upC_step ?_ (by as_aux_lemma => kernel_rfl)
  exact upC_zero _
theorem ok1_1 : OkB [115] 0 3 := by
  refine okB_up ?_ (by as_aux_lemma => kernel_rfl)
  iterate 100 refine upC_step ?_ (by as_aux_lemma => kernel_rfl)
  exact upC_zero _
theorem ok1_2 : OkB [115] 0 4 := by
  refine okB_up ?_ (by as_aux_lemma => kernel_rfl)
  iterate 100 refine upC_step ?_ (by as_aux_lemma => kernel_rfl)
  exact upC_zero _
theorem ok1_3 : OkB [115] 0 5 := by
  refine okB_up ?_ (by as_aux_lemma => kernel_rfl)
  iterate 100 refine upC_step ?_ (by as_aux_lemma => kernel_rfl)
  exact upC_zero _
theorem ok1_4 : OkB [115] 0 6 := by
  refine okB_up ?_ (by as_aux_lemma => kernel_rfl)
  iterate 100 refine upC_step ?_ (by as_aux_lemma => kernel_rfl)
  exact upC_zero _
theorem ok1_5 : OkB [115] 0 7 := by
  refine okB_up ?_ (by as_aux_lemma => kernel_rfl)
  iterate 100 refine upC_step ?_ (by as_aux_lemma => kernel_rfl)
  exact upC_zero _
theorem ok1_6 : OkB [115] 0 8 := by
  refine okB_up ?_ (by as_aux_lemma => kernel_rfl)
  iterate 100 refine upC_step ?_ (by as_aux_lemma => kernel_rfl)
  exact upC_zero _
theorem ok1_7 : OkB [115] 0 9 := by
  refine okB_up ?_ (by as_aux_lemma => kernel_rfl)
  iterate 100 refine upC_step ?_ (by as_aux_lemma => kernel_rfl)
  exact upC_zero _
theorem ok1_8 : OkB [115] 0 10 := by
  refine okB_up ?_ (by as_aux_lemma => kernel_rfl)
  iterate 100 refine upC_step ?_ (by as_aux_lemma => kernel_rfl)
  exact upC_zero _
theorem ok1_9 : OkB [115] 0 11 := by
  refine okB_up ?_ (by as_aux_lemma => kernel_rfl)
  iterate 100 refine upC_step ?_ (by as_aux_lemma => kernel_rfl)
  exact upC_zero _
theorem ok1_10 : OkB [115] 0 12 := by
  refine okB_up ?_ (by as_aux_lemma => kernel_rfl)
  iterate 100 refine upC_step ?_ (by as_aux_lemma => kernel_rfl)
  exact upC_zero _
theorem ok1_11 : OkB [115] 1 2 := by
  refine okB_up ?_ (by as_aux_lemma => kernel_rfl)
  iterate 100 refine upC_step ?_ (by as_aux_lemma => kernel_rfl)
  exact upC_zero _
theorem ok1_12 : OkB [115] 2 2 := by
  refine okB_up ?_ (by as_aux_lemma => kernel_rfl)
  iterate 100 refine upC_step ?_ (by as_aux_lemma => kernel_rfl)
  exact upC_zero _
theorem ok1_13 : OkB [115] 2 3 := by
  refine okB_up ?_ (by as_aux_lemma => kernel_rfl)
  iterate 100 refine upC_step ?_ (by as_aux_lemma => kernel_rfl)
  exact upC_zero _
theorem ok1_14 : OkB [115] 3 2 := by
  refine okB_up ?_ (by as_aux_lemma => kernel_rfl)
  iterate 100 refine upC_step ?_ (by as_aux_lemma => kernel_rfl)
  exact upC_zero _
theorem ok1_15 : OkB [115] 3 3 := by
  refine okB_up ?_ (by as_aux_lemma => kernel_rfl)
  iterate 100 refine upC_step ?_ (by as_aux_lemma => kernel_rfl)
  exact upC_zero _
theorem ok1_16 : OkB [115] 3 4 := by
  refine okB_up ?_ (by as_aux_lemma => kernel_rfl)
  iterate 100 refine upC_step ?_ (by as_aux_lemma => kernel_rfl)
  exact upC_zero _
end Go.Proofs.YtkchalnohkfhbaaDoor
