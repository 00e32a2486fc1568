/- The checks of the batches of draws, reckoned by the kernel: part 1 of 6. No condition; nothing of the program stands here but the specification of its words. -/
import Derived.Test.YtkchalnohkfhbaaDoorZe
set_option linter.unusedVariables false
set_option maxRecDepth 100000
set_option maxHeartbeats 1000000000
namespace Go.Proofs.YtkchalnohkfhbaaDoor

/-- one great number, first: what is freed later stays with the process -/
theorem wide0 : Nat.beq (Nat.shiftRight (Nat.shiftLeft 1 260000000) 259999999) 2 = true := by kernel_rfl
theorem ok0_0 : OkB [] 0 2 := by
  refine okB_up ?_ (by as_aux_lemma => kernel_rfl)
  iterate 100 refine upC_step ?_ (by as_aux_lemma => kernel_rfl)
  exact upC_zero _
theorem ok0_1 : OkB [] 0 3 := by
  refine okB_up ?_ (by as_aux_lemma => kernel_rfl)
  iterate 100 refine upC_step ?_ (by as_aux_lemma => kernel_rfl)
  exact upC_zero _
theorem ok0_2 : OkB [] 0 4 := by
  refine okB_up ?_ (by as_aux_lemma => kernel_rfl)
  iterate 100 refine upC_step ?_ (by as_aux_lemma => kernel_rfl)
  exact upC_zero _
theorem ok0_3 : OkB [] 0 5 := by
  refine okB_up ?_ (by as_aux_lemma => kernel_rfl)
  iterate 100 refine upC_step ?_ (by as_aux_lemma => kernel_rfl)
  exact upC_zero _
theorem ok0_4 : OkB [] 0 6 := by
  refine okB_up ?_ (by as_aux_lemma => kernel_rfl)
  iterate 100 refine upC_step ?_ (by as_aux_lemma => kernel_rfl)
  exact upC_zero _
theorem ok0_5 : OkB [] 0 7 := by
  refine okB_up ?_ (by as_aux_lemma => kernel_rfl)
  iterate 100 refine upC_step ?_ (by as_aux_lemma => kernel_rfl)
  exact upC_zero _
theorem ok0_6 : OkB [] 0 8 := by
  refine okB_up ?_ (by as_aux_lemma => kernel_rfl)
  iterate 100 refine upC_step ?_ (by as_aux_lemma => kernel_rfl)
  exact upC_zero _
theorem ok0_7 : OkB [] 0 9 := by
  refine okB_up ?_ (by as_aux_lemma => kernel_rfl)
  iterate 100 refine upC_step ?_ (by as_aux_lemma => kernel_rfl)
  exact upC_zero _
theorem ok0_8 : OkB [] 0 10 := by
  refine okB_up ?_ (by as_aux_lemma => kernel_rfl)
  iterate 100 refine upC_step ?_ (by as_aux_lemma => kernel_rfl)
  exact upC_zero _
theorem ok0_9 : OkB [] 0 11 := by
  refine okB_up ?_ (by as_aux_lemma => kernel_rfl)
  iterate 100 refine upC_step ?_ (by as_aux_lemma => kernel_rfl)
  exact upC_zero _
theorem ok0_10 : OkB [] 0 12 := by
  refine okB_up ?_ (by as_aux_lemma => kernel_rfl)
  iterate 100 refine upC_step ?_ (by as_aux_lemma => kernel_rfl)
  exact upC_zero _
theorem ok0_11 : OkB [] 1 2 := by
  refine okB_up ?_ (by as_aux_lemma => kernel_rfl)
  iterate 100 refine upC_step ?_ (by as_aux_lemma => kernel_rfl)
  exact upC_zero _
theorem ok0_12 : OkB [] 2 2 := by
  refine okB_up ?_ (by as_aux_lemma => kernel_rfl)
  iterate 100 refine upC_step ?_ (by as_aux_lemma => kernel_rfl)
  exact upC_zero _
theorem ok0_13 : OkB [] 2 3 := by
  refine okB_up ?_ (by as_aux_lemma => kernel_rfl)
  iterate 100 refine upC_step ?_ (by as_aux_lemma => kernel_rfl)
  exact upC_zero _
theorem ok0_14 : OkB [] 3 2 := by
  refine okB_up ?_ (by as_aux_lemma => kernel_rfl)
  iterate 100 refine upC_step ?_ (by as_aux_lemma => kernel_rfl)
  exact upC_zero _
theorem ok0_15 : OkB [] 3 3 := by
  refine okB_up ?_ (by as_aux_lemma => kernel_rfl)
  iterate 100 refine upC_step ?_ (by as_aux_lemma => kernel_rfl)
  exact upC_zero _
theorem ok0_16 : OkB [] 3 4 := by
  refine okB_up ?_ (by as_aux_lemma => kernel_rfl)
  iterate 100 refine upC_step ?_ (by as_aux_lemma => kernel_rfl)
  exact upC_zero _
end Go.Proofs.YtkchalnohkfhbaaDoor
