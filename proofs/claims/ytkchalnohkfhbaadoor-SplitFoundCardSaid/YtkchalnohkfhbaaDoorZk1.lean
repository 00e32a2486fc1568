/- The checks of the batches of draws, reckoned by the kernel: part 2 of 6. No condition; nothing of the program stands here but the specification of its words. -/
import Derived.Test.YtkchalnohkfhbaaDoorZe
set_option linter.unusedVariables false
set_option maxRecDepth 100000
set_option maxHeartbeats 1000000000
namespace Go.Proofs.YtkchalnohkfhbaaDoor

/-- one great number, first: what is freed later stays with the process -/
theorem wide1 : Nat.beq (Nat.shiftRight (Nat.shiftLeft 1 260000000) 259999999) 2 = true := by kernel_rfl
theorem ok0_17 : OkB [] 4 2 := by
  refine okB_up ?_ (by as_aux_lemma => kernel_rfl)
  iterate 100 refine upC_step ?_ (by as_aux_lemma => kernel_rfl)
  exact upC_zero _
theorem ok0_18 : OkB [] 4 4 := by
  refine okB_up ?_ (by as_aux_lemma => kernel_rfl)
  iterate 100 refine upC_step ?_ (by as_aux_lemma => kernel_rfl)
  exact upC_zero _
theorem ok0_19 : OkB [] 4 5 := by
  refine okB_up ?_ (by as_aux_lemma => kernel_rfl)
  iterate 100 refine upC_step ?_ (by as_aux_lemma => kernel_rfl)
  exact upC_zero _
theorem ok0_20 : OkB [] 5 2 := by
  refine okB_up ?_ (by as_aux_lemma => kernel_rfl)
  iterate 100 refine upC_step ?_ (by as_aux_lemma => kernel_rfl)
  exact upC_zero _
theorem ok0_21 : OkB [] 5 3 := by
  refine okB_up ?_ (by as_aux_lemma => kernel_rfl)
  iterate 100 refine upC_step ?_ (by as_aux_lemma => kernel_rfl)
  exact upC_zero _
theorem ok0_22 : OkB [] 5 5 := by
  refine okB_up ?_ (by as_aux_lemma => kernel_rfl)
  iterate 100 refine upC_step ?_ (by as_aux_lemma => kernel_rfl)
  exact upC_zero _
theorem ok0_23 : OkB [] 5 6 := by
  refine okB_up ?_ (by as_aux_lemma => kernel_rfl)
  iterate 100 refine upC_step ?_ (by as_aux_lemma => kernel_rfl)
  exact upC_zero _
theorem ok0_24 : OkB [] 6 2 := by
  refine okB_up ?_ (by as_aux_lemma => kernel_rfl)
  iterate 100 refine upC_step ?_ (by as_aux_lemma => kernel_rfl)
  exact upC_zero _
theorem ok0_25 : OkB [] 6 3 := by
  refine okB_up ?_ (by as_aux_lemma => kernel_rfl)
  iterate 100 refine upC_step ?_ (by as_aux_lemma => kernel_rfl)
  exact upC_zero _
theorem ok0_26 : OkB [] 6 6 := by
  refine okB_up ?_ (by as_aux_lemma => kernel_rfl)
  iterate 100 refine upC_step ?_ (by as_aux_lemma => kernel_rfl)
  exact upC_zero _
theorem ok0_27 : OkB [] 7 2 := by
  refine okB_up ?_ (by as_aux_lemma => kernel_rfl)
  iterate 100 refine upC_step ?_ (by as_aux_lemma => kernel_rfl)
  exact upC_zero _
theorem ok0_28 : OkB [] 7 3 := by
  refine okB_up ?_ (by as_aux_lemma => kernel_rfl)
  iterate 100 refine upC_step ?_ (by as_aux_lemma => kernel_rfl)
  exact upC_zero _
theorem ok0_29 : OkB [] 8 2 := by
  refine okB_up ?_ (by as_aux_lemma => kernel_rfl)
  iterate 100 refine upC_step ?_ (by as_aux_lemma => kernel_rfl)
  exact upC_zero _
theorem ok0_30 : OkB [] 8 3 := by
  refine okB_up ?_ (by as_aux_lemma => kernel_rfl)
  iterate 100 refine upC_step ?_ (by as_aux_lemma => kernel_rfl)
  exact upC_zero _
theorem ok0_31 : OkB [] 9 2 := by
  refine okB_up ?_ (by as_aux_lemma => kernel_rfl)
  iterate 100 refine upC_step ?_ (by as_aux_lemma => kernel_rfl)
  exact upC_zero _
theorem ok0_32 : OkB [] 9 3 := by
  refine okB_up ?_ (by as_aux_lemma => kernel_rfl)
  iterate 100 refine upC_step ?_ (by as_aux_lemma => kernel_rfl)
  exact upC_zero _
theorem ok0_33 : OkB [] 10 2 := by
  refine okB_up ?_ (by as_aux_lemma => kernel_rfl)
  iterate 100 refine upC_step ?_ (by as_aux_lemma => kernel_rfl)
  exact upC_zero _
end Go.Proofs.YtkchalnohkfhbaaDoor
