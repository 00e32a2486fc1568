/- The checks of the batches of draws of bent splits, reckoned by the kernel: part 7 of 8. No condition; nothing of the program stands here but the specification of its words. -/
import Derived.Test.YtnionejefpnfoaaDoorZm
set_option linter.unusedVariables false
set_option maxRecDepth 100000
set_option maxHeartbeats 1000000000
namespace Go.Proofs.YtnionejefpnfoaaDoor

/-- one great number, first: what is freed later stays with the process -/
theorem wide6 : Nat.beq (Nat.shiftRight (Nat.shiftLeft 1 260000000) 259999999) 2 = true := by kernel_rfl
theorem w9_0 : AllB [0, 0, 0, 0, 0, 0, 0, 0, 0, 0, 0, 0, 0, 0, 0, 0, 0, 0, 0, 0, 0, 0, 0, 0, 0, 0, 0, 0, 0, 0, 0] 0 2 := by
  constructor
  · iterate 100 refine upto_step ?_ (by as_aux_lemma => kernel_rfl)
    exact upto_zero _
  iterate 4 as_aux_lemma => kernel_rfl
theorem w9_1 : AllB [0, 0, 0, 0, 0, 0, 0, 0, 0, 0, 0, 0, 0, 0, 0, 0, 0, 0, 0, 0, 0, 0, 0, 0, 0, 0, 0, 0, 0, 0, 0] 0 3 := by
  constructor
  · iterate 100 refine upto_step ?_ (by as_aux_lemma => kernel_rfl)
    exact upto_zero _
  iterate 4 as_aux_lemma => kernel_rfl
theorem w9_2 : AllB [0, 0, 0, 0, 0, 0, 0, 0, 0, 0, 0, 0, 0, 0, 0, 0, 0, 0, 0, 0, 0, 0, 0, 0, 0, 0, 0, 0, 0, 0, 0] 0 4 := by
  constructor
  · iterate 100 refine upto_step ?_ (by as_aux_lemma => kernel_rfl)
    exact upto_zero _
  iterate 4 as_aux_lemma => kernel_rfl
theorem w9_3 : AllB [0, 0, 0, 0, 0, 0, 0, 0, 0, 0, 0, 0, 0, 0, 0, 0, 0, 0, 0, 0, 0, 0, 0, 0, 0, 0, 0, 0, 0, 0, 0] 0 5 := by
  constructor
  · iterate 100 refine upto_step ?_ (by as_aux_lemma => kernel_rfl)
    exact upto_zero _
  iterate 4 as_aux_lemma => kernel_rfl
theorem w9_4 : AllB [0, 0, 0, 0, 0, 0, 0, 0, 0, 0, 0, 0, 0, 0, 0, 0, 0, 0, 0, 0, 0, 0, 0, 0, 0, 0, 0, 0, 0, 0, 0] 0 6 := by
  constructor
  · iterate 100 refine upto_step ?_ (by as_aux_lemma => kernel_rfl)
    exact upto_zero _
  iterate 4 as_aux_lemma => kernel_rfl
theorem w9_5 : AllB [0, 0, 0, 0, 0, 0, 0, 0, 0, 0, 0, 0, 0, 0, 0, 0, 0, 0, 0, 0, 0, 0, 0, 0, 0, 0, 0, 0, 0, 0, 0] 0 7 := by
  constructor
  · iterate 100 refine upto_step ?_ (by as_aux_lemma => kernel_rfl)
    exact upto_zero _
  iterate 4 as_aux_lemma => kernel_rfl
theorem w9_6 : AllB [0, 0, 0, 0, 0, 0, 0, 0, 0, 0, 0, 0, 0, 0, 0, 0, 0, 0, 0, 0, 0, 0, 0, 0, 0, 0, 0, 0, 0, 0, 0] 0 8 := by
  constructor
  · iterate 100 refine upto_step ?_ (by as_aux_lemma => kernel_rfl)
    exact upto_zero _
  iterate 4 as_aux_lemma => kernel_rfl
theorem w9_7 : AllB [0, 0, 0, 0, 0, 0, 0, 0, 0, 0, 0, 0, 0, 0, 0, 0, 0, 0, 0, 0, 0, 0, 0, 0, 0, 0, 0, 0, 0, 0, 0] 0 9 := by
  constructor
  · iterate 100 refine upto_step ?_ (by as_aux_lemma => kernel_rfl)
    exact upto_zero _
  iterate 4 as_aux_lemma => kernel_rfl
theorem w9_8 : AllB [0, 0, 0, 0, 0, 0, 0, 0, 0, 0, 0, 0, 0, 0, 0, 0, 0, 0, 0, 0, 0, 0, 0, 0, 0, 0, 0, 0, 0, 0, 0] 0 10 := by
  constructor
  · iterate 100 refine upto_step ?_ (by as_aux_lemma => kernel_rfl)
    exact upto_zero _
  iterate 4 as_aux_lemma => kernel_rfl
theorem w9_9 : AllB [0, 0, 0, 0, 0, 0, 0, 0, 0, 0, 0, 0, 0, 0, 0, 0, 0, 0, 0, 0, 0, 0, 0, 0, 0, 0, 0, 0, 0, 0, 0] 0 11 := by
  constructor
  · iterate 100 refine upto_step ?_ (by as_aux_lemma => kernel_rfl)
    exact upto_zero _
  iterate 4 as_aux_lemma => kernel_rfl
theorem w9_10 : AllB [0, 0, 0, 0, 0, 0, 0, 0, 0, 0, 0, 0, 0, 0, 0, 0, 0, 0, 0, 0, 0, 0, 0, 0, 0, 0, 0, 0, 0, 0, 0] 0 12 := by
  constructor
  · iterate 100 refine upto_step ?_ (by as_aux_lemma => kernel_rfl)
    exact upto_zero _
  iterate 4 as_aux_lemma => kernel_rfl
theorem w9_11 : AllB [0, 0, 0, 0, 0, 0, 0, 0, 0, 0, 0, 0, 0, 0, 0, 0, 0, 0, 0, 0, 0, 0, 0, 0, 0, 0, 0, 0, 0, 0, 0] 0 13 := by
  constructor
  · iterate 100 refine upto_step ?_ (by as_aux_lemma => kernel_rfl)
    exact upto_zero _
  iterate 4 as_aux_lemma => kernel_rfl
theorem w9_12 : AllB [0, 0, 0, 0, 0, 0, 0, 0, 0, 0, 0, 0, 0, 0, 0, 0, 0, 0, 0, 0, 0, 0, 0, 0, 0, 0, 0, 0, 0, 0, 0] 1 2 := by
  constructor
  · iterate 100 refine upto_step ?_ (by as_aux_lemma => kernel_rfl)
    exact upto_zero _
  iterate 4 as_aux_lemma => kernel_rfl
theorem w9_13 : AllB [0, 0, 0, 0, 0, 0, 0, 0, 0, 0, 0, 0, 0, 0, 0, 0, 0, 0, 0, 0, 0, 0, 0, 0, 0, 0, 0, 0, 0, 0, 0] 2 2 := by
  constructor
  · iterate 100 refine upto_step ?_ (by as_aux_lemma => kernel_rfl)
    exact upto_zero _
  iterate 4 as_aux_lemma => kernel_rfl
theorem w9_14 : AllB [0, 0, 0, 0, 0, 0, 0, 0, 0, 0, 0, 0, 0, 0, 0, 0, 0, 0, 0, 0, 0, 0, 0, 0, 0, 0, 0, 0, 0, 0, 0] 2 3 := by
  constructor
  · iterate 100 refine upto_step ?_ (by as_aux_lemma => kernel_rfl)
    exact upto_zero _
  iterate 4 as_aux_lemma => kernel_rfl
theorem w9_15 : AllB [0, 0, 0, 0, 0, 0, 0, 0, 0, 0, 0, 0, 0, 0, 0, 0, 0, 0, 0, 0, 0, 0, 0, 0, 0, 0, 0, 0, 0, 0, 0] 3 2 := by
  constructor
  · iterate 100 refine upto_step ?_ (by as_aux_lemma => kernel_rfl)
    exact upto_zero _
  iterate 4 as_aux_lemma => kernel_rfl
theorem w9_16 : AllB [0, 0, 0, 0, 0, 0, 0, 0, 0, 0, 0, 0, 0, 0, 0, 0, 0, 0, 0, 0, 0, 0, 0, 0, 0, 0, 0, 0, 0, 0, 0] 3 3 := by
  constructor
  · iterate 100 refine upto_step ?_ (by as_aux_lemma => kernel_rfl)
    exact upto_zero _
  iterate 4 as_aux_lemma => kernel_rfl
theorem w9_17 : AllB [0, 0, 0, 0, 0, 0, 0, 0, 0, 0, 0, 0, 0, 0, 0, 0, 0, 0, 0, 0, 0, 0, 0, 0, 0, 0, 0, 0, 0, 0, 0] 3 4 := by
  constructor
  · iterate 100 refine upto_step ?_ (by as_aux_lemma => kernel_rfl)
    exact upto_zero _
  iterate 4 as_aux_lemma => kernel_rfl
theorem w9_18 : AllB [0, 0, 0, 0, 0, 0, 0, 0, 0, 0, 0, 0, 0, 0, 0, 0, 0, 0, 0, 0, 0, 0, 0, 0, 0, 0, 0, 0, 0, 0, 0] 4 2 := by
  constructor
  · iterate 100 refine upto_step ?_ (by as_aux_lemma => kernel_rfl)
    exact upto_zero _
  iterate 4 as_aux_lemma => kernel_rfl
theorem w9_19 : AllB [0, 0, 0, 0, 0, 0, 0, 0, 0, 0, 0, 0, 0, 0, 0, 0, 0, 0, 0, 0, 0, 0, 0, 0, 0, 0, 0, 0, 0, 0, 0] 4 4 := by
  constructor
  · iterate 100 refine upto_step ?_ (by as_aux_lemma => kernel_rfl)
    exact upto_zero _
  iterate 4 as_aux_lemma => kernel_rfl
theorem w9_20 : AllB [0, 0, 0, 0, 0, 0, 0, 0, 0, 0, 0, 0, 0, 0, 0, 0, 0, 0, 0, 0, 0, 0, 0, 0, 0, 0, 0, 0, 0, 0, 0] 4 5 := by
  constructor
  · iterate 100 refine upto_step ?_ (by as_aux_lemma => kernel_rfl)
    exact upto_zero _
  iterate 4 as_aux_lemma => kernel_rfl
theorem w9_21 : AllB [0, 0, 0, 0, 0, 0, 0, 0, 0, 0, 0, 0, 0, 0, 0, 0, 0, 0, 0, 0, 0, 0, 0, 0, 0, 0, 0, 0, 0, 0, 0] 5 2 := by
  constructor
  · iterate 100 refine upto_step ?_ (by as_aux_lemma => kernel_rfl)
    exact upto_zero _
  iterate 4 as_aux_lemma => kernel_rfl
theorem w9_22 : AllB [0, 0, 0, 0, 0, 0, 0, 0, 0, 0, 0, 0, 0, 0, 0, 0, 0, 0, 0, 0, 0, 0, 0, 0, 0, 0, 0, 0, 0, 0, 0] 5 3 := by
  constructor
  · iterate 100 refine upto_step ?_ (by as_aux_lemma => kernel_rfl)
    exact upto_zero _
  iterate 4 as_aux_lemma => kernel_rfl
theorem w9_23 : AllB [0, 0, 0, 0, 0, 0, 0, 0, 0, 0, 0, 0, 0, 0, 0, 0, 0, 0, 0, 0, 0, 0, 0, 0, 0, 0, 0, 0, 0, 0, 0] 5 5 := by
  constructor
  · iterate 100 refine upto_step ?_ (by as_aux_lemma => kernel_rfl)
    exact upto_zero _
  iterate 4 as_aux_lemma => kernel_rfl
theorem w9_24 : AllB [0, 0, 0, 0, 0, 0, 0, 0, 0, 0, 0, 0, 0, 0, 0, 0, 0, 0, 0, 0, 0, 0, 0, 0, 0, 0, 0, 0, 0, 0, 0] 5 6 := by
  constructor
  · iterate 100 refine upto_step ?_ (by as_aux_lemma => kernel_rfl)
    exact upto_zero _
  iterate 4 as_aux_lemma => kernel_rfl
theorem w9_25 : AllB [0, 0, 0, 0, 0, 0, 0, 0, 0, 0, 0, 0, 0, 0, 0, 0, 0, 0, 0, 0, 0, 0, 0, 0, 0, 0, 0, 0, 0, 0, 0] 6 2 := by
  constructor
  · iterate 100 refine upto_step ?_ (by as_aux_lemma => kernel_rfl)
    exact upto_zero _
  iterate 4 as_aux_lemma => kernel_rfl
theorem w9_26 : AllB [0, 0, 0, 0, 0, 0, 0, 0, 0, 0, 0, 0, 0, 0, 0, 0, 0, 0, 0, 0, 0, 0, 0, 0, 0, 0, 0, 0, 0, 0, 0] 6 3 := by
  constructor
  · iterate 100 refine upto_step ?_ (by as_aux_lemma => kernel_rfl)
    exact upto_zero _
  iterate 4 as_aux_lemma => kernel_rfl
theorem w9_27 : AllB [0, 0, 0, 0, 0, 0, 0, 0, 0, 0, 0, 0, 0, 0, 0, 0, 0, 0, 0, 0, 0, 0, 0, 0, 0, 0, 0, 0, 0, 0, 0] 6 6 := by
  constructor
  · iterate 100 refine upto_step ?_ (by as_aux_lemma => kernel_rfl)
    exact upto_zero _
  iterate 4 as_aux_lemma => kernel_rfl
theorem w9_28 : AllB [0, 0, 0, 0, 0, 0, 0, 0, 0, 0, 0, 0, 0, 0, 0, 0, 0, 0, 0, 0, 0, 0, 0, 0, 0, 0, 0, 0, 0, 0, 0] 6 7 := by
  constructor
  · iterate 100 refine upto_step ?_ (by as_aux_lemma => kernel_rfl)
    exact upto_zero _
  iterate 4 as_aux_lemma => kernel_rfl
theorem w9_29 : AllB [0, 0, 0, 0, 0, 0, 0, 0, 0, 0, 0, 0, 0, 0, 0, 0, 0, 0, 0, 0, 0, 0, 0, 0, 0, 0, 0, 0, 0, 0, 0] 7 2 := by
  constructor
  · iterate 100 refine upto_step ?_ (by as_aux_lemma => kernel_rfl)
    exact upto_zero _
  iterate 4 as_aux_lemma => kernel_rfl
theorem w9_30 : AllB [0, 0, 0, 0, 0, 0, 0, 0, 0, 0, 0, 0, 0, 0, 0, 0, 0, 0, 0, 0, 0, 0, 0, 0, 0, 0, 0, 0, 0, 0, 0] 7 3 := by
  constructor
  · iterate 100 refine upto_step ?_ (by as_aux_lemma => kernel_rfl)
    exact upto_zero _
  iterate 4 as_aux_lemma => kernel_rfl
theorem w9_31 : AllB [0, 0, 0, 0, 0, 0, 0, 0, 0, 0, 0, 0, 0, 0, 0, 0, 0, 0, 0, 0, 0, 0, 0, 0, 0, 0, 0, 0, 0, 0, 0] 8 2 := by
  constructor
  · iterate 100 refine upto_step ?_ (by as_aux_lemma => kernel_rfl)
    exact upto_zero _
  iterate 4 as_aux_lemma => kernel_rfl
theorem w9_32 : AllB [0, 0, 0, 0, 0, 0, 0, 0, 0, 0, 0, 0, 0, 0, 0, 0, 0, 0, 0, 0, 0, 0, 0, 0, 0, 0, 0, 0, 0, 0, 0] 8 3 := by
  constructor
  · iterate 100 refine upto_step ?_ (by as_aux_lemma => kernel_rfl)
    exact upto_zero _
  iterate 4 as_aux_lemma => kernel_rfl
theorem w9_33 : AllB [0, 0, 0, 0, 0, 0, 0, 0, 0, 0, 0, 0, 0, 0, 0, 0, 0, 0, 0, 0, 0, 0, 0, 0, 0, 0, 0, 0, 0, 0, 0] 9 2 := by
  constructor
  · iterate 100 refine upto_step ?_ (by as_aux_lemma => kernel_rfl)
    exact upto_zero _
  iterate 4 as_aux_lemma => kernel_rfl
theorem w9_34 : AllB [0, 0, 0, 0, 0, 0, 0, 0, 0, 0, 0, 0, 0, 0, 0, 0, 0, 0, 0, 0, 0, 0, 0, 0, 0, 0, 0, 0, 0, 0, 0] 9 3 := by
  constructor
  · iterate 100 refine upto_step ?_ (by as_aux_lemma => kernel_rfl)
    exact upto_zero _
  iterate 4 as_aux_lemma => kernel_rfl
theorem w9_35 : AllB [0, 0, 0, 0, 0, 0, 0, 0, 0, 0, 0, 0, 0, 0, 0, 0, 0, 0, 0, 0, 0, 0, 0, 0, 0, 0, 0, 0, 0, 0, 0] 9 4 := by
  constructor
  · iterate 100 refine upto_step ?_ (by as_aux_lemma => kernel_rfl)
    exact upto_zero _
  iterate 4 as_aux_lemma => kernel_rfl
theorem w9_36 : AllB [0, 0, 0, 0, 0, 0, 0, 0, 0, 0, 0, 0, 0, 0, 0, 0, 0, 0, 0, 0, 0, 0, 0, 0, 0, 0, 0, 0, 0, 0, 0] 10 2 := by
  constructor
  · iterate 100 refine upto_step ?_ (by as_aux_lemma => kernel_rfl)
    exact upto_zero _
  iterate 4 as_aux_lemma => kernel_rfl
theorem w9_37 : AllB [0, 0, 0, 0, 0, 0, 0, 0, 0, 0, 0, 0, 0, 0, 0, 0, 0, 0, 0, 0, 0, 0, 0, 0, 0, 0, 0, 0, 0, 0, 0] 11 2 := by
  constructor
  · iterate 100 refine upto_step ?_ (by as_aux_lemma => kernel_rfl)
    exact upto_zero _
  iterate 4 as_aux_lemma => kernel_rfl
theorem w10_0 : AllB [0, 0, 0, 0, 0, 0, 0, 0, 0, 0, 0, 0, 0, 0, 0, 0, 0, 0, 0, 0, 0, 0, 0, 0, 0, 0, 0, 0, 0, 0, 0, 0] 0 2 := by
  constructor
  · iterate 100 refine upto_step ?_ (by as_aux_lemma => kernel_rfl)
    exact upto_zero _
  iterate 4 as_aux_lemma => kernel_rfl
theorem w10_1 : AllB [0, 0, 0, 0, 0, 0, 0, 0, 0, 0, 0, 0, 0, 0, 0, 0, 0, 0, 0, 0, 0, 0, 0, 0, 0, 0, 0, 0, 0, 0, 0, 0] 0 3 := by
  constructor
  · iterate 100 refine upto_step ?_ (by as_aux_lemma => kernel_rfl)
    exact upto_zero _
  iterate 4 as_aux_lemma => kernel_rfl
theorem w10_2 : AllB [0, 0, 0, 0, 0, 0, 0, 0, 0, 0, 0, 0, 0, 0, 0, 0, 0, 0, 0, 0, 0, 0, 0, 0, 0, 0, 0, 0, 0, 0, 0, 0] 0 4 := by
  constructor
  · iterate 100 refine upto_step ?_ (by as_aux_lemma => kernel_rfl)
    exact upto_zero _
  iterate 4 as_aux_lemma => kernel_rfl
theorem w10_3 : AllB [0, 0, 0, 0, 0, 0, 0, 0, 0, 0, 0, 0, 0, 0, 0, 0, 0, 0, 0, 0, 0, 0, 0, 0, 0, 0, 0, 0, 0, 0, 0, 0] 0 5 := by
  constructor
  · iterate 100 refine upto_step ?_ (by as_aux_lemma => kernel_rfl)
    exact upto_zero _
  iterate 4 as_aux_lemma => kernel_rfl
theorem w10_4 : AllB [0, 0, 0, 0, 0, 0, 0, 0, 0, 0, 0, 0, 0, 0, 0, 0, 0, 0, 0, 0, 0, 0, 0, 0, 0, 0, 0, 0, 0, 0, 0, 0] 0 6 := by
  constructor
  · iterate 100 refine upto_step ?_ (by as_aux_lemma => kernel_rfl)
    exact upto_zero _
  iterate 4 as_aux_lemma => kernel_rfl
theorem w10_5 : AllB [0, 0, 0, 0, 0, 0, 0, 0, 0, 0, 0, 0, 0, 0, 0, 0, 0, 0, 0, 0, 0, 0, 0, 0, 0, 0, 0, 0, 0, 0, 0, 0] 0 7 := by
  constructor
  · iterate 100 refine upto_step ?_ (by as_aux_lemma => kernel_rfl)
    exact upto_zero _
  iterate 4 as_aux_lemma => kernel_rfl
theorem w10_6 : AllB [0, 0, 0, 0, 0, 0, 0, 0, 0, 0, 0, 0, 0, 0, 0, 0, 0, 0, 0, 0, 0, 0, 0, 0, 0, 0, 0, 0, 0, 0, 0, 0] 0 8 := by
  constructor
  · iterate 100 refine upto_step ?_ (by as_aux_lemma => kernel_rfl)
    exact upto_zero _
  iterate 4 as_aux_lemma => kernel_rfl
theorem w10_7 : AllB [0, 0, 0, 0, 0, 0, 0, 0, 0, 0, 0, 0, 0, 0, 0, 0, 0, 0, 0, 0, 0, 0, 0, 0, 0, 0, 0, 0, 0, 0, 0, 0] 0 9 := by
  constructor
  · iterate 100 refine upto_step ?_ (by as_aux_lemma => kernel_rfl)
    exact upto_zero _
  iterate 4 as_aux_lemma => kernel_rfl
theorem w10_8 : AllB [0, 0, 0, 0, 0, 0, 0, 0, 0, 0, 0, 0, 0, 0, 0, 0, 0, 0, 0, 0, 0, 0, 0, 0, 0, 0, 0, 0, 0, 0, 0, 0] 0 10 := by
  constructor
  · iterate 100 refine upto_step ?_ (by as_aux_lemma => kernel_rfl)
    exact upto_zero _
  iterate 4 as_aux_lemma => kernel_rfl
theorem w10_9 : AllB [0, 0, 0, 0, 0, 0, 0, 0, 0, 0, 0, 0, 0, 0, 0, 0, 0, 0, 0, 0, 0, 0, 0, 0, 0, 0, 0, 0, 0, 0, 0, 0] 0 11 := by
  constructor
  · iterate 100 refine upto_step ?_ (by as_aux_lemma => kernel_rfl)
    exact upto_zero _
  iterate 4 as_aux_lemma => kernel_rfl
theorem w10_10 : AllB [0, 0, 0, 0, 0, 0, 0, 0, 0, 0, 0, 0, 0, 0, 0, 0, 0, 0, 0, 0, 0, 0, 0, 0, 0, 0, 0, 0, 0, 0, 0, 0] 0 12 := by
  constructor
  · iterate 100 refine upto_step ?_ (by as_aux_lemma => kernel_rfl)
    exact upto_zero _
  iterate 4 as_aux_lemma => kernel_rfl
theorem w10_11 : AllB [0, 0, 0, 0, 0, 0, 0, 0, 0, 0, 0, 0, 0, 0, 0, 0, 0, 0, 0, 0, 0, 0, 0, 0, 0, 0, 0, 0, 0, 0, 0, 0] 0 13 := by
  constructor
  · iterate 100 refine upto_step ?_ (by as_aux_lemma => kernel_rfl)
    exact upto_zero _
  iterate 4 as_aux_lemma => kernel_rfl
theorem w10_12 : AllB [0, 0, 0, 0, 0, 0, 0, 0, 0, 0, 0, 0, 0, 0, 0, 0, 0, 0, 0, 0, 0, 0, 0, 0, 0, 0, 0, 0, 0, 0, 0, 0] 1 2 := by
  constructor
  · iterate 100 refine upto_step ?_ (by as_aux_lemma => kernel_rfl)
    exact upto_zero _
  iterate 4 as_aux_lemma => kernel_rfl
theorem w10_13 : AllB [0, 0, 0, 0, 0, 0, 0, 0, 0, 0, 0, 0, 0, 0, 0, 0, 0, 0, 0, 0, 0, 0, 0, 0, 0, 0, 0, 0, 0, 0, 0, 0] 2 2 := by
  constructor
  · iterate 100 refine upto_step ?_ (by as_aux_lemma => kernel_rfl)
    exact upto_zero _
  iterate 4 as_aux_lemma => kernel_rfl
theorem w10_14 : AllB [0, 0, 0, 0, 0, 0, 0, 0, 0, 0, 0, 0, 0, 0, 0, 0, 0, 0, 0, 0, 0, 0, 0, 0, 0, 0, 0, 0, 0, 0, 0, 0] 2 3 := by
  constructor
  · iterate 100 refine upto_step ?_ (by as_aux_lemma => kernel_rfl)
    exact upto_zero _
  iterate 4 as_aux_lemma => kernel_rfl
theorem w10_15 : AllB [0, 0, 0, 0, 0, 0, 0, 0, 0, 0, 0, 0, 0, 0, 0, 0, 0, 0, 0, 0, 0, 0, 0, 0, 0, 0, 0, 0, 0, 0, 0, 0] 3 2 := by
  constructor
  · iterate 100 refine upto_step ?_ (by as_aux_lemma => kernel_rfl)
    exact upto_zero _
  iterate 4 as_aux_lemma => kernel_rfl
theorem w10_16 : AllB [0, 0, 0, 0, 0, 0, 0, 0, 0, 0, 0, 0, 0, 0, 0, 0, 0, 0, 0, 0, 0, 0, 0, 0, 0, 0, 0, 0, 0, 0, 0, 0] 3 3 := by
  constructor
  · iterate 100 refine upto_step ?_ (by as_aux_lemma => kernel_rfl)
    exact upto_zero _
  iterate 4 as_aux_lemma => kernel_rfl
theorem w10_17 : AllB [0, 0, 0, 0, 0, 0, 0, 0, 0, 0, 0, 0, 0, 0, 0, 0, 0, 0, 0, 0, 0, 0, 0, 0, 0, 0, 0, 0, 0, 0, 0, 0] 3 4 := by
  constructor
  · iterate 100 refine upto_step ?_ (by as_aux_lemma => kernel_rfl)
    exact upto_zero _
  iterate 4 as_aux_lemma => kernel_rfl
theorem w10_18 : AllB [0, 0, 0, 0, 0, 0, 0, 0, 0, 0, 0, 0, 0, 0, 0, 0, 0, 0, 0, 0, 0, 0, 0, 0, 0, 0, 0, 0, 0, 0, 0, 0] 4 2 := by
  constructor
  · iterate 100 refine upto_step ?_ (by as_aux_lemma => kernel_rfl)
    exact upto_zero _
  iterate 4 as_aux_lemma => kernel_rfl
end Go.Proofs.YtnionejefpnfoaaDoor
