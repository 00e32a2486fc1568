/- The checks of the batches of draws of bent splits, reckoned by the kernel: part 8 of 8. No condition; nothing of the program stands here but the specification of its words. -/
import Derived.Test.YtnionejefpnfoaaDoorZm
set_option linter.unusedVariables false
set_option maxRecDepth 100000
set_option maxHeartbeats 1000000000
namespace Go.Proofs.YtnionejefpnfoaaDoor

/-- one great number, first: what is freed later stays with the process -/
theorem wide7 : Nat.beq (Nat.shiftRight (Nat.shiftLeft 1 260000000) 259999999) 2 = true := by kernel_rfl
theorem w10_19 : AllB [0, 0, 0, 0, 0, 0, 0, 0, 0, 0, 0, 0, 0, 0, 0, 0, 0, 0, 0, 0, 0, 0, 0, 0, 0, 0, 0, 0, 0, 0, 0, 0] 4 4 := by
  constructor
  · iterate 100 refine upto_step ?_ (by as_aux_lemma => kernel_rfl)
    exact upto_zero _
  iterate 4 as_aux_lemma => kernel_rfl
theorem w10_20 : AllB [0, 0, 0, 0, 0, 0, 0, 0, 0, 0, 0, 0, 0, 0, 0, 0, 0, 0, 0, 0, 0, 0, 0, 0, 0, 0, 0, 0, 0, 0, 0, 0] 4 5 := by
  constructor
  · iterate 100 refine upto_step ?_ (by as_aux_lemma => kernel_rfl)
    exact upto_zero _
  iterate 4 as_aux_lemma => kernel_rfl
theorem w10_21 : AllB [0, 0, 0, 0, 0, 0, 0, 0, 0, 0, 0, 0, 0, 0, 0, 0, 0, 0, 0, 0, 0, 0, 0, 0, 0, 0, 0, 0, 0, 0, 0, 0] 5 2 := by
  constructor
  · iterate 100 refine upto_step ?_ (by as_aux_lemma => kernel_rfl)
    exact upto_zero _
  iterate 4 as_aux_lemma => kernel_rfl
theorem w10_22 : AllB [0, 0, 0, 0, 0, 0, 0, 0, 0, 0, 0, 0, 0, 0, 0, 0, 0, 0, 0, 0, 0, 0, 0, 0, 0, 0, 0, 0, 0, 0, 0, 0] 5 3 := by
  constructor
  · iterate 100 refine upto_step ?_ (by as_aux_lemma => kernel_rfl)
    exact upto_zero _
  iterate 4 as_aux_lemma => kernel_rfl
theorem w10_23 : AllB [0, 0, 0, 0, 0, 0, 0, 0, 0, 0, 0, 0, 0, 0, 0, 0, 0, 0, 0, 0, 0, 0, 0, 0, 0, 0, 0, 0, 0, 0, 0, 0] 5 5 := by
  constructor
  · iterate 100 refine upto_step ?_ (by as_aux_lemma => kernel_rfl)
    exact upto_zero _
  iterate 4 as_aux_lemma => kernel_rfl
theorem w10_24 : AllB [0, 0, 0, 0, 0, 0, 0, 0, 0, 0, 0, 0, 0, 0, 0, 0, 0, 0, 0, 0, 0, 0, 0, 0, 0, 0, 0, 0, 0, 0, 0, 0] 5 6 := by
  constructor
  · iterate 100 refine upto_step ?_ (by as_aux_lemma => kernel_rfl)
    exact upto_zero _
  iterate 4 as_aux_lemma => kernel_rfl
theorem w10_25 : AllB [0, 0, 0, 0, 0, 0, 0, 0, 0, 0, 0, 0, 0, 0, 0, 0, 0, 0, 0, 0, 0, 0, 0, 0, 0, 0, 0, 0, 0, 0, 0, 0] 6 2 := by
  constructor
  · iterate 100 refine upto_step ?_ (by as_aux_lemma => kernel_rfl)
    exact upto_zero _
  iterate 4 as_aux_lemma => kernel_rfl
theorem w10_26 : AllB [0, 0, 0, 0, 0, 0, 0, 0, 0, 0, 0, 0, 0, 0, 0, 0, 0, 0, 0, 0, 0, 0, 0, 0, 0, 0, 0, 0, 0, 0, 0, 0] 6 3 := by
  constructor
  · iterate 100 refine upto_step ?_ (by as_aux_lemma => kernel_rfl)
    exact upto_zero _
  iterate 4 as_aux_lemma => kernel_rfl
theorem w10_27 : AllB [0, 0, 0, 0, 0, 0, 0, 0, 0, 0, 0, 0, 0, 0, 0, 0, 0, 0, 0, 0, 0, 0, 0, 0, 0, 0, 0, 0, 0, 0, 0, 0] 6 6 := by
  constructor
  · iterate 100 refine upto_step ?_ (by as_aux_lemma => kernel_rfl)
    exact upto_zero _
  iterate 4 as_aux_lemma => kernel_rfl
theorem w10_28 : AllB [0, 0, 0, 0, 0, 0, 0, 0, 0, 0, 0, 0, 0, 0, 0, 0, 0, 0, 0, 0, 0, 0, 0, 0, 0, 0, 0, 0, 0, 0, 0, 0] 6 7 := by
  constructor
  · iterate 100 refine upto_step ?_ (by as_aux_lemma => kernel_rfl)
    exact upto_zero _
  iterate 4 as_aux_lemma => kernel_rfl
theorem w10_29 : AllB [0, 0, 0, 0, 0, 0, 0, 0, 0, 0, 0, 0, 0, 0, 0, 0, 0, 0, 0, 0, 0, 0, 0, 0, 0, 0, 0, 0, 0, 0, 0, 0] 7 2 := by
  constructor
  · iterate 100 refine upto_step ?_ (by as_aux_lemma => kernel_rfl)
    exact upto_zero _
  iterate 4 as_aux_lemma => kernel_rfl
theorem w10_30 : AllB [0, 0, 0, 0, 0, 0, 0, 0, 0, 0, 0, 0, 0, 0, 0, 0, 0, 0, 0, 0, 0, 0, 0, 0, 0, 0, 0, 0, 0, 0, 0, 0] 7 3 := by
  constructor
  · iterate 100 refine upto_step ?_ (by as_aux_lemma => kernel_rfl)
    exact upto_zero _
  iterate 4 as_aux_lemma => kernel_rfl
theorem w10_31 : AllB [0, 0, 0, 0, 0, 0, 0, 0, 0, 0, 0, 0, 0, 0, 0, 0, 0, 0, 0, 0, 0, 0, 0, 0, 0, 0, 0, 0, 0, 0, 0, 0] 8 2 := by
  constructor
  · iterate 100 refine upto_step ?_ (by as_aux_lemma => kernel_rfl)
    exact upto_zero _
  iterate 4 as_aux_lemma => kernel_rfl
theorem w10_32 : AllB [0, 0, 0, 0, 0, 0, 0, 0, 0, 0, 0, 0, 0, 0, 0, 0, 0, 0, 0, 0, 0, 0, 0, 0, 0, 0, 0, 0, 0, 0, 0, 0] 8 3 := by
  constructor
  · iterate 100 refine upto_step ?_ (by as_aux_lemma => kernel_rfl)
    exact upto_zero _
  iterate 4 as_aux_lemma => kernel_rfl
theorem w10_33 : AllB [0, 0, 0, 0, 0, 0, 0, 0, 0, 0, 0, 0, 0, 0, 0, 0, 0, 0, 0, 0, 0, 0, 0, 0, 0, 0, 0, 0, 0, 0, 0, 0] 9 2 := by
  constructor
  · iterate 100 refine upto_step ?_ (by as_aux_lemma => kernel_rfl)
    exact upto_zero _
  iterate 4 as_aux_lemma => kernel_rfl
theorem w10_34 : AllB [0, 0, 0, 0, 0, 0, 0, 0, 0, 0, 0, 0, 0, 0, 0, 0, 0, 0, 0, 0, 0, 0, 0, 0, 0, 0, 0, 0, 0, 0, 0, 0] 9 3 := by
  constructor
  · iterate 100 refine upto_step ?_ (by as_aux_lemma => kernel_rfl)
    exact upto_zero _
  iterate 4 as_aux_lemma => kernel_rfl
theorem w10_35 : AllB [0, 0, 0, 0, 0, 0, 0, 0, 0, 0, 0, 0, 0, 0, 0, 0, 0, 0, 0, 0, 0, 0, 0, 0, 0, 0, 0, 0, 0, 0, 0, 0] 9 4 := by
  constructor
  · iterate 100 refine upto_step ?_ (by as_aux_lemma => kernel_rfl)
    exact upto_zero _
  iterate 4 as_aux_lemma => kernel_rfl
theorem w10_36 : AllB [0, 0, 0, 0, 0, 0, 0, 0, 0, 0, 0, 0, 0, 0, 0, 0, 0, 0, 0, 0, 0, 0, 0, 0, 0, 0, 0, 0, 0, 0, 0, 0] 10 2 := by
  constructor
  · iterate 100 refine upto_step ?_ (by as_aux_lemma => kernel_rfl)
    exact upto_zero _
  iterate 4 as_aux_lemma => kernel_rfl
theorem w10_37 : AllB [0, 0, 0, 0, 0, 0, 0, 0, 0, 0, 0, 0, 0, 0, 0, 0, 0, 0, 0, 0, 0, 0, 0, 0, 0, 0, 0, 0, 0, 0, 0, 0] 11 2 := by
  constructor
  · iterate 100 refine upto_step ?_ (by as_aux_lemma => kernel_rfl)
    exact upto_zero _
  iterate 4 as_aux_lemma => kernel_rfl
theorem w11_0 : AllB [0, 0, 0, 0, 0, 0, 0, 0, 0, 0, 0, 0, 0, 0, 0, 0, 0, 0, 0, 0, 0, 0, 0, 0, 0, 0, 0, 0, 0, 0, 0, 120] 0 2 := by
  constructor
  · iterate 100 refine upto_step ?_ (by as_aux_lemma => kernel_rfl)
    exact upto_zero _
  iterate 4 as_aux_lemma => kernel_rfl
theorem w11_1 : AllB [0, 0, 0, 0, 0, 0, 0, 0, 0, 0, 0, 0, 0, 0, 0, 0, 0, 0, 0, 0, 0, 0, 0, 0, 0, 0, 0, 0, 0, 0, 0, 120] 0 3 := by
  constructor
  · iterate 100 refine upto_step ?_ (by as_aux_lemma => kernel_rfl)
    exact upto_zero _
  iterate 4 as_aux_lemma => kernel_rfl
theorem w11_2 : AllB [0, 0, 0, 0, 0, 0, 0, 0, 0, 0, 0, 0, 0, 0, 0, 0, 0, 0, 0, 0, 0, 0, 0, 0, 0, 0, 0, 0, 0, 0, 0, 120] 0 4 := by
  constructor
  · iterate 100 refine upto_step ?_ (by as_aux_lemma => kernel_rfl)
    exact upto_zero _
  iterate 4 as_aux_lemma => kernel_rfl
theorem w11_3 : AllB [0, 0, 0, 0, 0, 0, 0, 0, 0, 0, 0, 0, 0, 0, 0, 0, 0, 0, 0, 0, 0, 0, 0, 0, 0, 0, 0, 0, 0, 0, 0, 120] 0 5 := by
  constructor
  · iterate 100 refine upto_step ?_ (by as_aux_lemma => kernel_rfl)
    exact upto_zero _
  iterate 4 as_aux_lemma => kernel_rfl
theorem w11_4 : AllB [0, 0, 0, 0, 0, 0, 0, 0, 0, 0, 0, 0, 0, 0, 0, 0, 0, 0, 0, 0, 0, 0, 0, 0, 0, 0, 0, 0, 0, 0, 0, 120] 0 6 := by
  constructor
  · iterate 100 refine upto_step ?_ (by as_aux_lemma => kernel_rfl)
    exact upto_zero _
  iterate 4 as_aux_lemma => kernel_rfl
theorem w11_5 : AllB [0, 0, 0, 0, 0, 0, 0, 0, 0, 0, 0, 0, 0, 0, 0, 0, 0, 0, 0, 0, 0, 0, 0, 0, 0, 0, 0, 0, 0, 0, 0, 120] 0 7 := by
  constructor
  · iterate 100 refine upto_step ?_ (by as_aux_lemma => kernel_rfl)
    exact upto_zero _
  iterate 4 as_aux_lemma => kernel_rfl
theorem w11_6 : AllB [0, 0, 0, 0, 0, 0, 0, 0, 0, 0, 0, 0, 0, 0, 0, 0, 0, 0, 0, 0, 0, 0, 0, 0, 0, 0, 0, 0, 0, 0, 0, 120] 0 8 := by
  constructor
  · iterate 100 refine upto_step ?_ (by as_aux_lemma => kernel_rfl)
    exact upto_zero _
  iterate 4 as_aux_lemma => kernel_rfl
theorem w11_7 : AllB [0, 0, 0, 0, 0, 0, 0, 0, 0, 0, 0, 0, 0, 0, 0, 0, 0, 0, 0, 0, 0, 0, 0, 0, 0, 0, 0, 0, 0, 0, 0, 120] 0 9 := by
  constructor
  · iterate 100 refine upto_step ?_ (by as_aux_lemma => kernel_rfl)
    exact upto_zero _
  iterate 4 as_aux_lemma => kernel_rfl
theorem w11_8 : AllB [0, 0, 0, 0, 0, 0, 0, 0, 0, 0, 0, 0, 0, 0, 0, 0, 0, 0, 0, 0, 0, 0, 0, 0, 0, 0, 0, 0, 0, 0, 0, 120] 0 10 := by
  constructor
  · iterate 100 refine upto_step ?_ (by as_aux_lemma => kernel_rfl)
    exact upto_zero _
  iterate 4 as_aux_lemma => kernel_rfl
theorem w11_9 : AllB [0, 0, 0, 0, 0, 0, 0, 0, 0, 0, 0, 0, 0, 0, 0, 0, 0, 0, 0, 0, 0, 0, 0, 0, 0, 0, 0, 0, 0, 0, 0, 120] 0 11 := by
  constructor
  · iterate 100 refine upto_step ?_ (by as_aux_lemma => kernel_rfl)
    exact upto_zero _
  iterate 4 as_aux_lemma => kernel_rfl
theorem w11_10 : AllB [0, 0, 0, 0, 0, 0, 0, 0, 0, 0, 0, 0, 0, 0, 0, 0, 0, 0, 0, 0, 0, 0, 0, 0, 0, 0, 0, 0, 0, 0, 0, 120] 0 12 := by
  constructor
  · iterate 100 refine upto_step ?_ (by as_aux_lemma => kernel_rfl)
    exact upto_zero _
  iterate 4 as_aux_lemma => kernel_rfl
theorem w11_11 : AllB [0, 0, 0, 0, 0, 0, 0, 0, 0, 0, 0, 0, 0, 0, 0, 0, 0, 0, 0, 0, 0, 0, 0, 0, 0, 0, 0, 0, 0, 0, 0, 120] 1 2 := by
  constructor
  · iterate 100 refine upto_step ?_ (by as_aux_lemma => kernel_rfl)
    exact upto_zero _
  iterate 4 as_aux_lemma => kernel_rfl
theorem w11_12 : AllB [0, 0, 0, 0, 0, 0, 0, 0, 0, 0, 0, 0, 0, 0, 0, 0, 0, 0, 0, 0, 0, 0, 0, 0, 0, 0, 0, 0, 0, 0, 0, 120] 2 2 := by
  constructor
  · iterate 100 refine upto_step ?_ (by as_aux_lemma => kernel_rfl)
    exact upto_zero _
  iterate 4 as_aux_lemma => kernel_rfl
theorem w11_13 : AllB [0, 0, 0, 0, 0, 0, 0, 0, 0, 0, 0, 0, 0, 0, 0, 0, 0, 0, 0, 0, 0, 0, 0, 0, 0, 0, 0, 0, 0, 0, 0, 120] 2 3 := by
  constructor
  · iterate 100 refine upto_step ?_ (by as_aux_lemma => kernel_rfl)
    exact upto_zero _
  iterate 4 as_aux_lemma => kernel_rfl
theorem w11_14 : AllB [0, 0, 0, 0, 0, 0, 0, 0, 0, 0, 0, 0, 0, 0, 0, 0, 0, 0, 0, 0, 0, 0, 0, 0, 0, 0, 0, 0, 0, 0, 0, 120] 3 2 := by
  constructor
  · iterate 100 refine upto_step ?_ (by as_aux_lemma => kernel_rfl)
    exact upto_zero _
  iterate 4 as_aux_lemma => kernel_rfl
theorem w11_15 : AllB [0, 0, 0, 0, 0, 0, 0, 0, 0, 0, 0, 0, 0, 0, 0, 0, 0, 0, 0, 0, 0, 0, 0, 0, 0, 0, 0, 0, 0, 0, 0, 120] 3 3 := by
  constructor
  · iterate 100 refine upto_step ?_ (by as_aux_lemma => kernel_rfl)
    exact upto_zero _
  iterate 4 as_aux_lemma => kernel_rfl
theorem w11_16 : AllB [0, 0, 0, 0, 0, 0, 0, 0, 0, 0, 0, 0, 0, 0, 0, 0, 0, 0, 0, 0, 0, 0, 0, 0, 0, 0, 0, 0, 0, 0, 0, 120] 3 4 := by
  constructor
  · iterate 100 refine upto_step ?_ (by as_aux_lemma => kernel_rfl)
    exact upto_zero _
  iterate 4 as_aux_lemma => kernel_rfl
theorem w11_17 : AllB [0, 0, 0, 0, 0, 0, 0, 0, 0, 0, 0, 0, 0, 0, 0, 0, 0, 0, 0, 0, 0, 0, 0, 0, 0, 0, 0, 0, 0, 0, 0, 120] 4 2 := by
  constructor
  · iterate 100 refine upto_step ?_ (by as_aux_lemma => kernel_rfl)
    exact upto_zero _
  iterate 4 as_aux_lemma => kernel_rfl
theorem w11_18 : AllB [0, 0, 0, 0, 0, 0, 0, 0, 0, 0, 0, 0, 0, 0, 0, 0, 0, 0, 0, 0, 0, 0, 0, 0, 0, 0, 0, 0, 0, 0, 0, 120] 4 4 := by
  constructor
  · iterate 100 refine upto_step ?_ (by as_aux_lemma => kernel_rfl)
    exact upto_zero _
  iterate 4 as_aux_lemma => kernel_rfl
theorem w11_19 : AllB [0, 0, 0, 0, 0, 0, 0, 0, 0, 0, 0, 0, 0, 0, 0, 0, 0, 0, 0, 0, 0, 0, 0, 0, 0, 0, 0, 0, 0, 0, 0, 120] 4 5 := by
  constructor
  · iterate 100 refine upto_step ?_ (by as_aux_lemma => kernel_rfl)
    exact upto_zero _
  iterate 4 as_aux_lemma => kernel_rfl
theorem w11_20 : AllB [0, 0, 0, 0, 0, 0, 0, 0, 0, 0, 0, 0, 0, 0, 0, 0, 0, 0, 0, 0, 0, 0, 0, 0, 0, 0, 0, 0, 0, 0, 0, 120] 5 2 := by
  constructor
  · iterate 100 refine upto_step ?_ (by as_aux_lemma => kernel_rfl)
    exact upto_zero _
  iterate 4 as_aux_lemma => kernel_rfl
theorem w11_21 : AllB [0, 0, 0, 0, 0, 0, 0, 0, 0, 0, 0, 0, 0, 0, 0, 0, 0, 0, 0, 0, 0, 0, 0, 0, 0, 0, 0, 0, 0, 0, 0, 120] 5 3 := by
  constructor
  · iterate 100 refine upto_step ?_ (by as_aux_lemma => kernel_rfl)
    exact upto_zero _
  iterate 4 as_aux_lemma => kernel_rfl
theorem w11_22 : AllB [0, 0, 0, 0, 0, 0, 0, 0, 0, 0, 0, 0, 0, 0, 0, 0, 0, 0, 0, 0, 0, 0, 0, 0, 0, 0, 0, 0, 0, 0, 0, 120] 5 5 := by
  constructor
  · iterate 100 refine upto_step ?_ (by as_aux_lemma => kernel_rfl)
    exact upto_zero _
  iterate 4 as_aux_lemma => kernel_rfl
theorem w11_23 : AllB [0, 0, 0, 0, 0, 0, 0, 0, 0, 0, 0, 0, 0, 0, 0, 0, 0, 0, 0, 0, 0, 0, 0, 0, 0, 0, 0, 0, 0, 0, 0, 120] 5 6 := by
  constructor
  · iterate 100 refine upto_step ?_ (by as_aux_lemma => kernel_rfl)
    exact upto_zero _
  iterate 4 as_aux_lemma => kernel_rfl
theorem w11_24 : AllB [0, 0, 0, 0, 0, 0, 0, 0, 0, 0, 0, 0, 0, 0, 0, 0, 0, 0, 0, 0, 0, 0, 0, 0, 0, 0, 0, 0, 0, 0, 0, 120] 6 2 := by
  constructor
  · iterate 100 refine upto_step ?_ (by as_aux_lemma => kernel_rfl)
    exact upto_zero _
  iterate 4 as_aux_lemma => kernel_rfl
theorem w11_25 : AllB [0, 0, 0, 0, 0, 0, 0, 0, 0, 0, 0, 0, 0, 0, 0, 0, 0, 0, 0, 0, 0, 0, 0, 0, 0, 0, 0, 0, 0, 0, 0, 120] 6 3 := by
  constructor
  · iterate 100 refine upto_step ?_ (by as_aux_lemma => kernel_rfl)
    exact upto_zero _
  iterate 4 as_aux_lemma => kernel_rfl
theorem w11_26 : AllB [0, 0, 0, 0, 0, 0, 0, 0, 0, 0, 0, 0, 0, 0, 0, 0, 0, 0, 0, 0, 0, 0, 0, 0, 0, 0, 0, 0, 0, 0, 0, 120] 6 6 := by
  constructor
  · iterate 100 refine upto_step ?_ (by as_aux_lemma => kernel_rfl)
    exact upto_zero _
  iterate 4 as_aux_lemma => kernel_rfl
theorem w11_27 : AllB [0, 0, 0, 0, 0, 0, 0, 0, 0, 0, 0, 0, 0, 0, 0, 0, 0, 0, 0, 0, 0, 0, 0, 0, 0, 0, 0, 0, 0, 0, 0, 120] 7 2 := by
  constructor
  · iterate 100 refine upto_step ?_ (by as_aux_lemma => kernel_rfl)
    exact upto_zero _
  iterate 4 as_aux_lemma => kernel_rfl
theorem w11_28 : AllB [0, 0, 0, 0, 0, 0, 0, 0, 0, 0, 0, 0, 0, 0, 0, 0, 0, 0, 0, 0, 0, 0, 0, 0, 0, 0, 0, 0, 0, 0, 0, 120] 7 3 := by
  constructor
  · iterate 100 refine upto_step ?_ (by as_aux_lemma => kernel_rfl)
    exact upto_zero _
  iterate 4 as_aux_lemma => kernel_rfl
theorem w11_29 : AllB [0, 0, 0, 0, 0, 0, 0, 0, 0, 0, 0, 0, 0, 0, 0, 0, 0, 0, 0, 0, 0, 0, 0, 0, 0, 0, 0, 0, 0, 0, 0, 120] 8 2 := by
  constructor
  · iterate 100 refine upto_step ?_ (by as_aux_lemma => kernel_rfl)
    exact upto_zero _
  iterate 4 as_aux_lemma => kernel_rfl
theorem w11_30 : AllB [0, 0, 0, 0, 0, 0, 0, 0, 0, 0, 0, 0, 0, 0, 0, 0, 0, 0, 0, 0, 0, 0, 0, 0, 0, 0, 0, 0, 0, 0, 0, 120] 8 3 := by
  constructor
  · iterate 100 refine upto_step ?_ (by as_aux_lemma => kernel_rfl)
    exact upto_zero _
  iterate 4 as_aux_lemma => kernel_rfl
theorem w11_31 : AllB [0, 0, 0, 0, 0, 0, 0, 0, 0, 0, 0, 0, 0, 0, 0, 0, 0, 0, 0, 0, 0, 0, 0, 0, 0, 0, 0, 0, 0, 0, 0, 120] 9 2 := by
  constructor
  · iterate 100 refine upto_step ?_ (by as_aux_lemma => kernel_rfl)
    exact upto_zero _
  iterate 4 as_aux_lemma => kernel_rfl
theorem w11_32 : AllB [0, 0, 0, 0, 0, 0, 0, 0, 0, 0, 0, 0, 0, 0, 0, 0, 0, 0, 0, 0, 0, 0, 0, 0, 0, 0, 0, 0, 0, 0, 0, 120] 9 3 := by
  constructor
  · iterate 100 refine upto_step ?_ (by as_aux_lemma => kernel_rfl)
    exact upto_zero _
  iterate 4 as_aux_lemma => kernel_rfl
theorem w11_33 : AllB [0, 0, 0, 0, 0, 0, 0, 0, 0, 0, 0, 0, 0, 0, 0, 0, 0, 0, 0, 0, 0, 0, 0, 0, 0, 0, 0, 0, 0, 0, 0, 120] 10 2 := by
  constructor
  · iterate 100 refine upto_step ?_ (by as_aux_lemma => kernel_rfl)
    exact upto_zero _
  iterate 4 as_aux_lemma => kernel_rfl
end Go.Proofs.YtnionejefpnfoaaDoor
