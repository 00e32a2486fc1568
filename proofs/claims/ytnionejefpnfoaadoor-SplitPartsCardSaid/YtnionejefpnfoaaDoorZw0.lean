/- The checks of the batches of draws of bent splits, reckoned by the kernel: part 1 of 8. No condition; nothing of the program stands here but the specification of its words. -/
import Derived.Test.YtnionejefpnfoaaDoorZm
set_option linter.unusedVariables false
set_option maxRecDepth 100000
set_option maxHeartbeats 1000000000
namespace Go.Proofs.YtnionejefpnfoaaDoor

/-- one great number, first: what is freed later stays with the process -/
theorem wide0 : Nat.beq (Nat.shiftRight (Nat.shiftLeft 1 260000000) 259999999) 2 = true := by kernel_rfl
theorem w0_0 : AllB [] 0 2 := by
  constructor
  · iterate 100 refine upto_step ?_ (by as_aux_lemma => kernel_rfl)
    exact upto_zero _
  iterate 4 as_aux_lemma => kernel_rfl
theorem w0_1 : AllB [] 0 3 := by
  constructor
  · iterate 100 refine upto_step ?_ (by as_aux_lemma => kernel_rfl)
    exact upto_zero _
  iterate 4 as_aux_lemma => kernel_rfl
theorem w0_2 : AllB [] 0 4 := by
  constructor
  · iterate 100 refine upto_step ?_ (by as_aux_lemma => kernel_rfl)
    exact upto_zero _
  iterate 4 as_aux_lemma => kernel_rfl
theorem w0_3 : AllB [] 0 5 := by
  constructor
  · iterate 100 refine upto_step ?_ (by as_aux_lemma => kernel_rfl)
    exact upto_zero _
  iterate 4 as_aux_lemma => kernel_rfl
theorem w0_4 : AllB [] 0 6 := by
  constructor
  · iterate 100 refine upto_step ?_ (by as_aux_lemma => kernel_rfl)
    exact upto_zero _
  iterate 4 as_aux_lemma => kernel_rfl
theorem w0_5 : AllB [] 0 7 := by
  constructor
  · iterate 100 refine upto_step ?_ (by as_aux_lemma => kernel_rfl)
    exact upto_zero _
  iterate 4 as_aux_lemma => kernel_rfl
theorem w0_6 : AllB [] 0 8 := by
  constructor
  · iterate 100 refine upto_step ?_ (by as_aux_lemma => kernel_rfl)
    exact upto_zero _
  iterate 4 as_aux_lemma => kernel_rfl
theorem w0_7 : AllB [] 0 9 := by
  constructor
  · iterate 100 refine upto_step ?_ (by as_aux_lemma => kernel_rfl)
    exact upto_zero _
  iterate 4 as_aux_lemma => kernel_rfl
theorem w0_8 : AllB [] 0 10 := by
  constructor
  · iterate 100 refine upto_step ?_ (by as_aux_lemma => kernel_rfl)
    exact upto_zero _
  iterate 4 as_aux_lemma => kernel_rfl
theorem w0_9 : AllB [] 0 11 := by
  constructor
  · iterate 100 refine upto_step ?_ (by as_aux_lemma => kernel_rfl)
    exact upto_zero _
  iterate 4 as_aux_lemma => kernel_rfl
theorem w0_10 : AllB [] 0 12 := by
  constructor
  · iterate 100 refine upto_step ?_ (by as_aux_lemma => kernel_rfl)
    exact upto_zero _
  iterate 4 as_aux_lemma => kernel_rfl
theorem w0_11 : AllB [] 0 13 := by
  constructor
  · iterate 100 refine upto_step ?_ (by as_aux_lemma => kernel_rfl)
    exact upto_zero _
  iterate 4 as_aux_lemma => kernel_rfl
theorem w0_12 : AllB [] 0 14 := by
  constructor
  · iterate 100 refine upto_step ?_ (by as_aux_lemma => kernel_rfl)
    exact upto_zero _
  iterate 4 as_aux_lemma => kernel_rfl
theorem w0_13 : AllB [] 1 2 := by
  constructor
  · iterate 100 refine upto_step ?_ (by as_aux_lemma => kernel_rfl)
    exact upto_zero _
  iterate 4 as_aux_lemma => kernel_rfl
theorem w0_14 : AllB [] 2 2 := by
  constructor
  · iterate 100 refine upto_step ?_ (by as_aux_lemma => kernel_rfl)
    exact upto_zero _
  iterate 4 as_aux_lemma => kernel_rfl
theorem w0_15 : AllB [] 2 3 := by
  constructor
  · iterate 100 refine upto_step ?_ (by as_aux_lemma => kernel_rfl)
    exact upto_zero _
  iterate 4 as_aux_lemma => kernel_rfl
theorem w0_16 : AllB [] 3 2 := by
  constructor
  · iterate 100 refine upto_step ?_ (by as_aux_lemma => kernel_rfl)
    exact upto_zero _
  iterate 4 as_aux_lemma => kernel_rfl
theorem w0_17 : AllB [] 3 3 := by
  constructor
  · iterate 100 refine upto_step ?_ (by as_aux_lemma => kernel_rfl)
    exact upto_zero _
  iterate 4 as_aux_lemma => kernel_rfl
theorem w0_18 : AllB [] 3 4 := by
  constructor
  · iterate 100 refine upto_step ?_ (by as_aux_lemma => kernel_rfl)
    exact upto_zero _
  iterate 4 as_aux_lemma => kernel_rfl
theorem w0_19 : AllB [] 4 2 := by
  constructor
  · iterate 100 refine upto_step ?_ (by as_aux_lemma => kernel_rfl)
    exact upto_zero _
  iterate 4 as_aux_lemma => kernel_rfl
theorem w0_20 : AllB [] 4 4 := by
  constructor
  · iterate 100 refine upto_step ?_ (by as_aux_lemma => kernel_rfl)
    exact upto_zero _
  iterate 4 as_aux_lemma => kernel_rfl
theorem w0_21 : AllB [] 4 5 := by
  constructor
  · iterate 100 refine upto_step ?_ (by as_aux_lemma => kernel_rfl)
    exact upto_zero _
  iterate 4 as_aux_lemma => kernel_rfl
theorem w0_22 : AllB [] 5 2 := by
  constructor
  · iterate 100 refine upto_step ?_ (by as_aux_lemma => kernel_rfl)
    exact upto_zero _
  iterate 4 as_aux_lemma => kernel_rfl
theorem w0_23 : AllB [] 5 3 := by
  constructor
  · iterate 100 refine upto_step ?_ (by as_aux_lemma => kernel_rfl)
    exact upto_zero _
  iterate 4 as_aux_lemma => kernel_rfl
theorem w0_24 : AllB [] 5 5 := by
  constructor
  · iterate 100 refine upto_step ?_ (by as_aux_lemma => kernel_rfl)
    exact upto_zero _
  iterate 4 as_aux_lemma => kernel_rfl
theorem w0_25 : AllB [] 5 6 := by
  constructor
  · iterate 100 refine upto_step ?_ (by as_aux_lemma => kernel_rfl)
    exact upto_zero _
  iterate 4 as_aux_lemma => kernel_rfl
theorem w0_26 : AllB [] 6 2 := by
  constructor
  · iterate 100 refine upto_step ?_ (by as_aux_lemma => kernel_rfl)
    exact upto_zero _
  iterate 4 as_aux_lemma => kernel_rfl
theorem w0_27 : AllB [] 6 3 := by
  constructor
  · iterate 100 refine upto_step ?_ (by as_aux_lemma => kernel_rfl)
    exact upto_zero _
  iterate 4 as_aux_lemma => kernel_rfl
theorem w0_28 : AllB [] 6 6 := by
  constructor
  · iterate 100 refine upto_step ?_ (by as_aux_lemma => kernel_rfl)
    exact upto_zero _
  iterate 4 as_aux_lemma => kernel_rfl
theorem w0_29 : AllB [] 6 7 := by
  constructor
  · iterate 100 refine upto_step ?_ (by as_aux_lemma => kernel_rfl)
    exact upto_zero _
  iterate 4 as_aux_lemma => kernel_rfl
theorem w0_30 : AllB [] 7 2 := by
  constructor
  · iterate 100 refine upto_step ?_ (by as_aux_lemma => kernel_rfl)
    exact upto_zero _
  iterate 4 as_aux_lemma => kernel_rfl
theorem w0_31 : AllB [] 7 3 := by
  constructor
  · iterate 100 refine upto_step ?_ (by as_aux_lemma => kernel_rfl)
    exact upto_zero _
  iterate 4 as_aux_lemma => kernel_rfl
theorem w0_32 : AllB [] 7 7 := by
  constructor
  · iterate 100 refine upto_step ?_ (by as_aux_lemma => kernel_rfl)
    exact upto_zero _
  iterate 4 as_aux_lemma => kernel_rfl
theorem w0_33 : AllB [] 8 2 := by
  constructor
  · iterate 100 refine upto_step ?_ (by as_aux_lemma => kernel_rfl)
    exact upto_zero _
  iterate 4 as_aux_lemma => kernel_rfl
theorem w0_34 : AllB [] 8 3 := by
  constructor
  · iterate 100 refine upto_step ?_ (by as_aux_lemma => kernel_rfl)
    exact upto_zero _
  iterate 4 as_aux_lemma => kernel_rfl
theorem w0_35 : AllB [] 9 2 := by
  constructor
  · iterate 100 refine upto_step ?_ (by as_aux_lemma => kernel_rfl)
    exact upto_zero _
  iterate 4 as_aux_lemma => kernel_rfl
theorem w0_36 : AllB [] 9 3 := by
  constructor
  · iterate 100 refine upto_step ?_ (by as_aux_lemma => kernel_rfl)
    exact upto_zero _
  iterate 4 as_aux_lemma => kernel_rfl
theorem w0_37 : AllB [] 9 4 := by
  constructor
  · iterate 100 refine upto_step ?_ (by as_aux_lemma => kernel_rfl)
    exact upto_zero _
  iterate 4 as_aux_lemma => kernel_rfl
theorem w0_38 : AllB [] 10 2 := by
  constructor
  · iterate 100 refine upto_step ?_ (by as_aux_lemma => kernel_rfl)
    exact upto_zero _
  iterate 4 as_aux_lemma => kernel_rfl
theorem w0_39 : AllB [] 10 4 := by
  constructor
  · iterate 100 refine upto_step ?_ (by as_aux_lemma => kernel_rfl)
    exact upto_zero _
  iterate 4 as_aux_lemma => kernel_rfl
theorem w0_40 : AllB [] 11 2 := by
  constructor
  · iterate 100 refine upto_step ?_ (by as_aux_lemma => kernel_rfl)
    exact upto_zero _
  iterate 4 as_aux_lemma => kernel_rfl
theorem w0_41 : AllB [] 12 2 := by
  constructor
  · iterate 100 refine upto_step ?_ (by as_aux_lemma => kernel_rfl)
    exact upto_zero _
  iterate 4 as_aux_lemma => kernel_rfl
theorem w1_0 : AllB [115] 0 2 := by
  constructor
  · iterate 100 refine upto_step ?_ (by as_aux_lemma => kernel_rfl)
    exact upto_zero _
  iterate 4 as_aux_lemma => kernel_rfl
theorem w1_1 : AllB [115] 0 3 := by
  constructor
  · iterate 100 refine upto_step ?_ (by as_aux_lemma => kernel_rfl)
    exact upto_zero _
  iterate 4 as_aux_lemma => kernel_rfl
theorem w1_2 : AllB [115] 0 4 := by
  constructor
  · iterate 100 refine upto_step ?_ (by as_aux_lemma => kernel_rfl)
    exact upto_zero _
  iterate 4 as_aux_lemma => kernel_rfl
theorem w1_3 : AllB [115] 0 5 := by
  constructor
  · iterate 100 refine upto_step ?_ (by as_aux_lemma => kernel_rfl)
    exact upto_zero _
  iterate 4 as_aux_lemma => kernel_rfl
theorem w1_4 : AllB [115] 0 6 := by
  constructor
  · iterate 100 refine upto_step ?_ (by as_aux_lemma => kernel_rfl)
    exact upto_zero _
  iterate 4 as_aux_lemma => kernel_rfl
theorem w1_5 : AllB [115] 0 7 := by
  constructor
  · iterate 100 refine upto_step ?_ (by as_aux_lemma => kernel_rfl)
    exact upto_zero _
  iterate 4 as_aux_lemma => kernel_rfl
theorem w1_6 : AllB [115] 0 8 := by
  constructor
  · iterate 100 refine upto_step ?_ (by as_aux_lemma => kernel_rfl)
    exact upto_zero _
  iterate 4 as_aux_lemma => kernel_rfl
theorem w1_7 : AllB [115] 0 9 := by
  constructor
  · iterate 100 refine upto_step ?_ (by as_aux_lemma => kernel_rfl)
    exact upto_zero _
  iterate 4 as_aux_lemma => kernel_rfl
theorem w1_8 : AllB [115] 0 10 := by
  constructor
  · iterate 100 refine upto_step ?_ (by as_aux_lemma => kernel_rfl)
    exact upto_zero _
  iterate 4 as_aux_lemma => kernel_rfl
theorem w1_9 : AllB [115] 0 11 := by
  constructor
  · iterate 100 refine upto_step ?_ (by as_aux_lemma => kernel_rfl)
    exact upto_zero _
  iterate 4 as_aux_lemma => kernel_rfl
theorem w1_10 : AllB [115] 0 12 := by
  constructor
  · iterate 100 refine upto_step ?_ (by as_aux_lemma => kernel_rfl)
    exact upto_zero _
  iterate 4 as_aux_lemma => kernel_rfl
theorem w1_11 : AllB [115] 0 13 := by
  constructor
  · iterate 100 refine upto_step ?_ (by as_aux_lemma => kernel_rfl)
    exact upto_zero _
  iterate 4 as_aux_lemma => kernel_rfl
theorem w1_12 : AllB [115] 0 14 := by
  constructor
  · iterate 100 refine upto_step ?_ (by as_aux_lemma => kernel_rfl)
    exact upto_zero _
  iterate 4 as_aux_lemma => kernel_rfl
theorem w1_13 : AllB [115] 1 2 := by
  constructor
  · iterate 100 refine upto_step ?_ (by as_aux_lemma => kernel_rfl)
    exact upto_zero _
  iterate 4 as_aux_lemma => kernel_rfl
theorem w1_14 : AllB [115] 2 2 := by
  constructor
  · iterate 100 refine upto_step ?_ (by as_aux_lemma => kernel_rfl)
    exact upto_zero _
  iterate 4 as_aux_lemma => kernel_rfl
end Go.Proofs.YtnionejefpnfoaaDoor
