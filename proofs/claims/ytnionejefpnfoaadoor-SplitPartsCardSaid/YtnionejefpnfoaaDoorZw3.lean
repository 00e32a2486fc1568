/- The checks of the batches of draws of bent splits, reckoned by the kernel: part 4 of 8. No condition; nothing of the program stands here but the specification of its words. -/
import Derived.Test.YtnionejefpnfoaaDoorZm
set_option linter.unusedVariables false
set_option maxRecDepth 100000
set_option maxHeartbeats 1000000000
namespace Go.Proofs.YtnionejefpnfoaaDoor

/-- one great number, first: what is freed later stays with the process -/
theorem wide3 : Nat.beq (Nat.shiftRight (Nat.shiftLeft 1 260000000) 259999999) 2 = true := by kernel_rfl
theorem w4_7 : AllB [115, 120] 0 9 := by
  constructor
  · iterate 100 refine upto_step ?_ (by as_aux_lemma => kernel_rfl)
    exact upto_zero _
  iterate 4 as_aux_lemma => kernel_rfl
theorem w4_8 : AllB [115, 120] 0 10 := by
  constructor
  · iterate 100 refine upto_step ?_ (by as_aux_lemma => kernel_rfl)
    exact upto_zero _
  iterate 4 as_aux_lemma => kernel_rfl
theorem w4_9 : AllB [115, 120] 0 11 := by
  constructor
  · iterate 100 refine upto_step ?_ (by as_aux_lemma => kernel_rfl)
    exact upto_zero _
  iterate 4 as_aux_lemma => kernel_rfl
theorem w4_10 : AllB [115, 120] 0 12 := by
  constructor
  · iterate 100 refine upto_step ?_ (by as_aux_lemma => kernel_rfl)
    exact upto_zero _
  iterate 4 as_aux_lemma => kernel_rfl
theorem w4_11 : AllB [115, 120] 0 13 := by
  constructor
  · iterate 100 refine upto_step ?_ (by as_aux_lemma => kernel_rfl)
    exact upto_zero _
  iterate 4 as_aux_lemma => kernel_rfl
theorem w4_12 : AllB [115, 120] 1 2 := by
  constructor
  · iterate 100 refine upto_step ?_ (by as_aux_lemma => kernel_rfl)
    exact upto_zero _
  iterate 4 as_aux_lemma => kernel_rfl
theorem w4_13 : AllB [115, 120] 2 2 := by
  constructor
  · iterate 100 refine upto_step ?_ (by as_aux_lemma => kernel_rfl)
    exact upto_zero _
  iterate 4 as_aux_lemma => kernel_rfl
theorem w4_14 : AllB [115, 120] 2 3 := by
  constructor
  · iterate 100 refine upto_step ?_ (by as_aux_lemma => kernel_rfl)
    exact upto_zero _
  iterate 4 as_aux_lemma => kernel_rfl
theorem w4_15 : AllB [115, 120] 3 2 := by
  constructor
  · iterate 100 refine upto_step ?_ (by as_aux_lemma => kernel_rfl)
    exact upto_zero _
  iterate 4 as_aux_lemma => kernel_rfl
theorem w4_16 : AllB [115, 120] 3 3 := by
  constructor
  · iterate 100 refine upto_step ?_ (by as_aux_lemma => kernel_rfl)
    exact upto_zero _
  iterate 4 as_aux_lemma => kernel_rfl
theorem w4_17 : AllB [115, 120] 3 4 := by
  constructor
  · iterate 100 refine upto_step ?_ (by as_aux_lemma => kernel_rfl)
    exact upto_zero _
  iterate 4 as_aux_lemma => kernel_rfl
theorem w4_18 : AllB [115, 120] 4 2 := by
  constructor
  · iterate 100 refine upto_step ?_ (by as_aux_lemma => kernel_rfl)
    exact upto_zero _
  iterate 4 as_aux_lemma => kernel_rfl
theorem w4_19 : AllB [115, 120] 4 4 := by
  constructor
  · iterate 100 refine upto_step ?_ (by as_aux_lemma => kernel_rfl)
    exact upto_zero _
  iterate 4 as_aux_lemma => kernel_rfl
theorem w4_20 : AllB [115, 120] 4 5 := by
  constructor
  · iterate 100 refine upto_step ?_ (by as_aux_lemma => kernel_rfl)
    exact upto_zero _
  iterate 4 as_aux_lemma => kernel_rfl
theorem w4_21 : AllB [115, 120] 5 2 := by
  constructor
  · iterate 100 refine upto_step ?_ (by as_aux_lemma => kernel_rfl)
    exact upto_zero _
  iterate 4 as_aux_lemma => kernel_rfl
theorem w4_22 : AllB [115, 120] 5 3 := by
  constructor
  · iterate 100 refine upto_step ?_ (by as_aux_lemma => kernel_rfl)
    exact upto_zero _
  iterate 4 as_aux_lemma => kernel_rfl
theorem w4_23 : AllB [115, 120] 5 5 := by
  constructor
  · iterate 100 refine upto_step ?_ (by as_aux_lemma => kernel_rfl)
    exact upto_zero _
  iterate 4 as_aux_lemma => kernel_rfl
theorem w4_24 : AllB [115, 120] 5 6 := by
  constructor
  · iterate 100 refine upto_step ?_ (by as_aux_lemma => kernel_rfl)
    exact upto_zero _
  iterate 4 as_aux_lemma => kernel_rfl
theorem w4_25 : AllB [115, 120] 6 2 := by
  constructor
  · iterate 100 refine upto_step ?_ (by as_aux_lemma => kernel_rfl)
    exact upto_zero _
  iterate 4 as_aux_lemma => kernel_rfl
theorem w4_26 : AllB [115, 120] 6 3 := by
  constructor
  · iterate 100 refine upto_step ?_ (by as_aux_lemma => kernel_rfl)
    exact upto_zero _
  iterate 4 as_aux_lemma => kernel_rfl
theorem w4_27 : AllB [115, 120] 6 6 := by
  constructor
  · iterate 100 refine upto_step ?_ (by as_aux_lemma => kernel_rfl)
    exact upto_zero _
  iterate 4 as_aux_lemma => kernel_rfl
theorem w4_28 : AllB [115, 120] 6 7 := by
  constructor
  · iterate 100 refine upto_step ?_ (by as_aux_lemma => kernel_rfl)
    exact upto_zero _
  iterate 4 as_aux_lemma => kernel_rfl
theorem w4_29 : AllB [115, 120] 7 2 := by
  constructor
  · iterate 100 refine upto_step ?_ (by as_aux_lemma => kernel_rfl)
    exact upto_zero _
  iterate 4 as_aux_lemma => kernel_rfl
theorem w4_30 : AllB [115, 120] 7 3 := by
  constructor
  · iterate 100 refine upto_step ?_ (by as_aux_lemma => kernel_rfl)
    exact upto_zero _
  iterate 4 as_aux_lemma => kernel_rfl
theorem w4_31 : AllB [115, 120] 8 2 := by
  constructor
  · iterate 100 refine upto_step ?_ (by as_aux_lemma => kernel_rfl)
    exact upto_zero _
  iterate 4 as_aux_lemma => kernel_rfl
theorem w4_32 : AllB [115, 120] 8 3 := by
  constructor
  · iterate 100 refine upto_step ?_ (by as_aux_lemma => kernel_rfl)
    exact upto_zero _
  iterate 4 as_aux_lemma => kernel_rfl
theorem w4_33 : AllB [115, 120] 9 2 := by
  constructor
  · iterate 100 refine upto_step ?_ (by as_aux_lemma => kernel_rfl)
    exact upto_zero _
  iterate 4 as_aux_lemma => kernel_rfl
theorem w4_34 : AllB [115, 120] 9 3 := by
  constructor
  · iterate 100 refine upto_step ?_ (by as_aux_lemma => kernel_rfl)
    exact upto_zero _
  iterate 4 as_aux_lemma => kernel_rfl
theorem w4_35 : AllB [115, 120] 9 4 := by
  constructor
  · iterate 100 refine upto_step ?_ (by as_aux_lemma => kernel_rfl)
    exact upto_zero _
  iterate 4 as_aux_lemma => kernel_rfl
theorem w4_36 : AllB [115, 120] 10 2 := by
  constructor
  · iterate 100 refine upto_step ?_ (by as_aux_lemma => kernel_rfl)
    exact upto_zero _
  iterate 4 as_aux_lemma => kernel_rfl
theorem w4_37 : AllB [115, 120] 11 2 := by
  constructor
  · iterate 100 refine upto_step ?_ (by as_aux_lemma => kernel_rfl)
    exact upto_zero _
  iterate 4 as_aux_lemma => kernel_rfl
theorem w5_0 : AllB [115, 101, 101, 100, 32, 50, 120] 0 2 := by
  constructor
  · iterate 100 refine upto_step ?_ (by as_aux_lemma => kernel_rfl)
    exact upto_zero _
  iterate 4 as_aux_lemma => kernel_rfl
theorem w5_1 : AllB [115, 101, 101, 100, 32, 50, 120] 0 3 := by
  constructor
  · iterate 100 refine upto_step ?_ (by as_aux_lemma => kernel_rfl)
    exact upto_zero _
  iterate 4 as_aux_lemma => kernel_rfl
theorem w5_2 : AllB [115, 101, 101, 100, 32, 50, 120] 0 4 := by
  constructor
  · iterate 100 refine upto_step ?_ (by as_aux_lemma => kernel_rfl)
    exact upto_zero _
  iterate 4 as_aux_lemma => kernel_rfl
theorem w5_3 : AllB [115, 101, 101, 100, 32, 50, 120] 0 5 := by
  constructor
  · iterate 100 refine upto_step ?_ (by as_aux_lemma => kernel_rfl)
    exact upto_zero _
  iterate 4 as_aux_lemma => kernel_rfl
theorem w5_4 : AllB [115, 101, 101, 100, 32, 50, 120] 0 6 := by
  constructor
  · iterate 100 refine upto_step ?_ (by as_aux_lemma => kernel_rfl)
    exact upto_zero _
  iterate 4 as_aux_lemma => kernel_rfl
theorem w5_5 : AllB [115, 101, 101, 100, 32, 50, 120] 0 7 := by
  constructor
  · iterate 100 refine upto_step ?_ (by as_aux_lemma => kernel_rfl)
    exact upto_zero _
  iterate 4 as_aux_lemma => kernel_rfl
theorem w5_6 : AllB [115, 101, 101, 100, 32, 50, 120] 0 8 := by
  constructor
  · iterate 100 refine upto_step ?_ (by as_aux_lemma => kernel_rfl)
    exact upto_zero _
  iterate 4 as_aux_lemma => kernel_rfl
theorem w5_7 : AllB [115, 101, 101, 100, 32, 50, 120] 0 9 := by
  constructor
  · iterate 100 refine upto_step ?_ (by as_aux_lemma => kernel_rfl)
    exact upto_zero _
  iterate 4 as_aux_lemma => kernel_rfl
theorem w5_8 : AllB [115, 101, 101, 100, 32, 50, 120] 0 10 := by
  constructor
  · iterate 100 refine upto_step ?_ (by as_aux_lemma => kernel_rfl)
    exact upto_zero _
  iterate 4 as_aux_lemma => kernel_rfl
theorem w5_9 : AllB [115, 101, 101, 100, 32, 50, 120] 0 11 := by
  constructor
  · iterate 100 refine upto_step ?_ (by as_aux_lemma => kernel_rfl)
    exact upto_zero _
  iterate 4 as_aux_lemma => kernel_rfl
theorem w5_10 : AllB [115, 101, 101, 100, 32, 50, 120] 0 12 := by
  constructor
  · iterate 100 refine upto_step ?_ (by as_aux_lemma => kernel_rfl)
    exact upto_zero _
  iterate 4 as_aux_lemma => kernel_rfl
theorem w5_11 : AllB [115, 101, 101, 100, 32, 50, 120] 0 13 := by
  constructor
  · iterate 100 refine upto_step ?_ (by as_aux_lemma => kernel_rfl)
    exact upto_zero _
  iterate 4 as_aux_lemma => kernel_rfl
theorem w5_12 : AllB [115, 101, 101, 100, 32, 50, 120] 1 2 := by
  constructor
  · iterate 100 refine upto_step ?_ (by as_aux_lemma => kernel_rfl)
    exact upto_zero _
  iterate 4 as_aux_lemma => kernel_rfl
theorem w5_13 : AllB [115, 101, 101, 100, 32, 50, 120] 2 2 := by
  constructor
  · iterate 100 refine upto_step ?_ (by as_aux_lemma => kernel_rfl)
    exact upto_zero _
  iterate 4 as_aux_lemma => kernel_rfl
theorem w5_14 : AllB [115, 101, 101, 100, 32, 50, 120] 2 3 := by
  constructor
  · iterate 100 refine upto_step ?_ (by as_aux_lemma => kernel_rfl)
    exact upto_zero _
  iterate 4 as_aux_lemma => kernel_rfl
theorem w5_15 : AllB [115, 101, 101, 100, 32, 50, 120] 3 2 := by
  constructor
  · iterate 100 refine upto_step ?_ (by as_aux_lemma => kernel_rfl)
    exact upto_zero _
  iterate 4 as_aux_lemma => kernel_rfl
theorem w5_16 : AllB [115, 101, 101, 100, 32, 50, 120] 3 3 := by
  constructor
  · iterate 100 refine upto_step ?_ (by as_aux_lemma => kernel_rfl)
    exact upto_zero _
  iterate 4 as_aux_lemma => kernel_rfl
theorem w5_17 : AllB [115, 101, 101, 100, 32, 50, 120] 3 4 := by
  constructor
  · iterate 100 refine upto_step ?_ (by as_aux_lemma => kernel_rfl)
    exact upto_zero _
  iterate 4 as_aux_lemma => kernel_rfl
theorem w5_18 : AllB [115, 101, 101, 100, 32, 50, 120] 4 2 := by
  constructor
  · iterate 100 refine upto_step ?_ (by as_aux_lemma => kernel_rfl)
    exact upto_zero _
  iterate 4 as_aux_lemma => kernel_rfl
theorem w5_19 : AllB [115, 101, 101, 100, 32, 50, 120] 4 4 := by
  constructor
  · iterate 100 refine upto_step ?_ (by as_aux_lemma => kernel_rfl)
    exact upto_zero _
  iterate 4 as_aux_lemma => kernel_rfl
theorem w5_20 : AllB [115, 101, 101, 100, 32, 50, 120] 4 5 := by
  constructor
  · iterate 100 refine upto_step ?_ (by as_aux_lemma => kernel_rfl)
    exact upto_zero _
  iterate 4 as_aux_lemma => kernel_rfl
theorem w5_21 : AllB [115, 101, 101, 100, 32, 50, 120] 5 2 := by
  constructor
  · iterate 100 refine upto_step ?_ (by as_aux_lemma => kernel_rfl)
    exact upto_zero _
  iterate 4 as_aux_lemma => kernel_rfl
theorem w5_22 : AllB [115, 101, 101, 100, 32, 50, 120] 5 3 := by
  constructor
  · iterate 100 refine upto_step ?_ (by as_aux_lemma => kernel_rfl)
    exact upto_zero _
  iterate 4 as_aux_lemma => kernel_rfl
theorem w5_23 : AllB [115, 101, 101, 100, 32, 50, 120] 5 5 := by
  constructor
  · iterate 100 refine upto_step ?_ (by as_aux_lemma => kernel_rfl)
    exact upto_zero _
  iterate 4 as_aux_lemma => kernel_rfl
theorem w5_24 : AllB [115, 101, 101, 100, 32, 50, 120] 5 6 := by
  constructor
  · iterate 100 refine upto_step ?_ (by as_aux_lemma => kernel_rfl)
    exact upto_zero _
  iterate 4 as_aux_lemma => kernel_rfl
theorem w5_25 : AllB [115, 101, 101, 100, 32, 50, 120] 6 2 := by
  constructor
  · iterate 100 refine upto_step ?_ (by as_aux_lemma => kernel_rfl)
    exact upto_zero _
  iterate 4 as_aux_lemma => kernel_rfl
end Go.Proofs.YtnionejefpnfoaaDoor
