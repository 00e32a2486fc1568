/- The checks of the batches of draws of bent splits, reckoned by the kernel: part 3 of 8. No condition; nothing of the program stands here but the specification of its words. -/
import Derived.Test.YtnionejefpnfoaaDoorZm
set_option linter.unusedVariables false
set_option maxRecDepth 100000
set_option maxHeartbeats 1000000000
namespace Go.Proofs.YtnionejefpnfoaaDoor

/-- one great number, first: what is freed later stays with the process -/
theorem wide2 : Nat.beq (Nat.shiftRight (Nat.shiftLeft 1 260000000) 259999999) 2 = true := by kernel_rfl
theorem w2_30 : AllB [115, 101, 101, 100, 32, 50] 7 2 := by
  constructor
  · iterate 100 refine upto_step ?_ (by as_aux_lemma => kernel_rfl)
    exact upto_zero _
  iterate 4 as_aux_lemma => kernel_rfl
theorem w2_31 : AllB [115, 101, 101, 100, 32, 50] 7 3 := by
  constructor
  · iterate 100 refine upto_step ?_ (by as_aux_lemma => kernel_rfl)
    exact upto_zero _
  iterate 4 as_aux_lemma => kernel_rfl
theorem w2_32 : AllB [115, 101, 101, 100, 32, 50] 7 7 := by
  constructor
  · iterate 100 refine upto_step ?_ (by as_aux_lemma => kernel_rfl)
    exact upto_zero _
  iterate 4 as_aux_lemma => kernel_rfl
theorem w2_33 : AllB [115, 101, 101, 100, 32, 50] 8 2 := by
  constructor
  · iterate 100 refine upto_step ?_ (by as_aux_lemma => kernel_rfl)
    exact upto_zero _
  iterate 4 as_aux_lemma => kernel_rfl
theorem w2_34 : AllB [115, 101, 101, 100, 32, 50] 8 3 := by
  constructor
  · iterate 100 refine upto_step ?_ (by as_aux_lemma => kernel_rfl)
    exact upto_zero _
  iterate 4 as_aux_lemma => kernel_rfl
theorem w2_35 : AllB [115, 101, 101, 100, 32, 50] 9 2 := by
  constructor
  · iterate 100 refine upto_step ?_ (by as_aux_lemma => kernel_rfl)
    exact upto_zero _
  iterate 4 as_aux_lemma => kernel_rfl
theorem w2_36 : AllB [115, 101, 101, 100, 32, 50] 9 3 := by
  constructor
  · iterate 100 refine upto_step ?_ (by as_aux_lemma => kernel_rfl)
    exact upto_zero _
  iterate 4 as_aux_lemma => kernel_rfl
theorem w2_37 : AllB [115, 101, 101, 100, 32, 50] 9 4 := by
  constructor
  · iterate 100 refine upto_step ?_ (by as_aux_lemma => kernel_rfl)
    exact upto_zero _
  iterate 4 as_aux_lemma => kernel_rfl
theorem w2_38 : AllB [115, 101, 101, 100, 32, 50] 10 2 := by
  constructor
  · iterate 100 refine upto_step ?_ (by as_aux_lemma => kernel_rfl)
    exact upto_zero _
  iterate 4 as_aux_lemma => kernel_rfl
theorem w2_39 : AllB [115, 101, 101, 100, 32, 50] 10 4 := by
  constructor
  · iterate 100 refine upto_step ?_ (by as_aux_lemma => kernel_rfl)
    exact upto_zero _
  iterate 4 as_aux_lemma => kernel_rfl
theorem w2_40 : AllB [115, 101, 101, 100, 32, 50] 11 2 := by
  constructor
  · iterate 100 refine upto_step ?_ (by as_aux_lemma => kernel_rfl)
    exact upto_zero _
  iterate 4 as_aux_lemma => kernel_rfl
theorem w2_41 : AllB [115, 101, 101, 100, 32, 50] 12 2 := by
  constructor
  · iterate 100 refine upto_step ?_ (by as_aux_lemma => kernel_rfl)
    exact upto_zero _
  iterate 4 as_aux_lemma => kernel_rfl
theorem w3_0 : AllB [120] 0 2 := by
  constructor
  · iterate 100 refine upto_step ?_ (by as_aux_lemma => kernel_rfl)
    exact upto_zero _
  iterate 4 as_aux_lemma => kernel_rfl
theorem w3_1 : AllB [120] 0 3 := by
  constructor
  · iterate 100 refine upto_step ?_ (by as_aux_lemma => kernel_rfl)
    exact upto_zero _
  iterate 4 as_aux_lemma => kernel_rfl
theorem w3_2 : AllB [120] 0 4 := by
  constructor
  · iterate 100 refine upto_step ?_ (by as_aux_lemma => kernel_rfl)
    exact upto_zero _
  iterate 4 as_aux_lemma => kernel_rfl
theorem w3_3 : AllB [120] 0 5 := by
  constructor
  · iterate 100 refine upto_step ?_ (by as_aux_lemma => kernel_rfl)
    exact upto_zero _
  iterate 4 as_aux_lemma => kernel_rfl
theorem w3_4 : AllB [120] 0 6 := by
  constructor
  · iterate 100 refine upto_step ?_ (by as_aux_lemma => kernel_rfl)
    exact upto_zero _
  iterate 4 as_aux_lemma => kernel_rfl
theorem w3_5 : AllB [120] 0 7 := by
  constructor
  · iterate 100 refine upto_step ?_ (by as_aux_lemma => kernel_rfl)
    exact upto_zero _
  iterate 4 as_aux_lemma => kernel_rfl
theorem w3_6 : AllB [120] 0 8 := by
  constructor
  · iterate 100 refine upto_step ?_ (by as_aux_lemma => kernel_rfl)
    exact upto_zero _
  iterate 4 as_aux_lemma => kernel_rfl
theorem w3_7 : AllB [120] 0 9 := by
  constructor
  · iterate 100 refine upto_step ?_ (by as_aux_lemma => kernel_rfl)
    exact upto_zero _
  iterate 4 as_aux_lemma => kernel_rfl
theorem w3_8 : AllB [120] 0 10 := by
  constructor
  · iterate 100 refine upto_step ?_ (by as_aux_lemma => kernel_rfl)
    exact upto_zero _
  iterate 4 as_aux_lemma => kernel_rfl
theorem w3_9 : AllB [120] 0 11 := by
  constructor
  · iterate 100 refine upto_step ?_ (by as_aux_lemma => kernel_rfl)
    exact upto_zero _
  iterate 4 as_aux_lemma => kernel_rfl
theorem w3_10 : AllB [120] 0 12 := by
  constructor
  · iterate 100 refine upto_step ?_ (by as_aux_lemma => kernel_rfl)
    exact upto_zero _
  iterate 4 as_aux_lemma => kernel_rfl
theorem w3_11 : AllB [120] 0 13 := by
  constructor
  · iterate 100 refine upto_step ?_ (by as_aux_lemma => kernel_rfl)
    exact upto_zero _
  iterate 4 as_aux_lemma => kernel_rfl
theorem w3_12 : AllB [120] 1 2 := by
  constructor
  · iterate 100 refine upto_step ?_ (by as_aux_lemma => kernel_rfl)
    exact upto_zero _
  iterate 4 as_aux_lemma => kernel_rfl
theorem w3_13 : AllB [120] 2 2 := by
  constructor
  · iterate 100 refine upto_step ?_ (by as_aux_lemma => kernel_rfl)
    exact upto_zero _
  iterate 4 as_aux_lemma => kernel_rfl
theorem w3_14 : AllB [120] 2 3 := by
  constructor
  · iterate 100 refine upto_step ?_ (by as_aux_lemma => kernel_rfl)
    exact upto_zero _
  iterate 4 as_aux_lemma => kernel_rfl
theorem w3_15 : AllB [120] 3 2 := by
  constructor
  · iterate 100 refine upto_step ?_ (by as_aux_lemma => kernel_rfl)
    exact upto_zero _
  iterate 4 as_aux_lemma => kernel_rfl
theorem w3_16 : AllB [120] 3 3 := by
  constructor
  · iterate 100 refine upto_step ?_ (by as_aux_lemma => kernel_rfl)
    exact upto_zero _
  iterate 4 as_aux_lemma => kernel_rfl
theorem w3_17 : AllB [120] 3 4 := by
  constructor
  · iterate 100 refine upto_step ?_ (by as_aux_lemma => kernel_rfl)
    exact upto_zero _
  iterate 4 as_aux_lemma => kernel_rfl
theorem w3_18 : AllB [120] 4 2 := by
  constructor
  · iterate 100 refine upto_step ?_ (by as_aux_lemma => kernel_rfl)
    exact upto_zero _
  iterate 4 as_aux_lemma => kernel_rfl
theorem w3_19 : AllB [120] 4 4 := by
  constructor
  · iterate 100 refine upto_step ?_ (by as_aux_lemma => kernel_rfl)
    exact upto_zero _
  iterate 4 as_aux_lemma => kernel_rfl
theorem w3_20 : AllB [120] 4 5 := by
  constructor
  · iterate 100 refine upto_step ?_ (by as_aux_lemma => kernel_rfl)
    exact upto_zero _
  iterate 4 as_aux_lemma => kernel_rfl
theorem w3_21 : AllB [120] 5 2 := by
  constructor
  · iterate 100 refine upto_step ?_ (by as_aux_lemma => kernel_rfl)
    exact upto_zero _
  iterate 4 as_aux_lemma => kernel_rfl
theorem w3_22 : AllB [120] 5 3 := by
  constructor
  · iterate 100 refine upto_step ?_ (by as_aux_lemma => kernel_rfl)
    exact upto_zero _
  iterate 4 as_aux_lemma => kernel_rfl
theorem w3_23 : AllB [120] 5 5 := by
  constructor
  · iterate 100 refine upto_step ?_ (by as_aux_lemma => kernel_rfl)
    exact upto_zero _
  iterate 4 as_aux_lemma => kernel_rfl
theorem w3_24 : AllB [120] 5 6 := by
  constructor
  · iterate 100 refine upto_step ?_ (by as_aux_lemma => kernel_rfl)
    exact upto_zero _
  iterate 4 as_aux_lemma => kernel_rfl
theorem w3_25 : AllB [120] 6 2 := by
  constructor
  · iterate 100 refine upto_step ?_ (by as_aux_lemma => kernel_rfl)
    exact upto_zero _
  iterate 4 as_aux_lemma => kernel_rfl
theorem w3_26 : AllB [120] 6 3 := by
  constructor
  · iterate 100 refine upto_step ?_ (by as_aux_lemma => kernel_rfl)
    exact upto_zero _
  iterate 4 as_aux_lemma => kernel_rfl
theorem w3_27 : AllB [120] 6 6 := by
  constructor
  · iterate 100 refine upto_step ?_ (by as_aux_lemma => kernel_rfl)
    exact upto_zero _
  iterate 4 as_aux_lemma => kernel_rfl
theorem w3_28 : AllB [120] 6 7 := by
  constructor
  · iterate 100 refine upto_step ?_ (by as_aux_lemma => kernel_rfl)
    exact upto_zero _
  iterate 4 as_aux_lemma => kernel_rfl
theorem w3_29 : AllB [120] 7 2 := by
  constructor
  · iterate 100 refine upto_step ?_ (by as_aux_lemma => kernel_rfl)
    exact upto_zero _
  iterate 4 as_aux_lemma => kernel_rfl
theorem w3_30 : AllB [120] 7 3 := by
  constructor
  · iterate 100 refine upto_step ?_ (by as_aux_lemma => kernel_rfl)
    exact upto_zero _
  iterate 4 as_aux_lemma => kernel_rfl
theorem w3_31 : AllB [120] 8 2 := by
  constructor
  · iterate 100 refine upto_step ?_ (by as_aux_lemma => kernel_rfl)
    exact upto_zero _
  iterate 4 as_aux_lemma => kernel_rfl
theorem w3_32 : AllB [120] 8 3 := by
  constructor
  · iterate 100 refine upto_step ?_ (by as_aux_lemma => kernel_rfl)
    exact upto_zero _
  iterate 4 as_aux_lemma => kernel_rfl
theorem w3_33 : AllB [120] 9 2 := by
  constructor
  · iterate 100 refine upto_step ?_ (by as_aux_lemma => kernel_rfl)
    exact upto_zero _
  iterate 4 as_aux_lemma => kernel_rfl
theorem w3_34 : AllB [120] 9 3 := by
  constructor
  · iterate 100 refine upto_step ?_ (by as_aux_lemma => kernel_rfl)
    exact upto_zero _
  iterate 4 as_aux_lemma => kernel_rfl
theorem w3_35 : AllB [120] 9 4 := by
  constructor
  · iterate 100 refine upto_step ?_ (by as_aux_lemma => kernel_rfl)
    exact upto_zero _
  iterate 4 as_aux_lemma => kernel_rfl
theorem w3_36 : AllB [120] 10 2 := by
  constructor
  · iterate 100 refine upto_step ?_ (by as_aux_lemma => kernel_rfl)
    exact upto_zero _
  iterate 4 as_aux_lemma => kernel_rfl
theorem w3_37 : AllB [120] 11 2 := by
  constructor
  · iterate 100 refine upto_step ?_ (by as_aux_lemma => kernel_rfl)
    exact upto_zero _
  iterate 4 as_aux_lemma => kernel_rfl
theorem w4_0 : AllB [115, 120] 0 2 := by
  constructor
  · iterate 100 refine upto_step ?_ (by as_aux_lemma => kernel_rfl)
    exact upto_zero _
  iterate 4 as_aux_lemma => kernel_rfl
theorem w4_1 : AllB [115, 120] 0 3 := by
  constructor
  · iterate 100 refine upto_step ?_ (by as_aux_lemma => kernel_rfl)
    exact upto_zero _
  iterate 4 as_aux_lemma => kernel_rfl
theorem w4_2 : AllB [115, 120] 0 4 := by
  constructor
  · iterate 100 refine upto_step ?_ (by as_aux_lemma => kernel_rfl)
    exact upto_zero _
  iterate 4 as_aux_lemma => kernel_rfl
theorem w4_3 : AllB [115, 120] 0 5 := by
  constructor
  · iterate 100 refine upto_step ?_ (by as_aux_lemma => kernel_rfl)
    exact upto_zero _
  iterate 4 as_aux_lemma => kernel_rfl
theorem w4_4 : AllB [115, 120] 0 6 := by
  constructor
  · iterate 100 refine upto_step ?_ (by as_aux_lemma => kernel_rfl)
    exact upto_zero _
  iterate 4 as_aux_lemma => kernel_rfl
theorem w4_5 : AllB [115, 120] 0 7 := by
  constructor
  · iterate 100 refine upto_step ?_ (by as_aux_lemma => kernel_rfl)
    exact upto_zero _
  iterate 4 as_aux_lemma => kernel_rfl
theorem w4_6 : AllB [115, 120] 0 8 := by
  constructor
  · iterate 100 refine upto_step ?_ (by as_aux_lemma => kernel_rfl)
    exact upto_zero _
  iterate 4 as_aux_lemma => kernel_rfl
end Go.Proofs.YtnionejefpnfoaaDoor
