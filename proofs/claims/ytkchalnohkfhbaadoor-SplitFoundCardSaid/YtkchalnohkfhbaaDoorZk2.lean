/- The checks of the batches of draws, reckoned by the kernel: part 3 of 6. No condition; nothing of the program stands here but the specification of its words. -/
import Derived.Test.YtkchalnohkfhbaaDoorZe
set_option linter.unusedVariables false
namespace Go.Proofs.YtkchalnohkfhbaaDoor

theorem k1_0_0 : chkR [115] 0 2 (4 * 0) 4 = true := by kernel_rfl
theorem k1_0_1 : chkR [115] 0 2 (4 * 1) 4 = true := by kernel_rfl
theorem k1_0_2 : chkR [115] 0 2 (4 * 2) 4 = true := by kernel_rfl
theorem k1_0_3 : chkR [115] 0 2 (4 * 3) 4 = true := by kernel_rfl
theorem k1_0_4 : chkR [115] 0 2 (4 * 4) 4 = true := by kernel_rfl
theorem k1_0_5 : chkR [115] 0 2 (4 * 5) 4 = true := by kernel_rfl
theorem k1_0_6 : chkR [115] 0 2 (4 * 6) 4 = true := by kernel_rfl
theorem k1_0_7 : chkR [115] 0 2 (4 * 7) 4 = true := by kernel_rfl
theorem k1_0_8 : chkR [115] 0 2 (4 * 8) 4 = true := by kernel_rfl
theorem k1_0_9 : chkR [115] 0 2 (4 * 9) 4 = true := by kernel_rfl
theorem k1_0_10 : chkR [115] 0 2 (4 * 10) 4 = true := by kernel_rfl
theorem k1_0_11 : chkR [115] 0 2 (4 * 11) 4 = true := by kernel_rfl
theorem k1_0_12 : chkR [115] 0 2 (4 * 12) 4 = true := by kernel_rfl
theorem k1_0_13 : chkR [115] 0 2 (4 * 13) 4 = true := by kernel_rfl
theorem k1_0_14 : chkR [115] 0 2 (4 * 14) 4 = true := by kernel_rfl
theorem k1_0_15 : chkR [115] 0 2 (4 * 15) 4 = true := by kernel_rfl
theorem k1_0_16 : chkR [115] 0 2 (4 * 16) 4 = true := by kernel_rfl
theorem k1_0_17 : chkR [115] 0 2 (4 * 17) 4 = true := by kernel_rfl
theorem k1_0_18 : chkR [115] 0 2 (4 * 18) 4 = true := by kernel_rfl
theorem k1_0_19 : chkR [115] 0 2 (4 * 19) 4 = true := by kernel_rfl
theorem k1_0_20 : chkR [115] 0 2 (4 * 20) 4 = true := by kernel_rfl
theorem k1_0_21 : chkR [115] 0 2 (4 * 21) 4 = true := by kernel_rfl
theorem k1_0_22 : chkR [115] 0 2 (4 * 22) 4 = true := by kernel_rfl
theorem k1_0_23 : chkR [115] 0 2 (4 * 23) 4 = true := by kernel_rfl
theorem k1_0_24 : chkR [115] 0 2 (4 * 24) 4 = true := by kernel_rfl
theorem o1_0 : chkO [115] 0 2 = true := by kernel_rfl
theorem ok1_0 : OkB [115] 0 2 :=
  okB_of (fun k hk => match k, hk with
    | 0, _ => k1_0_0
    | 1, _ => k1_0_1
    | 2, _ => k1_0_2
    | 3, _ => k1_0_3
    | 4, _ => k1_0_4
    | 5, _ => k1_0_5
    | 6, _ => k1_0_6
    | 7, _ => k1_0_7
    | 8, _ => k1_0_8
    | 9, _ => k1_0_9
    | 10, _ => k1_0_10
    | 11, _ => k1_0_11
    | 12, _ => k1_0_12
    | 13, _ => k1_0_13
    | 14, _ => k1_0_14
    | 15, _ => k1_0_15
    | 16, _ => k1_0_16
    | 17, _ => k1_0_17
    | 18, _ => k1_0_18
    | 19, _ => k1_0_19
    | 20, _ => k1_0_20
    | 21, _ => k1_0_21
    | 22, _ => k1_0_22
    | 23, _ => k1_0_23
    | 24, _ => k1_0_24
    | k + 25, h => absurd h (by omega)) o1_0
theorem k1_1_0 : chkR [115] 0 3 (4 * 0) 4 = true := by kernel_rfl
theorem k1_1_1 : chkR [115] 0 3 (4 * 1) 4 = true := by kernel_rfl
theorem k1_1_2 : chkR [115] 0 3 (4 * 2) 4 = true := by kernel_rfl
theorem k1_1_3 : chkR [115] 0 3 (4 * 3) 4 = true := by kernel_rfl
theorem k1_1_4 : chkR [115] 0 3 (4 * 4) 4 = true := by kernel_rfl
theorem k1_1_5 : chkR [115] 0 3 (4 * 5) 4 = true := by kernel_rfl
theorem k1_1_6 : chkR [115] 0 3 (4 * 6) 4 = true := by kernel_rfl
theorem k1_1_7 : chkR [115] 0 3 (4 * 7) 4 = true := by kernel_rfl
theorem k1_1_8 : chkR [115] 0 3 (4 * 8) 4 = true := by kernel_rfl
theorem k1_1_9 : chkR [115] 0 3 (4 * 9) 4 = true := by kernel_rfl
theorem k1_1_10 : chkR [115] 0 3 (4 * 10) 4 = true := by kernel_rfl
theorem k1_1_11 : chkR [115] 0 3 (4 * 11) 4 = true := by kernel_rfl
theorem k1_1_12 : chkR [115] 0 3 (4 * 12) 4 = true := by kernel_rfl
theorem k1_1_13 : chkR [115] 0 3 (4 * 13) 4 = true := by kernel_rfl
theorem k1_1_14 : chkR [115] 0 3 (4 * 14) 4 = true := by kernel_rfl
theorem k1_1_15 : chkR [115] 0 3 (4 * 15) 4 = true := by kernel_rfl
theorem k1_1_16 : chkR [115] 0 3 (4 * 16) 4 = true := by kernel_rfl
theorem k1_1_17 : chkR [115] 0 3 (4 * 17) 4 = true := by kernel_rfl
theorem k1_1_18 : chkR [115] 0 3 (4 * 18) 4 = true := by kernel_rfl
theorem k1_1_19 : chkR [115] 0 3 (4 * 19) 4 = true := by kernel_rfl
theorem k1_1_20 : chkR [115] 0 3 (4 * 20) 4 = true := by kernel_rfl
theorem k1_1_21 : chkR [115] 0 3 (4 * 21) 4 = true := by kernel_rfl
theorem k1_1_22 : chkR [115] 0 3 (4 * 22) 4 = true := by kernel_rfl
theorem k1_1_23 : chkR [115] 0 3 (4 * 23) 4 = true := by kernel_rfl
theorem k1_1_24 : chkR [115] 0 3 (4 * 24) 4 = true := by kernel_rfl
theorem o1_1 : chkO [115] 0 3 = true := by kernel_rfl
theorem ok1_1 : OkB [115] 0 3 :=
  okB_of (fun k hk => match k, hk with
    | 0, _ => k1_1_0
    | 1, _ => k1_1_1
    | 2, _ => k1_1_2
    | 3, _ => k1_1_3
    | 4, _ => k1_1_4
    | 5, _ => k1_1_5
    | 6, _ => k1_1_6
    | 7, _ => k1_1_7
    | 8, _ => k1_1_8
    | 9, _ => k1_1_9
    | 10, _ => k1_1_10
    | 11, _ => k1_1_11
    | 12, _ => k1_1_12
    | 13, _ => k1_1_13
    | 14, _ => k1_1_14
    | 15, _ => k1_1_15
    | 16, _ => k1_1_16
    | 17, _ => k1_1_17
    | 18, _ => k1_1_18
    | 19, _ => k1_1_19
    | 20, _ => k1_1_20
    | 21, _ => k1_1_21
    | 22, _ => k1_1_22
    | 23, _ => k1_1_23
    | 24, _ => k1_1_24
    | k + 25, h => absurd h (by omega)) o1_1
theorem k1_2_0 : chkR [115] 0 4 (4 * 0) 4 = true := by kernel_rfl
theorem k1_2_1 : chkR [115] 0 4 (4 * 1) 4 = true := by kernel_rfl
theorem k1_2_2 : chkR [115] 0 4 (4 * 2) 4 = true := by kernel_rfl
theorem k1_2_3 : chkR [115] 0 4 (4 * 3) 4 = true := by kernel_rfl
theorem k1_2_4 : chkR [115] 0 4 (4 * 4) 4 = true := by kernel_rfl
theorem k1_2_5 : chkR [115] 0 4 (4 * 5) 4 = true := by kernel_rfl
theorem k1_2_6 : chkR [115] 0 4 (4 * 6) 4 = true := by kernel_rfl
theorem k1_2_7 : chkR [115] 0 4 (4 * 7) 4 = true := by kernel_rfl
theorem k1_2_8 : chkR [115] 0 4 (4 * 8) 4 = true := by kernel_rfl
theorem k1_2_9 : chkR [115] 0 4 (4 * 9) 4 = true := by kernel_rfl
theorem k1_2_10 : chkR [115] 0 4 (4 * 10) 4 = true := by kernel_rfl
theorem k1_2_11 : chkR [115] 0 4 (4 * 11) 4 = true := by kernel_rfl
theorem k1_2_12 : chkR [115] 0 4 (4 * 12) 4 = true := by kernel_rfl
theorem k1_2_13 : chkR [115] 0 4 (4 * 13) 4 = true := by kernel_rfl
theorem k1_2_14 : chkR [115] 0 4 (4 * 14) 4 = true := by kernel_rfl
theorem k1_2_15 : chkR [115] 0 4 (4 * 15) 4 = true := by kernel_rfl
theorem k1_2_16 : chkR [115] 0 4 (4 * 16) 4 = true := by kernel_rfl
theorem k1_2_17 : chkR [115] 0 4 (4 * 17) 4 = true := by kernel_rfl
theorem k1_2_18 : chkR [115] 0 4 (4 * 18) 4 = true := by kernel_rfl
theorem k1_2_19 : chkR [115] 0 4 (4 * 19) 4 = true := by kernel_rfl
theorem k1_2_20 : chkR [115] 0 4 (4 * 20) 4 = true := by kernel_rfl
theorem k1_2_21 : chkR [115] 0 4 (4 * 21) 4 = true := by kernel_rfl
theorem k1_2_22 : chkR [115] 0 4 (4 * 22) 4 = true := by kernel_rfl
theorem k1_2_23 : chkR [115] 0 4 (4 * 23) 4 = true := by kernel_rfl
theorem k1_2_24 : chkR [115] 0 4 (4 * 24) 4 = true := by kernel_rfl
theorem o1_2 : chkO [115] 0 4 = true := by kernel_rfl
theorem ok1_2 : OkB [115] 0 4 :=
  okB_of (fun k hk => match k, hk with
    | 0, _ => k1_2_0
    | 1, _ => k1_2_1
    | 2, _ => k1_2_2
    | 3, _ => k1_2_3
    | 4, _ => k1_2_4
    | 5, _ => k1_2_5
    | 6, _ => k1_2_6
    | 7, _ => k1_2_7
    | 8, _ => k1_2_8
    | 9, _ => k1_2_9
    | 10, _ => k1_2_10
    | 11, _ => k1_2_11
    | 12, _ => k1_2_12
    | 13, _ => k1_2_13
    | 14, _ => k1_2_14
    | 15, _ => k1_2_15
    | 16, _ => k1_2_16
    | 17, _ => k1_2_17
    | 18, _ => k1_2_18
    | 19, _ => k1_2_19
    | 20, _ => k1_2_20
    | 21, _ => k1_2_21
    | 22, _ => k1_2_22
    | 23, _ => k1_2_23
    | 24, _ => k1_2_24
    | k + 25, h => absurd h (by omega)) o1_2
theorem k1_3_0 : chkR [115] 0 5 (4 * 0) 4 = true := by kernel_rfl
theorem k1_3_1 : chkR [115] 0 5 (4 * 1) 4 = true := by kernel_rfl
theorem k1_3_2 : chkR [115] 0 5 (4 * 2) 4 = true := by kernel_rfl
theorem k1_3_3 : chkR [115] 0 5 (4 * 3) 4 = true := by kernel_rfl
theorem k1_3_4 : chkR [115] 0 5 (4 * 4) 4 = true := by kernel_rfl
theorem k1_3_5 : chkR [115] 0 5 (4 * 5) 4 = true := by kernel_rfl
theorem k1_3_6 : chkR [115] 0 5 (4 * 6) 4 = true := by kernel_rfl
theorem k1_3_7 : chkR [115] 0 5 (4 * 7) 4 = true := by kernel_rfl
theorem k1_3_8 : chkR [115] 0 5 (4 * 8) 4 = true := by kernel_rfl
theorem k1_3_9 : chkR [115] 0 5 (4 * 9) 4 = true := by kernel_rfl
theorem k1_3_10 : chkR [115] 0 5 (4 * 10) 4 = true := by kernel_rfl
theorem k1_3_11 : chkR [115] 0 5 (4 * 11) 4 = true := by kernel_rfl
theorem k1_3_12 : chkR [115] 0 5 (4 * 12) 4 = true := by kernel_rfl
theorem k1_3_13 : chkR [115] 0 5 (4 * 13) 4 = true := by kernel_rfl
theorem k1_3_14 : chkR [115] 0 5 (4 * 14) 4 = true := by kernel_rfl
theorem k1_3_15 : chkR [115] 0 5 (4 * 15) 4 = true := by kernel_rfl
theorem k1_3_16 : chkR [115] 0 5 (4 * 16) 4 = true := by kernel_rfl
theorem k1_3_17 : chkR [115] 0 5 (4 * 17) 4 = true := by kernel_rfl
theorem k1_3_18 : chkR [115] 0 5 (4 * 18) 4 = true := by kernel_rfl
theorem k1_3_19 : chkR [115] 0 5 (4 * 19) 4 = true := by kernel_rfl
theorem k1_3_20 : chkR [115] 0 5 (4 * 20) 4 = true := by kernel_rfl
theorem k1_3_21 : chkR [115] 0 5 (4 * 21) 4 = true := by kernel_rfl
theorem k1_3_22 : chkR [115] 0 5 (4 * 22) 4 = true := by kernel_rfl
theorem k1_3_23 : chkR [115] 0 5 (4 * 23) 4 = true := by kernel_rfl
theorem k1_3_24 : chkR [115] 0 5 (4 * 24) 4 = true := by kernel_rfl
theorem o1_3 : chkO [115] 0 5 = true := by kernel_rfl
theorem ok1_3 : OkB [115] 0 5 :=
  okB_of (fun k hk => match k, hk with
    | 0, _ => k1_3_0
    | 1, _ => k1_3_1
    | 2, _ => k1_3_2
    | 3, _ => k1_3_3
    | 4, _ => k1_3_4
    | 5, _ => k1_3_5
    | 6, _ => k1_3_6
    | 7, _ => k1_3_7
    | 8, _ => k1_3_8
    | 9, _ => k1_3_9
    | 10, _ => k1_3_10
    | 11, _ => k1_3_11
    | 12, _ => k1_3_12
    | 13, _ => k1_3_13
    | 14, _ => k1_3_14
    | 15, _ => k1_3_15
    | 16, _ => k1_3_16
    | 17, _ => k1_3_17
    | 18, _ => k1_3_18
    | 19, _ => k1_3_19
    | 20, _ => k1_3_20
    | 21, _ => k1_3_21
    | 22, _ => k1_3_22
    | 23, _ => k1_3_23
    | 24, _ => k1_3_24
    | k + 25, h => absurd h (by omega)) o1_3
theorem k1_4_0 : chkR [115] 0 6 (4 * 0) 4 = true := by kernel_rfl
theorem k1_4_1 : chkR [115] 0 6 (4 * 1) 4 = true := by kernel_rfl
theorem k1_4_2 : chkR [115] 0 6 (4 * 2) 4 = true := by kernel_rfl
theorem k1_4_3 : chkR [115] 0 6 (4 * 3) 4 = true := by kernel_rfl
theorem k1_4_4 : chkR [115] 0 6 (4 * 4) 4 = true := by kernel_rfl
theorem k1_4_5 : chkR [115] 0 6 (4 * 5) 4 = true := by kernel_rfl
theorem k1_4_6 : chkR [115] 0 6 (4 * 6) 4 = true := by kernel_rfl
theorem k1_4_7 : chkR [115] 0 6 (4 * 7) 4 = true := by kernel_rfl
theorem k1_4_8 : chkR [115] 0 6 (4 * 8) 4 = true := by kernel_rfl
theorem k1_4_9 : chkR [115] 0 6 (4 * 9) 4 = true := by kernel_rfl
theorem k1_4_10 : chkR [115] 0 6 (4 * 10) 4 = true := by kernel_rfl
theorem k1_4_11 : chkR [115] 0 6 (4 * 11) 4 = true := by kernel_rfl
theorem k1_4_12 : chkR [115] 0 6 (4 * 12) 4 = true := by kernel_rfl
theorem k1_4_13 : chkR [115] 0 6 (4 * 13) 4 = true := by kernel_rfl
theorem k1_4_14 : chkR [115] 0 6 (4 * 14) 4 = true := by kernel_rfl
theorem k1_4_15 : chkR [115] 0 6 (4 * 15) 4 = true := by kernel_rfl
theorem k1_4_16 : chkR [115] 0 6 (4 * 16) 4 = true := by kernel_rfl
theorem k1_4_17 : chkR [115] 0 6 (4 * 17) 4 = true := by kernel_rfl
theorem k1_4_18 : chkR [115] 0 6 (4 * 18) 4 = true := by kernel_rfl
theorem k1_4_19 : chkR [115] 0 6 (4 * 19) 4 = true := by kernel_rfl
theorem k1_4_20 : chkR [115] 0 6 (4 * 20) 4 = true := by kernel_rfl
theorem k1_4_21 : chkR [115] 0 6 (4 * 21) 4 = true := by kernel_rfl
theorem k1_4_22 : chkR [115] 0 6 (4 * 22) 4 = true := by kernel_rfl
theorem k1_4_23 : chkR [115] 0 6 (4 * 23) 4 = true := by kernel_rfl
theorem k1_4_24 : chkR [115] 0 6 (4 * 24) 4 = true := by kernel_rfl
theorem o1_4 : chkO [115] 0 6 = true := by kernel_rfl
theorem ok1_4 : OkB [115] 0 6 :=
  okB_of (fun k hk => match k, hk with
    | 0, _ => k1_4_0
    | 1, _ => k1_4_1
    | 2, _ => k1_4_2
    | 3, _ => k1_4_3
    | 4, _ => k1_4_4
    | 5, _ => k1_4_5
    | 6, _ => k1_4_6
    | 7, _ => k1_4_7
    | 8, _ => k1_4_8
    | 9, _ => k1_4_9
    | 10, _ => k1_4_10
    | 11, _ => k1_4_11
    | 12, _ => k1_4_12
    | 13, _ => k1_4_13
    | 14, _ => k1_4_14
    | 15, _ => k1_4_15
    | 16, _ => k1_4_16
    | 17, _ => k1_4_17
    | 18, _ => k1_4_18
    | 19, _ => k1_4_19
    | 20, _ => k1_4_20
    | 21, _ => k1_4_21
    | 22, _ => k1_4_22
    | 23, _ => k1_4_23
    | 24, _ => k1_4_24
    | k + 25, h => absurd h (by omega)) o1_4
theorem k1_5_0 : chkR [115] 0 7 (4 * 0) 4 = true := by kernel_rfl
theorem k1_5_1 : chkR [115] 0 7 (4 * 1) 4 = true := by kernel_rfl
theorem k1_5_2 : chkR [115] 0 7 (4 * 2) 4 = true := by kernel_rfl
theorem k1_5_3 : chkR [115] 0 7 (4 * 3) 4 = true := by kernel_rfl
theorem k1_5_4 : chkR [115] 0 7 (4 * 4) 4 = true := by kernel_rfl
theorem k1_5_5 : chkR [115] 0 7 (4 * 5) 4 = true := by kernel_rfl
theorem k1_5_6 : chkR [115] 0 7 (4 * 6) 4 = true := by kernel_rfl
theorem k1_5_7 : chkR [115] 0 7 (4 * 7) 4 = true := by kernel_rfl
theorem k1_5_8 : chkR [115] 0 7 (4 * 8) 4 = true := by kernel_rfl
theorem k1_5_9 : chkR [115] 0 7 (4 * 9) 4 = true := by kernel_rfl
theorem k1_5_10 : chkR [115] 0 7 (4 * 10) 4 = true := by kernel_rfl
theorem k1_5_11 : chkR [115] 0 7 (4 * 11) 4 = true := by kernel_rfl
theorem k1_5_12 : chkR [115] 0 7 (4 * 12) 4 = true := by kernel_rfl
theorem k1_5_13 : chkR [115] 0 7 (4 * 13) 4 = true := by kernel_rfl
theorem k1_5_14 : chkR [115] 0 7 (4 * 14) 4 = true := by kernel_rfl
theorem k1_5_15 : chkR [115] 0 7 (4 * 15) 4 = true := by kernel_rfl
theorem k1_5_16 : chkR [115] 0 7 (4 * 16) 4 = true := by kernel_rfl
theorem k1_5_17 : chkR [115] 0 7 (4 * 17) 4 = true := by kernel_rfl
theorem k1_5_18 : chkR [115] 0 7 (4 * 18) 4 = true := by kernel_rfl
theorem k1_5_19 : chkR [115] 0 7 (4 * 19) 4 = true := by kernel_rfl
theorem k1_5_20 : chkR [115] 0 7 (4 * 20) 4 = true := by kernel_rfl
theorem k1_5_21 : chkR [115] 0 7 (4 * 21) 4 = true := by kernel_rfl
theorem k1_5_22 : chkR [115] 0 7 (4 * 22) 4 = true := by kernel_rfl
theorem k1_5_23 : chkR [115] 0 7 (4 * 23) 4 = true := by kernel_rfl
theorem k1_5_24 : chkR [115] 0 7 (4 * 24) 4 = true := by kernel_rfl
theorem o1_5 : chkO [115] 0 7 = true := by kernel_rfl
theorem ok1_5 : OkB [115] 0 7 :=
  okB_of (fun k hk => match k, hk with
    | 0, _ => k1_5_0
    | 1, _ => k1_5_1
    | 2, _ => k1_5_2
    | 3, _ => k1_5_3
    | 4, _ => k1_5_4
    | 5, _ => k1_5_5
    | 6, _ => k1_5_6
    | 7, _ => k1_5_7
    | 8, _ => k1_5_8
    | 9, _ => k1_5_9
    | 10, _ => k1_5_10
    | 11, _ => k1_5_11
    | 12, _ => k1_5_12
    | 13, _ => k1_5_13
    | 14, _ => k1_5_14
    | 15, _ => k1_5_15
    | 16, _ => k1_5_16
    | 17, _ => k1_5_17
    | 18, _ => k1_5_18
    | 19, _ => k1_5_19
    | 20, _ => k1_5_20
    | 21, _ => k1_5_21
    | 22, _ => k1_5_22
    | 23, _ => k1_5_23
    | 24, _ => k1_5_24
    | k + 25, h => absurd h (by omega)) o1_5
theorem k1_6_0 : chkR [115] 0 8 (4 * 0) 4 = true := by kernel_rfl
theorem k1_6_1 : chkR [115] 0 8 (4 * 1) 4 = true := by kernel_rfl
theorem k1_6_2 : chkR [115] 0 8 (4 * 2) 4 = true := by kernel_rfl
theorem k1_6_3 : chkR [115] 0 8 (4 * 3) 4 = true := by kernel_rfl
theorem k1_6_4 : chkR [115] 0 8 (4 * 4) 4 = true := by kernel_rfl
theorem k1_6_5 : chkR [115] 0 8 (4 * 5) 4 = true := by kernel_rfl
theorem k1_6_6 : chkR [115] 0 8 (4 * 6) 4 = true := by kernel_rfl
theorem k1_6_7 : chkR [115] 0 8 (4 * 7) 4 = true := by kernel_rfl
theorem k1_6_8 : chkR [115] 0 8 (4 * 8) 4 = true := by kernel_rfl
theorem k1_6_9 : chkR [115] 0 8 (4 * 9) 4 = true := by kernel_rfl
theorem k1_6_10 : chkR [115] 0 8 (4 * 10) 4 = true := by kernel_rfl
theorem k1_6_11 : chkR [115] 0 8 (4 * 11) 4 = true := by kernel_rfl
theorem k1_6_12 : chkR [115] 0 8 (4 * 12) 4 = true := by kernel_rfl
theorem k1_6_13 : chkR [115] 0 8 (4 * 13) 4 = true := by kernel_rfl
theorem k1_6_14 : chkR [115] 0 8 (4 * 14) 4 = true := by kernel_rfl
theorem k1_6_15 : chkR [115] 0 8 (4 * 15) 4 = true := by kernel_rfl
theorem k1_6_16 : chkR [115] 0 8 (4 * 16) 4 = true := by kernel_rfl
theorem k1_6_17 : chkR [115] 0 8 (4 * 17) 4 = true := by kernel_rfl
theorem k1_6_18 : chkR [115] 0 8 (4 * 18) 4 = true := by kernel_rfl
theorem k1_6_19 : chkR [115] 0 8 (4 * 19) 4 = true := by kernel_rfl
theorem k1_6_20 : chkR [115] 0 8 (4 * 20) 4 = true := by kernel_rfl
theorem k1_6_21 : chkR [115] 0 8 (4 * 21) 4 = true := by kernel_rfl
theorem k1_6_22 : chkR [115] 0 8 (4 * 22) 4 = true := by kernel_rfl
theorem k1_6_23 : chkR [115] 0 8 (4 * 23) 4 = true := by kernel_rfl
theorem k1_6_24 : chkR [115] 0 8 (4 * 24) 4 = true := by kernel_rfl
theorem o1_6 : chkO [115] 0 8 = true := by kernel_rfl
theorem ok1_6 : OkB [115] 0 8 :=
  okB_of (fun k hk => match k, hk with
    | 0, _ => k1_6_0
    | 1, _ => k1_6_1
    | 2, _ => k1_6_2
    | 3, _ => k1_6_3
    | 4, _ => k1_6_4
    | 5, _ => k1_6_5
    | 6, _ => k1_6_6
    | 7, _ => k1_6_7
    | 8, _ => k1_6_8
    | 9, _ => k1_6_9
    | 10, _ => k1_6_10
    | 11, _ => k1_6_11
    | 12, _ => k1_6_12
    | 13, _ => k1_6_13
    | 14, _ => k1_6_14
    | 15, _ => k1_6_15
    | 16, _ => k1_6_16
    | 17, _ => k1_6_17
    | 18, _ => k1_6_18
    | 19, _ => k1_6_19
    | 20, _ => k1_6_20
    | 21, _ => k1_6_21
    | 22, _ => k1_6_22
    | 23, _ => k1_6_23
    | 24, _ => k1_6_24
    | k + 25, h => absurd h (by omega)) o1_6
theorem k1_7_0 : chkR [115] 0 9 (4 * 0) 4 = true := by kernel_rfl
theorem k1_7_1 : chkR [115] 0 9 (4 * 1) 4 = true := by kernel_rfl
theorem k1_7_2 : chkR [115] 0 9 (4 * 2) 4 = true := by kernel_rfl
theorem k1_7_3 : chkR [115] 0 9 (4 * 3) 4 = true := by kernel_rfl
theorem k1_7_4 : chkR [115] 0 9 (4 * 4) 4 = true := by kernel_rfl
theorem k1_7_5 : chkR [115] 0 9 (4 * 5) 4 = true := by kernel_rfl
theorem k1_7_6 : chkR [115] 0 9 (4 * 6) 4 = true := by kernel_rfl
theorem k1_7_7 : chkR [115] 0 9 (4 * 7) 4 = true := by kernel_rfl
theorem k1_7_8 : chkR [115] 0 9 (4 * 8) 4 = true := by kernel_rfl
theorem k1_7_9 : chkR [115] 0 9 (4 * 9) 4 = true := by kernel_rfl
theorem k1_7_10 : chkR [115] 0 9 (4 * 10) 4 = true := by kernel_rfl
theorem k1_7_11 : chkR [115] 0 9 (4 * 11) 4 = true := by kernel_rfl
theorem k1_7_12 : chkR [115] 0 9 (4 * 12) 4 = true := by kernel_rfl
theorem k1_7_13 : chkR [115] 0 9 (4 * 13) 4 = true := by kernel_rfl
theorem k1_7_14 : chkR [115] 0 9 (4 * 14) 4 = true := by kernel_rfl
theorem k1_7_15 : chkR [115] 0 9 (4 * 15) 4 = true := by kernel_rfl
theorem k1_7_16 : chkR [115] 0 9 (4 * 16) 4 = true := by kernel_rfl
theorem k1_7_17 : chkR [115] 0 9 (4 * 17) 4 = true := by kernel_rfl
theorem k1_7_18 : chkR [115] 0 9 (4 * 18) 4 = true := by kernel_rfl
theorem k1_7_19 : chkR [115] 0 9 (4 * 19) 4 = true := by kernel_rfl
theorem k1_7_20 : chkR [115] 0 9 (4 * 20) 4 = true := by kernel_rfl
theorem k1_7_21 : chkR [115] 0 9 (4 * 21) 4 = true := by kernel_rfl
theorem k1_7_22 : chkR [115] 0 9 (4 * 22) 4 = true := by kernel_rfl
theorem k1_7_23 : chkR [115] 0 9 (4 * 23) 4 = true := by kernel_rfl
theorem k1_7_24 : chkR [115] 0 9 (4 * 24) 4 = true := by kernel_rfl
theorem o1_7 : chkO [115] 0 9 = true := by kernel_rfl
theorem ok1_7 : OkB [115] 0 9 :=
  okB_of (fun k hk => match k, hk with
    | 0, _ => k1_7_0
    | 1, _ => k1_7_1
    | 2, _ => k1_7_2
    | 3, _ => k1_7_3
    | 4, _ => k1_7_4
    | 5, _ => k1_7_5
    | 6, _ => k1_7_6
    | 7, _ => k1_7_7
    | 8, _ => k1_7_8
    | 9, _ => k1_7_9
    | 10, _ => k1_7_10
    | 11, _ => k1_7_11
    | 12, _ => k1_7_12
    | 13, _ => k1_7_13
    | 14, _ => k1_7_14
    | 15, _ => k1_7_15
    | 16, _ => k1_7_16
    | 17, _ => k1_7_17
    | 18, _ => k1_7_18
    | 19, _ => k1_7_19
    | 20, _ => k1_7_20
    | 21, _ => k1_7_21
    | 22, _ => k1_7_22
    | 23, _ => k1_7_23
    | 24, _ => k1_7_24
    | k + 25, h => absurd h (by omega)) o1_7
theorem k1_8_0 : chkR [115] 0 10 (4 * 0) 4 = true := by kernel_rfl
theorem k1_8_1 : chkR [115] 0 10 (4 * 1) 4 = true := by kernel_rfl
theorem k1_8_2 : chkR [115] 0 10 (4 * 2) 4 = true := by kernel_rfl
theorem k1_8_3 : chkR [115] 0 10 (4 * 3) 4 = true := by kernel_rfl
theorem k1_8_4 : chkR [115] 0 10 (4 * 4) 4 = true := by kernel_rfl
theorem k1_8_5 : chkR [115] 0 10 (4 * 5) 4 = true := by kernel_rfl
theorem k1_8_6 : chkR [115] 0 10 (4 * 6) 4 = true := by kernel_rfl
theorem k1_8_7 : chkR [115] 0 10 (4 * 7) 4 = true := by kernel_rfl
theorem k1_8_8 : chkR [115] 0 10 (4 * 8) 4 = true := by kernel_rfl
theorem k1_8_9 : chkR [115] 0 10 (4 * 9) 4 = true := by kernel_rfl
theorem k1_8_10 : chkR [115] 0 10 (4 * 10) 4 = true := by kernel_rfl
theorem k1_8_11 : chkR [115] 0 10 (4 * 11) 4 = true := by kernel_rfl
theorem k1_8_12 : chkR [115] 0 10 (4 * 12) 4 = true := by kernel_rfl
theorem k1_8_13 : chkR [115] 0 10 (4 * 13) 4 = true := by kernel_rfl
theorem k1_8_14 : chkR [115] 0 10 (4 * 14) 4 = true := by kernel_rfl
theorem k1_8_15 : chkR [115] 0 10 (4 * 15) 4 = true := by kernel_rfl
theorem k1_8_16 : chkR [115] 0 10 (4 * 16) 4 = true := by kernel_rfl
theorem k1_8_17 : chkR [115] 0 10 (4 * 17) 4 = true := by kernel_rfl
theorem k1_8_18 : chkR [115] 0 10 (4 * 18) 4 = true := by kernel_rfl
theorem k1_8_19 : chkR [115] 0 10 (4 * 19) 4 = true := by kernel_rfl
theorem k1_8_20 : chkR [115] 0 10 (4 * 20) 4 = true := by kernel_rfl
theorem k1_8_21 : chkR [115] 0 10 (4 * 21) 4 = true := by kernel_rfl
theorem k1_8_22 : chkR [115] 0 10 (4 * 22) 4 = true := by kernel_rfl
theorem k1_8_23 : chkR [115] 0 10 (4 * 23) 4 = true := by kernel_rfl
theorem k1_8_24 : chkR [115] 0 10 (4 * 24) 4 = true := by kernel_rfl
theorem o1_8 : chkO [115] 0 10 = true := by kernel_rfl
theorem ok1_8 : OkB [115] 0 10 :=
  okB_of (fun k hk => match k, hk with
    | 0, _ => k1_8_0
    | 1, _ => k1_8_1
    | 2, _ => k1_8_2
    | 3, _ => k1_8_3
    | 4, _ => k1_8_4
    | 5, _ => k1_8_5
    | 6, _ => k1_8_6
    | 7, _ => k1_8_7
    | 8, _ => k1_8_8
    | 9, _ => k1_8_9
    | 10, _ => k1_8_10
    | 11, _ => k1_8_11
    | 12, _ => k1_8_12
    | 13, _ => k1_8_13
    | 14, _ => k1_8_14
    | 15, _ => k1_8_15
    | 16, _ => k1_8_16
    | 17, _ => k1_8_17
    | 18, _ => k1_8_18
    | 19, _ => k1_8_19
    | 20, _ => k1_8_20
    | 21, _ => k1_8_21
    | 22, _ => k1_8_22
    | 23, _ => k1_8_23
    | 24, _ => k1_8_24
    | k + 25, h => absurd h (by omega)) o1_8
theorem k1_9_0 : chkR [115] 0 11 (4 * 0) 4 = true := by kernel_rfl
theorem k1_9_1 : chkR [115] 0 11 (4 * 1) 4 = true := by kernel_rfl
theorem k1_9_2 : chkR [115] 0 11 (4 * 2) 4 = true := by kernel_rfl
theorem k1_9_3 : chkR [115] 0 11 (4 * 3) 4 = true := by kernel_rfl
theorem k1_9_4 : chkR [115] 0 11 (4 * 4) 4 = true := by kernel_rfl
theorem k1_9_5 : chkR [115] 0 11 (4 * 5) 4 = true := by kernel_rfl
theorem k1_9_6 : chkR [115] 0 11 (4 * 6) 4 = true := by kernel_rfl
theorem k1_9_7 : chkR [115] 0 11 (4 * 7) 4 = true := by kernel_rfl
theorem k1_9_8 : chkR [115] 0 11 (4 * 8) 4 = true := by kernel_rfl
theorem k1_9_9 : chkR [115] 0 11 (4 * 9) 4 = true := by kernel_rfl
theorem k1_9_10 : chkR [115] 0 11 (4 * 10) 4 = true := by kernel_rfl
theorem k1_9_11 : chkR [115] 0 11 (4 * 11) 4 = true := by kernel_rfl
theorem k1_9_12 : chkR [115] 0 11 (4 * 12) 4 = true := by kernel_rfl
theorem k1_9_13 : chkR [115] 0 11 (4 * 13) 4 = true := by kernel_rfl
theorem k1_9_14 : chkR [115] 0 11 (4 * 14) 4 = true := by kernel_rfl
theorem k1_9_15 : chkR [115] 0 11 (4 * 15) 4 = true := by kernel_rfl
theorem k1_9_16 : chkR [115] 0 11 (4 * 16) 4 = true := by kernel_rfl
theorem k1_9_17 : chkR [115] 0 11 (4 * 17) 4 = true := by kernel_rfl
theorem k1_9_18 : chkR [115] 0 11 (4 * 18) 4 = true := by kernel_rfl
theorem k1_9_19 : chkR [115] 0 11 (4 * 19) 4 = true := by kernel_rfl
theorem k1_9_20 : chkR [115] 0 11 (4 * 20) 4 = true := by kernel_rfl
theorem k1_9_21 : chkR [115] 0 11 (4 * 21) 4 = true := by kernel_rfl
theorem k1_9_22 : chkR [115] 0 11 (4 * 22) 4 = true := by kernel_rfl
theorem k1_9_23 : chkR [115] 0 11 (4 * 23) 4 = true := by kernel_rfl
theorem k1_9_24 : chkR [115] 0 11 (4 * 24) 4 = true := by kernel_rfl
theorem o1_9 : chkO [115] 0 11 = true := by kernel_rfl
theorem ok1_9 : OkB [115] 0 11 :=
  okB_of (fun k hk => match k, hk with
    | 0, _ => k1_9_0
    | 1, _ => k1_9_1
    | 2, _ => k1_9_2
    | 3, _ => k1_9_3
    | 4, _ => k1_9_4
    | 5, _ => k1_9_5
    | 6, _ => k1_9_6
    | 7, _ => k1_9_7
    | 8, _ => k1_9_8
    | 9, _ => k1_9_9
    | 10, _ => k1_9_10
    | 11, _ => k1_9_11
    | 12, _ => k1_9_12
    | 13, _ => k1_9_13
    | 14, _ => k1_9_14
    | 15, _ => k1_9_15
    | 16, _ => k1_9_16
    | 17, _ => k1_9_17
    | 18, _ => k1_9_18
    | 19, _ => k1_9_19
    | 20, _ => k1_9_20
    | 21, _ => k1_9_21
    | 22, _ => k1_9_22
    | 23, _ => k1_9_23
    | 24, _ => k1_9_24
    | k + 25, h => absurd h (by omega)) o1_9
theorem k1_10_0 : chkR [115] 0 12 (4 * 0) 4 = true := by kernel_rfl
theorem k1_10_1 : chkR [115] 0 12 (4 * 1) 4 = true := by kernel_rfl
theorem k1_10_2 : chkR [115] 0 12 (4 * 2) 4 = true := by kernel_rfl
theorem k1_10_3 : chkR [115] 0 12 (4 * 3) 4 = true := by kernel_rfl
theorem k1_10_4 : chkR [115] 0 12 (4 * 4) 4 = true := by kernel_rfl
theorem k1_10_5 : chkR [115] 0 12 (4 * 5) 4 = true := by kernel_rfl
theorem k1_10_6 : chkR [115] 0 12 (4 * 6) 4 = true := by kernel_rfl
theorem k1_10_7 : chkR [115] 0 12 (4 * 7) 4 = true := by kernel_rfl
theorem k1_10_8 : chkR [115] 0 12 (4 * 8) 4 = true := by kernel_rfl
theorem k1_10_9 : chkR [115] 0 12 (4 * 9) 4 = true := by kernel_rfl
theorem k1_10_10 : chkR [115] 0 12 (4 * 10) 4 = true := by kernel_rfl
theorem k1_10_11 : chkR [115] 0 12 (4 * 11) 4 = true := by kernel_rfl
theorem k1_10_12 : chkR [115] 0 12 (4 * 12) 4 = true := by kernel_rfl
theorem k1_10_13 : chkR [115] 0 12 (4 * 13) 4 = true := by kernel_rfl
theorem k1_10_14 : chkR [115] 0 12 (4 * 14) 4 = true := by kernel_rfl
theorem k1_10_15 : chkR [115] 0 12 (4 * 15) 4 = true := by kernel_rfl
theorem k1_10_16 : chkR [115] 0 12 (4 * 16) 4 = true := by kernel_rfl
theorem k1_10_17 : chkR [115] 0 12 (4 * 17) 4 = true := by kernel_rfl
theorem k1_10_18 : chkR [115] 0 12 (4 * 18) 4 = true := by kernel_rfl
theorem k1_10_19 : chkR [115] 0 12 (4 * 19) 4 = true := by kernel_rfl
theorem k1_10_20 : chkR [115] 0 12 (4 * 20) 4 = true := by kernel_rfl
theorem k1_10_21 : chkR [115] 0 12 (4 * 21) 4 = true := by kernel_rfl
theorem k1_10_22 : chkR [115] 0 12 (4 * 22) 4 = true := by kernel_rfl
theorem k1_10_23 : chkR [115] 0 12 (4 * 23) 4 = true := by kernel_rfl
theorem k1_10_24 : chkR [115] 0 12 (4 * 24) 4 = true := by kernel_rfl
theorem o1_10 : chkO [115] 0 12 = true := by kernel_rfl
theorem ok1_10 : OkB [115] 0 12 :=
  okB_of (fun k hk => match k, hk with
    | 0, _ => k1_10_0
    | 1, _ => k1_10_1
    | 2, _ => k1_10_2
    | 3, _ => k1_10_3
    | 4, _ => k1_10_4
    | 5, _ => k1_10_5
    | 6, _ => k1_10_6
    | 7, _ => k1_10_7
    | 8, _ => k1_10_8
    | 9, _ => k1_10_9
    | 10, _ => k1_10_10
    | 11, _ => k1_10_11
    | 12, _ => k1_10_12
    | 13, _ => k1_10_13
    | 14, _ => k1_10_14
    | 15, _ => k1_10_15
    | 16, _ => k1_10_16
    | 17, _ => k1_10_17
    | 18, _ => k1_10_18
    | 19, _ => k1_10_19
    | 20, _ => k1_10_20
    | 21, _ => k1_10_21
    | 22, _ => k1_10_22
    | 23, _ => k1_10_23
    | 24, _ => k1_10_24
    | k + 25, h => absurd h (by omega)) o1_10
theorem k1_11_0 : chkR [115] 1 2 (4 * 0) 4 = true := by kernel_rfl
theorem k1_11_1 : chkR [115] 1 2 (4 * 1) 4 = true := by kernel_rfl
theorem k1_11_2 : chkR [115] 1 2 (4 * 2) 4 = true := by kernel_rfl
theorem k1_11_3 : chkR [115] 1 2 (4 * 3) 4 = true := by kernel_rfl
theorem k1_11_4 : chkR [115] 1 2 (4 * 4) 4 = true := by kernel_rfl
theorem k1_11_5 : chkR [115] 1 2 (4 * 5) 4 = true := by kernel_rfl
theorem k1_11_6 : chkR [115] 1 2 (4 * 6) 4 = true := by kernel_rfl
theorem k1_11_7 : chkR [115] 1 2 (4 * 7) 4 = true := by kernel_rfl
theorem k1_11_8 : chkR [115] 1 2 (4 * 8) 4 = true := by kernel_rfl
theorem k1_11_9 : chkR [115] 1 2 (4 * 9) 4 = true := by kernel_rfl
theorem k1_11_10 : chkR [115] 1 2 (4 * 10) 4 = true := by kernel_rfl
theorem k1_11_11 : chkR [115] 1 2 (4 * 11) 4 = true := by kernel_rfl
theorem k1_11_12 : chkR [115] 1 2 (4 * 12) 4 = true := by kernel_rfl
theorem k1_11_13 : chkR [115] 1 2 (4 * 13) 4 = true := by kernel_rfl
theorem k1_11_14 : chkR [115] 1 2 (4 * 14) 4 = true := by kernel_rfl
theorem k1_11_15 : chkR [115] 1 2 (4 * 15) 4 = true := by kernel_rfl
theorem k1_11_16 : chkR [115] 1 2 (4 * 16) 4 = true := by kernel_rfl
theorem k1_11_17 : chkR [115] 1 2 (4 * 17) 4 = true := by kernel_rfl
theorem k1_11_18 : chkR [115] 1 2 (4 * 18) 4 = true := by kernel_rfl
theorem k1_11_19 : chkR [115] 1 2 (4 * 19) 4 = true := by kernel_rfl
theorem k1_11_20 : chkR [115] 1 2 (4 * 20) 4 = true := by kernel_rfl
theorem k1_11_21 : chkR [115] 1 2 (4 * 21) 4 = true := by kernel_rfl
theorem k1_11_22 : chkR [115] 1 2 (4 * 22) 4 = true := by kernel_rfl
theorem k1_11_23 : chkR [115] 1 2 (4 * 23) 4 = true := by kernel_rfl
theorem k1_11_24 : chkR [115] 1 2 (4 * 24) 4 = true := by kernel_rfl
theorem o1_11 : chkO [115] 1 2 = true := by kernel_rfl
theorem ok1_11 : OkB [115] 1 2 :=
  okB_of (fun k hk => match k, hk with
    | 0, _ => k1_11_0
    | 1, _ => k1_11_1
    | 2, _ => k1_11_2
    | 3, _ => k1_11_3
    | 4, _ => k1_11_4
    | 5, _ => k1_11_5
    | 6, _ => k1_11_6
    | 7, _ => k1_11_7
    | 8, _ => k1_11_8
    | 9, _ => k1_11_9
    | 10, _ => k1_11_10
    | 11, _ => k1_11_11
    | 12, _ => k1_11_12
    | 13, _ => k1_11_13
    | 14, _ => k1_11_14
    | 15, _ => k1_11_15
    | 16, _ => k1_11_16
    | 17, _ => k1_11_17
    | 18, _ => k1_11_18
    | 19, _ => k1_11_19
    | 20, _ => k1_11_20
    | 21, _ => k1_11_21
    | 22, _ => k1_11_22
    | 23, _ => k1_11_23
    | 24, _ => k1_11_24
    | k + 25, h => absurd h (by omega)) o1_11
theorem k1_12_0 : chkR [115] 2 2 (4 * 0) 4 = true := by kernel_rfl
theorem k1_12_1 : chkR [115] 2 2 (4 * 1) 4 = true := by kernel_rfl
theorem k1_12_2 : chkR [115] 2 2 (4 * 2) 4 = true := by kernel_rfl
theorem k1_12_3 : chkR [115] 2 2 (4 * 3) 4 = true := by kernel_rfl
theorem k1_12_4 : chkR [115] 2 2 (4 * 4) 4 = true := by kernel_rfl
theorem k1_12_5 : chkR [115] 2 2 (4 * 5) 4 = true := by kernel_rfl
theorem k1_12_6 : chkR [115] 2 2 (4 * 6) 4 = true := by kernel_rfl
theorem k1_12_7 : chkR [115] 2 2 (4 * 7) 4 = true := by kernel_rfl
theorem k1_12_8 : chkR [115] 2 2 (4 * 8) 4 = true := by kernel_rfl
theorem k1_12_9 : chkR [115] 2 2 (4 * 9) 4 = true := by kernel_rfl
theorem k1_12_10 : chkR [115] 2 2 (4 * 10) 4 = true := by kernel_rfl
theorem k1_12_11 : chkR [115] 2 2 (4 * 11) 4 = true := by kernel_rfl
theorem k1_12_12 : chkR [115] 2 2 (4 * 12) 4 = true := by kernel_rfl
theorem k1_12_13 : chkR [115] 2 2 (4 * 13) 4 = true := by kernel_rfl
theorem k1_12_14 : chkR [115] 2 2 (4 * 14) 4 = true := by kernel_rfl
theorem k1_12_15 : chkR [115] 2 2 (4 * 15) 4 = true := by kernel_rfl
theorem k1_12_16 : chkR [115] 2 2 (4 * 16) 4 = true := by kernel_rfl
theorem k1_12_17 : chkR [115] 2 2 (4 * 17) 4 = true := by kernel_rfl
theorem k1_12_18 : chkR [115] 2 2 (4 * 18) 4 = true := by kernel_rfl
theorem k1_12_19 : chkR [115] 2 2 (4 * 19) 4 = true := by kernel_rfl
theorem k1_12_20 : chkR [115] 2 2 (4 * 20) 4 = true := by kernel_rfl
theorem k1_12_21 : chkR [115] 2 2 (4 * 21) 4 = true := by kernel_rfl
theorem k1_12_22 : chkR [115] 2 2 (4 * 22) 4 = true := by kernel_rfl
theorem k1_12_23 : chkR [115] 2 2 (4 * 23) 4 = true := by kernel_rfl
theorem k1_12_24 : chkR [115] 2 2 (4 * 24) 4 = true := by kernel_rfl
theorem o1_12 : chkO [115] 2 2 = true := by kernel_rfl
theorem ok1_12 : OkB [115] 2 2 :=
  okB_of (fun k hk => match k, hk with
    | 0, _ => k1_12_0
    | 1, _ => k1_12_1
    | 2, _ => k1_12_2
    | 3, _ => k1_12_3
    | 4, _ => k1_12_4
    | 5, _ => k1_12_5
    | 6, _ => k1_12_6
    | 7, _ => k1_12_7
    | 8, _ => k1_12_8
    | 9, _ => k1_12_9
    | 10, _ => k1_12_10
    | 11, _ => k1_12_11
    | 12, _ => k1_12_12
    | 13, _ => k1_12_13
    | 14, _ => k1_12_14
    | 15, _ => k1_12_15
    | 16, _ => k1_12_16
    | 17, _ => k1_12_17
    | 18, _ => k1_12_18
    | 19, _ => k1_12_19
    | 20, _ => k1_12_20
    | 21, _ => k1_12_21
    | 22, _ => k1_12_22
    | 23, _ => k1_12_23
    | 24, _ => k1_12_24
    | k + 25, h => absurd h (by omega)) o1_12
theorem k1_13_0 : chkR [115] 2 3 (4 * 0) 4 = true := by kernel_rfl
theorem k1_13_1 : chkR [115] 2 3 (4 * 1) 4 = true := by kernel_rfl
theorem k1_13_2 : chkR [115] 2 3 (4 * 2) 4 = true := by kernel_rfl
theorem k1_13_3 : chkR [115] 2 3 (4 * 3) 4 = true := by kernel_rfl
theorem k1_13_4 : chkR [115] 2 3 (4 * 4) 4 = true := by kernel_rfl
theorem k1_13_5 : chkR [115] 2 3 (4 * 5) 4 = true := by kernel_rfl
theorem k1_13_6 : chkR [115] 2 3 (4 * 6) 4 = true := by kernel_rfl
theorem k1_13_7 : chkR [115] 2 3 (4 * 7) 4 = true := by kernel_rfl
theorem k1_13_8 : chkR [115] 2 3 (4 * 8) 4 = true := by kernel_rfl
theorem k1_13_9 : chkR [115] 2 3 (4 * 9) 4 = true := by kernel_rfl
theorem k1_13_10 : chkR [115] 2 3 (4 * 10) 4 = true := by kernel_rfl
theorem k1_13_11 : chkR [115] 2 3 (4 * 11) 4 = true := by kernel_rfl
theorem k1_13_12 : chkR [115] 2 3 (4 * 12) 4 = true := by kernel_rfl
theorem k1_13_13 : chkR [115] 2 3 (4 * 13) 4 = true := by kernel_rfl
theorem k1_13_14 : chkR [115] 2 3 (4 * 14) 4 = true := by kernel_rfl
theorem k1_13_15 : chkR [115] 2 3 (4 * 15) 4 = true := by kernel_rfl
theorem k1_13_16 : chkR [115] 2 3 (4 * 16) 4 = true := by kernel_rfl
theorem k1_13_17 : chkR [115] 2 3 (4 * 17) 4 = true := by kernel_rfl
theorem k1_13_18 : chkR [115] 2 3 (4 * 18) 4 = true := by kernel_rfl
theorem k1_13_19 : chkR [115] 2 3 (4 * 19) 4 = true := by kernel_rfl
theorem k1_13_20 : chkR [115] 2 3 (4 * 20) 4 = true := by kernel_rfl
theorem k1_13_21 : chkR [115] 2 3 (4 * 21) 4 = true := by kernel_rfl
theorem k1_13_22 : chkR [115] 2 3 (4 * 22) 4 = true := by kernel_rfl
theorem k1_13_23 : chkR [115] 2 3 (4 * 23) 4 = true := by kernel_rfl
theorem k1_13_24 : chkR [115] 2 3 (4 * 24) 4 = true := by kernel_rfl
theorem o1_13 : chkO [115] 2 3 = true := by kernel_rfl
theorem ok1_13 : OkB [115] 2 3 :=
  okB_of (fun k hk => match k, hk with
    | 0, _ => k1_13_0
    | 1, _ => k1_13_1
    | 2, _ => k1_13_2
    | 3, _ => k1_13_3
    | 4, _ => k1_13_4
    | 5, _ => k1_13_5
    | 6, _ => k1_13_6
    | 7, _ => k1_13_7
    | 8, _ => k1_13_8
    | 9, _ => k1_13_9
    | 10, _ => k1_13_10
    | 11, _ => k1_13_11
    | 12, _ => k1_13_12
    | 13, _ => k1_13_13
    | 14, _ => k1_13_14
    | 15, _ => k1_13_15
    | 16, _ => k1_13_16
    | 17, _ => k1_13_17
    | 18, _ => k1_13_18
    | 19, _ => k1_13_19
    | 20, _ => k1_13_20
    | 21, _ => k1_13_21
    | 22, _ => k1_13_22
    | 23, _ => k1_13_23
    | 24, _ => k1_13_24
    | k + 25, h => absurd h (by omega)) o1_13
theorem k1_14_0 : chkR [115] 3 2 (4 * 0) 4 = true := by kernel_rfl
theorem k1_14_1 : chkR [115] 3 2 (4 * 1) 4 = true := by kernel_rfl
theorem k1_14_2 : chkR [115] 3 2 (4 * 2) 4 = true := by kernel_rfl
theorem k1_14_3 : chkR [115] 3 2 (4 * 3) 4 = true := by kernel_rfl
theorem k1_14_4 : chkR [115] 3 2 (4 * 4) 4 = true := by kernel_rfl
theorem k1_14_5 : chkR [115] 3 2 (4 * 5) 4 = true := by kernel_rfl
theorem k1_14_6 : chkR [115] 3 2 (4 * 6) 4 = true := by kernel_rfl
theorem k1_14_7 : chkR [115] 3 2 (4 * 7) 4 = true := by kernel_rfl
theorem k1_14_8 : chkR [115] 3 2 (4 * 8) 4 = true := by kernel_rfl
theorem k1_14_9 : chkR [115] 3 2 (4 * 9) 4 = true := by kernel_rfl
theorem k1_14_10 : chkR [115] 3 2 (4 * 10) 4 = true := by kernel_rfl
theorem k1_14_11 : chkR [115] 3 2 (4 * 11) 4 = true := by kernel_rfl
theorem k1_14_12 : chkR [115] 3 2 (4 * 12) 4 = true := by kernel_rfl
theorem k1_14_13 : chkR [115] 3 2 (4 * 13) 4 = true := by kernel_rfl
theorem k1_14_14 : chkR [115] 3 2 (4 * 14) 4 = true := by kernel_rfl
theorem k1_14_15 : chkR [115] 3 2 (4 * 15) 4 = true := by kernel_rfl
theorem k1_14_16 : chkR [115] 3 2 (4 * 16) 4 = true := by kernel_rfl
theorem k1_14_17 : chkR [115] 3 2 (4 * 17) 4 = true := by kernel_rfl
theorem k1_14_18 : chkR [115] 3 2 (4 * 18) 4 = true := by kernel_rfl
theorem k1_14_19 : chkR [115] 3 2 (4 * 19) 4 = true := by kernel_rfl
theorem k1_14_20 : chkR [115] 3 2 (4 * 20) 4 = true := by kernel_rfl
theorem k1_14_21 : chkR [115] 3 2 (4 * 21) 4 = true := by kernel_rfl
theorem k1_14_22 : chkR [115] 3 2 (4 * 22) 4 = true := by kernel_rfl
theorem k1_14_23 : chkR [115] 3 2 (4 * 23) 4 = true := by kernel_rfl
theorem k1_14_24 : chkR [115] 3 2 (4 * 24) 4 = true := by kernel_rfl
theorem o1_14 : chkO [115] 3 2 = true := by kernel_rfl
theorem ok1_14 : OkB [115] 3 2 :=
  okB_of (fun k hk => match k, hk with
    | 0, _ => k1_14_0
    | 1, _ => k1_14_1
    | 2, _ => k1_14_2
    | 3, _ => k1_14_3
    | 4, _ => k1_14_4
    | 5, _ => k1_14_5
    | 6, _ => k1_14_6
    | 7, _ => k1_14_7
    | 8, _ => k1_14_8
    | 9, _ => k1_14_9
    | 10, _ => k1_14_10
    | 11, _ => k1_14_11
    | 12, _ => k1_14_12
    | 13, _ => k1_14_13
    | 14, _ => k1_14_14
    | 15, _ => k1_14_15
    | 16, _ => k1_14_16
    | 17, _ => k1_14_17
    | 18, _ => k1_14_18
    | 19, _ => k1_14_19
    | 20, _ => k1_14_20
    | 21, _ => k1_14_21
    | 22, _ => k1_14_22
    | 23, _ => k1_14_23
    | 24, _ => k1_14_24
    | k + 25, h => absurd h (by omega)) o1_14
theorem k1_15_0 : chkR [115] 3 3 (4 * 0) 4 = true := by kernel_rfl
theorem k1_15_1 : chkR [115] 3 3 (4 * 1) 4 = true := by kernel_rfl
theorem k1_15_2 : chkR [115] 3 3 (4 * 2) 4 = true := by kernel_rfl
theorem k1_15_3 : chkR [115] 3 3 (4 * 3) 4 = true := by kernel_rfl
theorem k1_15_4 : chkR [115] 3 3 (4 * 4) 4 = true := by kernel_rfl
theorem k1_15_5 : chkR [115] 3 3 (4 * 5) 4 = true := by kernel_rfl
theorem k1_15_6 : chkR [115] 3 3 (4 * 6) 4 = true := by kernel_rfl
theorem k1_15_7 : chkR [115] 3 3 (4 * 7) 4 = true := by kernel_rfl
theorem k1_15_8 : chkR [115] 3 3 (4 * 8) 4 = true := by kernel_rfl
theorem k1_15_9 : chkR [115] 3 3 (4 * 9) 4 = true := by kernel_rfl
theorem k1_15_10 : chkR [115] 3 3 (4 * 10) 4 = true := by kernel_rfl
theorem k1_15_11 : chkR [115] 3 3 (4 * 11) 4 = true := by kernel_rfl
theorem k1_15_12 : chkR [115] 3 3 (4 * 12) 4 = true := by kernel_rfl
theorem k1_15_13 : chkR [115] 3 3 (4 * 13) 4 = true := by kernel_rfl
theorem k1_15_14 : chkR [115] 3 3 (4 * 14) 4 = true := by kernel_rfl
theorem k1_15_15 : chkR [115] 3 3 (4 * 15) 4 = true := by kernel_rfl
theorem k1_15_16 : chkR [115] 3 3 (4 * 16) 4 = true := by kernel_rfl
theorem k1_15_17 : chkR [115] 3 3 (4 * 17) 4 = true := by kernel_rfl
theorem k1_15_18 : chkR [115] 3 3 (4 * 18) 4 = true := by kernel_rfl
theorem k1_15_19 : chkR [115] 3 3 (4 * 19) 4 = true := by kernel_rfl
theorem k1_15_20 : chkR [115] 3 3 (4 * 20) 4 = true := by kernel_rfl
theorem k1_15_21 : chkR [115] 3 3 (4 * 21) 4 = true := by kernel_rfl
theorem k1_15_22 : chkR [115] 3 3 (4 * 22) 4 = true := by kernel_rfl
theorem k1_15_23 : chkR [115] 3 3 (4 * 23) 4 = true := by kernel_rfl
theorem k1_15_24 : chkR [115] 3 3 (4 * 24) 4 = true := by kernel_rfl
theorem o1_15 : chkO [115] 3 3 = true := by kernel_rfl
theorem ok1_15 : OkB [115] 3 3 :=
  okB_of (fun k hk => match k, hk with
    | 0, _ => k1_15_0
    | 1, _ => k1_15_1
    | 2, _ => k1_15_2
    | 3, _ => k1_15_3
    | 4, _ => k1_15_4
    | 5, _ => k1_15_5
    | 6, _ => k1_15_6
    | 7, _ => k1_15_7
    | 8, _ => k1_15_8
    | 9, _ => k1_15_9
    | 10, _ => k1_15_10
    | 11, _ => k1_15_11
    | 12, _ => k1_15_12
    | 13, _ => k1_15_13
    | 14, _ => k1_15_14
    | 15, _ => k1_15_15
    | 16, _ => k1_15_16
    | 17, _ => k1_15_17
    | 18, _ => k1_15_18
    | 19, _ => k1_15_19
    | 20, _ => k1_15_20
    | 21, _ => k1_15_21
    | 22, _ => k1_15_22
    | 23, _ => k1_15_23
    | 24, _ => k1_15_24
    | k + 25, h => absurd h (by omega)) o1_15
theorem k1_16_0 : chkR [115] 3 4 (4 * 0) 4 = true := by kernel_rfl
theorem k1_16_1 : chkR [115] 3 4 (4 * 1) 4 = true := by kernel_rfl
theorem k1_16_2 : chkR [115] 3 4 (4 * 2) 4 = true := by kernel_rfl
theorem k1_16_3 : chkR [115] 3 4 (4 * 3) 4 = true := by kernel_rfl
theorem k1_16_4 : chkR [115] 3 4 (4 * 4) 4 = true := by kernel_rfl
theorem k1_16_5 : chkR [115] 3 4 (4 * 5) 4 = true := by kernel_rfl
theorem k1_16_6 : chkR [115] 3 4 (4 * 6) 4 = true := by kernel_rfl
theorem k1_16_7 : chkR [115] 3 4 (4 * 7) 4 = true := by kernel_rfl
theorem k1_16_8 : chkR [115] 3 4 (4 * 8) 4 = true := by kernel_rfl
theorem k1_16_9 : chkR [115] 3 4 (4 * 9) 4 = true := by kernel_rfl
theorem k1_16_10 : chkR [115] 3 4 (4 * 10) 4 = true := by kernel_rfl
theorem k1_16_11 : chkR [115] 3 4 (4 * 11) 4 = true := by kernel_rfl
theorem k1_16_12 : chkR [115] 3 4 (4 * 12) 4 = true := by kernel_rfl
theorem k1_16_13 : chkR [115] 3 4 (4 * 13) 4 = true := by kernel_rfl
theorem k1_16_14 : chkR [115] 3 4 (4 * 14) 4 = true := by kernel_rfl
theorem k1_16_15 : chkR [115] 3 4 (4 * 15) 4 = true := by kernel_rfl
theorem k1_16_16 : chkR [115] 3 4 (4 * 16) 4 = true := by kernel_rfl
theorem k1_16_17 : chkR [115] 3 4 (4 * 17) 4 = true := by kernel_rfl
theorem k1_16_18 : chkR [115] 3 4 (4 * 18) 4 = true := by kernel_rfl
theorem k1_16_19 : chkR [115] 3 4 (4 * 19) 4 = true := by kernel_rfl
theorem k1_16_20 : chkR [115] 3 4 (4 * 20) 4 = true := by kernel_rfl
theorem k1_16_21 : chkR [115] 3 4 (4 * 21) 4 = true := by kernel_rfl
theorem k1_16_22 : chkR [115] 3 4 (4 * 22) 4 = true := by kernel_rfl
theorem k1_16_23 : chkR [115] 3 4 (4 * 23) 4 = true := by kernel_rfl
theorem k1_16_24 : chkR [115] 3 4 (4 * 24) 4 = true := by kernel_rfl
theorem o1_16 : chkO [115] 3 4 = true := by kernel_rfl
theorem ok1_16 : OkB [115] 3 4 :=
  okB_of (fun k hk => match k, hk with
    | 0, _ => k1_16_0
    | 1, _ => k1_16_1
    | 2, _ => k1_16_2
    | 3, _ => k1_16_3
    | 4, _ => k1_16_4
    | 5, _ => k1_16_5
    | 6, _ => k1_16_6
    | 7, _ => k1_16_7
    | 8, _ => k1_16_8
    | 9, _ => k1_16_9
    | 10, _ => k1_16_10
    | 11, _ => k1_16_11
    | 12, _ => k1_16_12
    | 13, _ => k1_16_13
    | 14, _ => k1_16_14
    | 15, _ => k1_16_15
    | 16, _ => k1_16_16
    | 17, _ => k1_16_17
    | 18, _ => k1_16_18
    | 19, _ => k1_16_19
    | 20, _ => k1_16_20
    | 21, _ => k1_16_21
    | 22, _ => k1_16_22
    | 23, _ => k1_16_23
    | 24, _ => k1_16_24
    | k + 25, h => absurd h (by omega)) o1_16
end Go.Proofs.YtkchalnohkfhbaaDoor
