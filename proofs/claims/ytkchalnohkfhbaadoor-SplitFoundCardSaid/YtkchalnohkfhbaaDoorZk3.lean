/- The checks of the batches of draws, reckoned by the kernel: part 4 of 6. No condition; nothing of the program stands here but the specification of its words. -/
import Derived.Test.YtkchalnohkfhbaaDoorZe
set_option linter.unusedVariables false
namespace Go.Proofs.YtkchalnohkfhbaaDoor

theorem k1_17_0 : chkR [115] 4 2 (4 * 0) 4 = true := by kernel_rfl
theorem k1_17_1 : chkR [115] 4 2 (4 * 1) 4 = true := by kernel_rfl
theorem k1_17_2 : chkR [115] 4 2 (4 * 2) 4 = true := by kernel_rfl
theorem k1_17_3 : chkR [115] 4 2 (4 * 3) 4 = true := by kernel_rfl
theorem k1_17_4 : chkR [115] 4 2 (4 * 4) 4 = true := by kernel_rfl
theorem k1_17_5 : chkR [115] 4 2 (4 * 5) 4 = true := by kernel_rfl
theorem k1_17_6 : chkR [115] 4 2 (4 * 6) 4 = true := by kernel_rfl
theorem k1_17_7 : chkR [115] 4 2 (4 * 7) 4 = true := by kernel_rfl
theorem k1_17_8 : chkR [115] 4 2 (4 * 8) 4 = true := by kernel_rfl
theorem k1_17_9 : chkR [115] 4 2 (4 * 9) 4 = true := by kernel_rfl
theorem k1_17_10 : chkR [115] 4 2 (4 * 10) 4 = true := by kernel_rfl
theorem k1_17_11 : chkR [115] 4 2 (4 * 11) 4 = true := by kernel_rfl
theorem k1_17_12 : chkR [115] 4 2 (4 * 12) 4 = true := by kernel_rfl
theorem k1_17_13 : chkR [115] 4 2 (4 * 13) 4 = true := by kernel_rfl
theorem k1_17_14 : chkR [115] 4 2 (4 * 14) 4 = true := by kernel_rfl
theorem k1_17_15 : chkR [115] 4 2 (4 * 15) 4 = true := by kernel_rfl
theorem k1_17_16 : chkR [115] 4 2 (4 * 16) 4 = true := by kernel_rfl
theorem k1_17_17 : chkR [115] 4 2 (4 * 17) 4 = true := by kernel_rfl
theorem k1_17_18 : chkR [115] 4 2 (4 * 18) 4 = true := by kernel_rfl
theorem k1_17_19 : chkR [115] 4 2 (4 * 19) 4 = true := by kernel_rfl
theorem k1_17_20 : chkR [115] 4 2 (4 * 20) 4 = true := by kernel_rfl
theorem k1_17_21 : chkR [115] 4 2 (4 * 21) 4 = true := by kernel_rfl
theorem k1_17_22 : chkR [115] 4 2 (4 * 22) 4 = true := by kernel_rfl
theorem k1_17_23 : chkR [115] 4 2 (4 * 23) 4 = true := by kernel_rfl
theorem k1_17_24 : chkR [115] 4 2 (4 * 24) 4 = true := by kernel_rfl
theorem o1_17 : chkO [115] 4 2 = true := by kernel_rfl
theorem ok1_17 : OkB [115] 4 2 :=
  okB_of (fun k hk => match k, hk with
    | 0, _ => k1_17_0
    | 1, _ => k1_17_1
    | 2, _ => k1_17_2
    | 3, _ => k1_17_3
    | 4, _ => k1_17_4
    | 5, _ => k1_17_5
    | 6, _ => k1_17_6
    | 7, _ => k1_17_7
    | 8, _ => k1_17_8
    | 9, _ => k1_17_9
    | 10, _ => k1_17_10
    | 11, _ => k1_17_11
    | 12, _ => k1_17_12
    | 13, _ => k1_17_13
    | 14, _ => k1_17_14
    | 15, _ => k1_17_15
    | 16, _ => k1_17_16
    | 17, _ => k1_17_17
    | 18, _ => k1_17_18
    | 19, _ => k1_17_19
    | 20, _ => k1_17_20
    | 21, _ => k1_17_21
    | 22, _ => k1_17_22
    | 23, _ => k1_17_23
    | 24, _ => k1_17_24
    | k + 25, h => absurd h (by omega)) o1_17
theorem k1_18_0 : chkR [115] 4 4 (4 * 0) 4 = true := by kernel_rfl
theorem k1_18_1 : chkR [115] 4 4 (4 * 1) 4 = true := by kernel_rfl
theorem k1_18_2 : chkR [115] 4 4 (4 * 2) 4 = true := by kernel_rfl
theorem k1_18_3 : chkR [115] 4 4 (4 * 3) 4 = true := by kernel_rfl
theorem k1_18_4 : chkR [115] 4 4 (4 * 4) 4 = true := by kernel_rfl
theorem k1_18_5 : chkR [115] 4 4 (4 * 5) 4 = true := by kernel_rfl
theorem k1_18_6 : chkR [115] 4 4 (4 * 6) 4 = true := by kernel_rfl
theorem k1_18_7 : chkR [115] 4 4 (4 * 7) 4 = true := by kernel_rfl
theorem k1_18_8 : chkR [115] 4 4 (4 * 8) 4 = true := by kernel_rfl
theorem k1_18_9 : chkR [115] 4 4 (4 * 9) 4 = true := by kernel_rfl
theorem k1_18_10 : chkR [115] 4 4 (4 * 10) 4 = true := by kernel_rfl
theorem k1_18_11 : chkR [115] 4 4 (4 * 11) 4 = true := by kernel_rfl
theorem k1_18_12 : chkR [115] 4 4 (4 * 12) 4 = true := by kernel_rfl
theorem k1_18_13 : chkR [115] 4 4 (4 * 13) 4 = true := by kernel_rfl
theorem k1_18_14 : chkR [115] 4 4 (4 * 14) 4 = true := by kernel_rfl
theorem k1_18_15 : chkR [115] 4 4 (4 * 15) 4 = true := by kernel_rfl
theorem k1_18_16 : chkR [115] 4 4 (4 * 16) 4 = true := by kernel_rfl
theorem k1_18_17 : chkR [115] 4 4 (4 * 17) 4 = true := by kernel_rfl
theorem k1_18_18 : chkR [115] 4 4 (4 * 18) 4 = true := by kernel_rfl
theorem k1_18_19 : chkR [115] 4 4 (4 * 19) 4 = true := by kernel_rfl
theorem k1_18_20 : chkR [115] 4 4 (4 * 20) 4 = true := by kernel_rfl
theorem k1_18_21 : chkR [115] 4 4 (4 * 21) 4 = true := by kernel_rfl
theorem k1_18_22 : chkR [115] 4 4 (4 * 22) 4 = true := by kernel_rfl
theorem k1_18_23 : chkR [115] 4 4 (4 * 23) 4 = true := by kernel_rfl
theorem k1_18_24 : chkR [115] 4 4 (4 * 24) 4 = true := by kernel_rfl
theorem o1_18 : chkO [115] 4 4 = true := by kernel_rfl
theorem ok1_18 : OkB [115] 4 4 :=
  okB_of (fun k hk => match k, hk with
    | 0, _ => k1_18_0
    | 1, _ => k1_18_1
    | 2, _ => k1_18_2
    | 3, _ => k1_18_3
    | 4, _ => k1_18_4
    | 5, _ => k1_18_5
    | 6, _ => k1_18_6
    | 7, _ => k1_18_7
    | 8, _ => k1_18_8
    | 9, _ => k1_18_9
    | 10, _ => k1_18_10
    | 11, _ => k1_18_11
    | 12, _ => k1_18_12
    | 13, _ => k1_18_13
    | 14, _ => k1_18_14
    | 15, _ => k1_18_15
    | 16, _ => k1_18_16
    | 17, _ => k1_18_17
    | 18, _ => k1_18_18
    | 19, _ => k1_18_19
    | 20, _ => k1_18_20
    | 21, _ => k1_18_21
    | 22, _ => k1_18_22
    | 23, _ => k1_18_23
    | 24, _ => k1_18_24
    | k + 25, h => absurd h (by omega)) o1_18
theorem k1_19_0 : chkR [115] 4 5 (4 * 0) 4 = true := by kernel_rfl
theorem k1_19_1 : chkR [115] 4 5 (4 * 1) 4 = true := by kernel_rfl
theorem k1_19_2 : chkR [115] 4 5 (4 * 2) 4 = true := by kernel_rfl
theorem k1_19_3 : chkR [115] 4 5 (4 * 3) 4 = true := by kernel_rfl
theorem k1_19_4 : chkR [115] 4 5 (4 * 4) 4 = true := by kernel_rfl
theorem k1_19_5 : chkR [115] 4 5 (4 * 5) 4 = true := by kernel_rfl
theorem k1_19_6 : chkR [115] 4 5 (4 * 6) 4 = true := by kernel_rfl
theorem k1_19_7 : chkR [115] 4 5 (4 * 7) 4 = true := by kernel_rfl
theorem k1_19_8 : chkR [115] 4 5 (4 * 8) 4 = true := by kernel_rfl
theorem k1_19_9 : chkR [115] 4 5 (4 * 9) 4 = true := by kernel_rfl
theorem k1_19_10 : chkR [115] 4 5 (4 * 10) 4 = true := by kernel_rfl
theorem k1_19_11 : chkR [115] 4 5 (4 * 11) 4 = true := by kernel_rfl
theorem k1_19_12 : chkR [115] 4 5 (4 * 12) 4 = true := by kernel_rfl
theorem k1_19_13 : chkR [115] 4 5 (4 * 13) 4 = true := by kernel_rfl
theorem k1_19_14 : chkR [115] 4 5 (4 * 14) 4 = true := by kernel_rfl
theorem k1_19_15 : chkR [115] 4 5 (4 * 15) 4 = true := by kernel_rfl
theorem k1_19_16 : chkR [115] 4 5 (4 * 16) 4 = true := by kernel_rfl
theorem k1_19_17 : chkR [115] 4 5 (4 * 17) 4 = true := by kernel_rfl
theorem k1_19_18 : chkR [115] 4 5 (4 * 18) 4 = true := by kernel_rfl
theorem k1_19_19 : chkR [115] 4 5 (4 * 19) 4 = true := by kernel_rfl
theorem k1_19_20 : chkR [115] 4 5 (4 * 20) 4 = true := by kernel_rfl
theorem k1_19_21 : chkR [115] 4 5 (4 * 21) 4 = true := by kernel_rfl
theorem k1_19_22 : chkR [115] 4 5 (4 * 22) 4 = true := by kernel_rfl
theorem k1_19_23 : chkR [115] 4 5 (4 * 23) 4 = true := by kernel_rfl
theorem k1_19_24 : chkR [115] 4 5 (4 * 24) 4 = true := by kernel_rfl
theorem o1_19 : chkO [115] 4 5 = true := by kernel_rfl
theorem ok1_19 : OkB [115] 4 5 :=
  okB_of (fun k hk => match k, hk with
    | 0, _ => k1_19_0
    | 1, _ => k1_19_1
    | 2, _ => k1_19_2
    | 3, _ => k1_19_3
    | 4, _ => k1_19_4
    | 5, _ => k1_19_5
    | 6, _ => k1_19_6
    | 7, _ => k1_19_7
    | 8, _ => k1_19_8
    | 9, _ => k1_19_9
    | 10, _ => k1_19_10
    | 11, _ => k1_19_11
    | 12, _ => k1_19_12
    | 13, _ => k1_19_13
    | 14, _ => k1_19_14
    | 15, _ => k1_19_15
    | 16, _ => k1_19_16
    | 17, _ => k1_19_17
    | 18, _ => k1_19_18
    | 19, _ => k1_19_19
    | 20, _ => k1_19_20
    | 21, _ => k1_19_21
    | 22, _ => k1_19_22
    | 23, _ => k1_19_23
    | 24, _ => k1_19_24
    | k + 25, h => absurd h (by omega)) o1_19
theorem k1_20_0 : chkR [115] 5 2 (4 * 0) 4 = true := by kernel_rfl
theorem k1_20_1 : chkR [115] 5 2 (4 * 1) 4 = true := by kernel_rfl
theorem k1_20_2 : chkR [115] 5 2 (4 * 2) 4 = true := by kernel_rfl
theorem k1_20_3 : chkR [115] 5 2 (4 * 3) 4 = true := by kernel_rfl
theorem k1_20_4 : chkR [115] 5 2 (4 * 4) 4 = true := by kernel_rfl
theorem k1_20_5 : chkR [115] 5 2 (4 * 5) 4 = true := by kernel_rfl
theorem k1_20_6 : chkR [115] 5 2 (4 * 6) 4 = true := by kernel_rfl
theorem k1_20_7 : chkR [115] 5 2 (4 * 7) 4 = true := by kernel_rfl
theorem k1_20_8 : chkR [115] 5 2 (4 * 8) 4 = true := by kernel_rfl
theorem k1_20_9 : chkR [115] 5 2 (4 * 9) 4 = true := by kernel_rfl
theorem k1_20_10 : chkR [115] 5 2 (4 * 10) 4 = true := by kernel_rfl
theorem k1_20_11 : chkR [115] 5 2 (4 * 11) 4 = true := by kernel_rfl
theorem k1_20_12 : chkR [115] 5 2 (4 * 12) 4 = true := by kernel_rfl
theorem k1_20_13 : chkR [115] 5 2 (4 * 13) 4 = true := by kernel_rfl
theorem k1_20_14 : chkR [115] 5 2 (4 * 14) 4 = true := by kernel_rfl
theorem k1_20_15 : chkR [115] 5 2 (4 * 15) 4 = true := by kernel_rfl
theorem k1_20_16 : chkR [115] 5 2 (4 * 16) 4 = true := by kernel_rfl
theorem k1_20_17 : chkR [115] 5 2 (4 * 17) 4 = true := by kernel_rfl
theorem k1_20_18 : chkR [115] 5 2 (4 * 18) 4 = true := by kernel_rfl
theorem k1_20_19 : chkR [115] 5 2 (4 * 19) 4 = true := by kernel_rfl
theorem k1_20_20 : chkR [115] 5 2 (4 * 20) 4 = true := by kernel_rfl
theorem k1_20_21 : chkR [115] 5 2 (4 * 21) 4 = true := by kernel_rfl
theorem k1_20_22 : chkR [115] 5 2 (4 * 22) 4 = true := by kernel_rfl
theorem k1_20_23 : chkR [115] 5 2 (4 * 23) 4 = true := by kernel_rfl
theorem k1_20_24 : chkR [115] 5 2 (4 * 24) 4 = true := by kernel_rfl
theorem o1_20 : chkO [115] 5 2 = true := by kernel_rfl
theorem ok1_20 : OkB [115] 5 2 :=
  okB_of (fun k hk => match k, hk with
    | 0, _ => k1_20_0
    | 1, _ => k1_20_1
    | 2, _ => k1_20_2
    | 3, _ => k1_20_3
    | 4, _ => k1_20_4
    | 5, _ => k1_20_5
    | 6, _ => k1_20_6
    | 7, _ => k1_20_7
    | 8, _ => k1_20_8
    | 9, _ => k1_20_9
    | 10, _ => k1_20_10
    | 11, _ => k1_20_11
    | 12, _ => k1_20_12
    | 13, _ => k1_20_13
    | 14, _ => k1_20_14
    | 15, _ => k1_20_15
    | 16, _ => k1_20_16
    | 17, _ => k1_20_17
    | 18, _ => k1_20_18
    | 19, _ => k1_20_19
    | 20, _ => k1_20_20
    | 21, _ => k1_20_21
    | 22, _ => k1_20_22
    | 23, _ => k1_20_23
    | 24, _ => k1_20_24
    | k + 25, h => absurd h (by omega)) o1_20
theorem k1_21_0 : chkR [115] 5 3 (4 * 0) 4 = true := by kernel_rfl
theorem k1_21_1 : chkR [115] 5 3 (4 * 1) 4 = true := by kernel_rfl
theorem k1_21_2 : chkR [115] 5 3 (4 * 2) 4 = true := by kernel_rfl
theorem k1_21_3 : chkR [115] 5 3 (4 * 3) 4 = true := by kernel_rfl
theorem k1_21_4 : chkR [115] 5 3 (4 * 4) 4 = true := by kernel_rfl
theorem k1_21_5 : chkR [115] 5 3 (4 * 5) 4 = true := by kernel_rfl
theorem k1_21_6 : chkR [115] 5 3 (4 * 6) 4 = true := by kernel_rfl
theorem k1_21_7 : chkR [115] 5 3 (4 * 7) 4 = true := by kernel_rfl
theorem k1_21_8 : chkR [115] 5 3 (4 * 8) 4 = true := by kernel_rfl
theorem k1_21_9 : chkR [115] 5 3 (4 * 9) 4 = true := by kernel_rfl
theorem k1_21_10 : chkR [115] 5 3 (4 * 10) 4 = true := by kernel_rfl
theorem k1_21_11 : chkR [115] 5 3 (4 * 11) 4 = true := by kernel_rfl
theorem k1_21_12 : chkR [115] 5 3 (4 * 12) 4 = true := by kernel_rfl
theorem k1_21_13 : chkR [115] 5 3 (4 * 13) 4 = true := by kernel_rfl
theorem k1_21_14 : chkR [115] 5 3 (4 * 14) 4 = true := by kernel_rfl
theorem k1_21_15 : chkR [115] 5 3 (4 * 15) 4 = true := by kernel_rfl
theorem k1_21_16 : chkR [115] 5 3 (4 * 16) 4 = true := by kernel_rfl
theorem k1_21_17 : chkR [115] 5 3 (4 * 17) 4 = true := by kernel_rfl
theorem k1_21_18 : chkR [115] 5 3 (4 * 18) 4 = true := by kernel_rfl
theorem k1_21_19 : chkR [115] 5 3 (4 * 19) 4 = true := by kernel_rfl
theorem k1_21_20 : chkR [115] 5 3 (4 * 20) 4 = true := by kernel_rfl
theorem k1_21_21 : chkR [115] 5 3 (4 * 21) 4 = true := by kernel_rfl
theorem k1_21_22 : chkR [115] 5 3 (4 * 22) 4 = true := by kernel_rfl
theorem k1_21_23 : chkR [115] 5 3 (4 * 23) 4 = true := by kernel_rfl
theorem k1_21_24 : chkR [115] 5 3 (4 * 24) 4 = true := by kernel_rfl
theorem o1_21 : chkO [115] 5 3 = true := by kernel_rfl
theorem ok1_21 : OkB [115] 5 3 :=
  okB_of (fun k hk => match k, hk with
    | 0, _ => k1_21_0
    | 1, _ => k1_21_1
    | 2, _ => k1_21_2
    | 3, _ => k1_21_3
    | 4, _ => k1_21_4
    | 5, _ => k1_21_5
    | 6, _ => k1_21_6
    | 7, _ => k1_21_7
    | 8, _ => k1_21_8
    | 9, _ => k1_21_9
    | 10, _ => k1_21_10
    | 11, _ => k1_21_11
    | 12, _ => k1_21_12
    | 13, _ => k1_21_13
    | 14, _ => k1_21_14
    | 15, _ => k1_21_15
    | 16, _ => k1_21_16
    | 17, _ => k1_21_17
    | 18, _ => k1_21_18
    | 19, _ => k1_21_19
    | 20, _ => k1_21_20
    | 21, _ => k1_21_21
    | 22, _ => k1_21_22
    | 23, _ => k1_21_23
    | 24, _ => k1_21_24
    | k + 25, h => absurd h (by omega)) o1_21
theorem k1_22_0 : chkR [115] 5 5 (4 * 0) 4 = true := by kernel_rfl
theorem k1_22_1 : chkR [115] 5 5 (4 * 1) 4 = true := by kernel_rfl
theorem k1_22_2 : chkR [115] 5 5 (4 * 2) 4 = true := by kernel_rfl
theorem k1_22_3 : chkR [115] 5 5 (4 * 3) 4 = true := by kernel_rfl
theorem k1_22_4 : chkR [115] 5 5 (4 * 4) 4 = true := by kernel_rfl
theorem k1_22_5 : chkR [115] 5 5 (4 * 5) 4 = true := by kernel_rfl
theorem k1_22_6 : chkR [115] 5 5 (4 * 6) 4 = true := by kernel_rfl
theorem k1_22_7 : chkR [115] 5 5 (4 * 7) 4 = true := by kernel_rfl
theorem k1_22_8 : chkR [115] 5 5 (4 * 8) 4 = true := by kernel_rfl
theorem k1_22_9 : chkR [115] 5 5 (4 * 9) 4 = true := by kernel_rfl
theorem k1_22_10 : chkR [115] 5 5 (4 * 10) 4 = true := by kernel_rfl
theorem k1_22_11 : chkR [115] 5 5 (4 * 11) 4 = true := by kernel_rfl
theorem k1_22_12 : chkR [115] 5 5 (4 * 12) 4 = true := by kernel_rfl
theorem k1_22_13 : chkR [115] 5 5 (4 * 13) 4 = true := by kernel_rfl
theorem k1_22_14 : chkR [115] 5 5 (4 * 14) 4 = true := by kernel_rfl
theorem k1_22_15 : chkR [115] 5 5 (4 * 15) 4 = true := by kernel_rfl
theorem k1_22_16 : chkR [115] 5 5 (4 * 16) 4 = true := by kernel_rfl
theorem k1_22_17 : chkR [115] 5 5 (4 * 17) 4 = true := by kernel_rfl
theorem k1_22_18 : chkR [115] 5 5 (4 * 18) 4 = true := by kernel_rfl
theorem k1_22_19 : chkR [115] 5 5 (4 * 19) 4 = true := by kernel_rfl
theorem k1_22_20 : chkR [115] 5 5 (4 * 20) 4 = true := by kernel_rfl
theorem k1_22_21 : chkR [115] 5 5 (4 * 21) 4 = true := by kernel_rfl
theorem k1_22_22 : chkR [115] 5 5 (4 * 22) 4 = true := by kernel_rfl
theorem k1_22_23 : chkR [115] 5 5 (4 * 23) 4 = true := by kernel_rfl
theorem k1_22_24 : chkR [115] 5 5 (4 * 24) 4 = true := by kernel_rfl
theorem o1_22 : chkO [115] 5 5 = true := by kernel_rfl
theorem ok1_22 : OkB [115] 5 5 :=
  okB_of (fun k hk => match k, hk with
    | 0, _ => k1_22_0
    | 1, _ => k1_22_1
    | 2, _ => k1_22_2
    | 3, _ => k1_22_3
    | 4, _ => k1_22_4
    | 5, _ => k1_22_5
    | 6, _ => k1_22_6
    | 7, _ => k1_22_7
    | 8, _ => k1_22_8
    | 9, _ => k1_22_9
    | 10, _ => k1_22_10
    | 11, _ => k1_22_11
    | 12, _ => k1_22_12
    | 13, _ => k1_22_13
    | 14, _ => k1_22_14
    | 15, _ => k1_22_15
    | 16, _ => k1_22_16
    | 17, _ => k1_22_17
    | 18, _ => k1_22_18
    | 19, _ => k1_22_19
    | 20, _ => k1_22_20
    | 21, _ => k1_22_21
    | 22, _ => k1_22_22
    | 23, _ => k1_22_23
    | 24, _ => k1_22_24
    | k + 25, h => absurd h (by omega)) o1_22
theorem k1_23_0 : chkR [115] 5 6 (4 * 0) 4 = true := by kernel_rfl
theorem k1_23_1 : chkR [115] 5 6 (4 * 1) 4 = true := by kernel_rfl
theorem k1_23_2 : chkR [115] 5 6 (4 * 2) 4 = true := by kernel_rfl
theorem k1_23_3 : chkR [115] 5 6 (4 * 3) 4 = true := by kernel_rfl
theorem k1_23_4 : chkR [115] 5 6 (4 * 4) 4 = true := by kernel_rfl
theorem k1_23_5 : chkR [115] 5 6 (4 * 5) 4 = true := by kernel_rfl
theorem k1_23_6 : chkR [115] 5 6 (4 * 6) 4 = true := by kernel_rfl
theorem k1_23_7 : chkR [115] 5 6 (4 * 7) 4 = true := by kernel_rfl
theorem k1_23_8 : chkR [115] 5 6 (4 * 8) 4 = true := by kernel_rfl
theorem k1_23_9 : chkR [115] 5 6 (4 * 9) 4 = true := by kernel_rfl
theorem k1_23_10 : chkR [115] 5 6 (4 * 10) 4 = true := by kernel_rfl
theorem k1_23_11 : chkR [115] 5 6 (4 * 11) 4 = true := by kernel_rfl
theorem k1_23_12 : chkR [115] 5 6 (4 * 12) 4 = true := by kernel_rfl
theorem k1_23_13 : chkR [115] 5 6 (4 * 13) 4 = true := by kernel_rfl
theorem k1_23_14 : chkR [115] 5 6 (4 * 14) 4 = true := by kernel_rfl
theorem k1_23_15 : chkR [115] 5 6 (4 * 15) 4 = true := by kernel_rfl
theorem k1_23_16 : chkR [115] 5 6 (4 * 16) 4 = true := by kernel_rfl
theorem k1_23_17 : chkR [115] 5 6 (4 * 17) 4 = true := by kernel_rfl
theorem k1_23_18 : chkR [115] 5 6 (4 * 18) 4 = true := by kernel_rfl
theorem k1_23_19 : chkR [115] 5 6 (4 * 19) 4 = true := by kernel_rfl
theorem k1_23_20 : chkR [115] 5 6 (4 * 20) 4 = true := by kernel_rfl
theorem k1_23_21 : chkR [115] 5 6 (4 * 21) 4 = true := by kernel_rfl
theorem k1_23_22 : chkR [115] 5 6 (4 * 22) 4 = true := by kernel_rfl
theorem k1_23_23 : chkR [115] 5 6 (4 * 23) 4 = true := by kernel_rfl
theorem k1_23_24 : chkR [115] 5 6 (4 * 24) 4 = true := by kernel_rfl
theorem o1_23 : chkO [115] 5 6 = true := by kernel_rfl
theorem ok1_23 : OkB [115] 5 6 :=
  okB_of (fun k hk => match k, hk with
    | 0, _ => k1_23_0
    | 1, _ => k1_23_1
    | 2, _ => k1_23_2
    | 3, _ => k1_23_3
    | 4, _ => k1_23_4
    | 5, _ => k1_23_5
    | 6, _ => k1_23_6
    | 7, _ => k1_23_7
    | 8, _ => k1_23_8
    | 9, _ => k1_23_9
    | 10, _ => k1_23_10
    | 11, _ => k1_23_11
    | 12, _ => k1_23_12
    | 13, _ => k1_23_13
    | 14, _ => k1_23_14
    | 15, _ => k1_23_15
    | 16, _ => k1_23_16
    | 17, _ => k1_23_17
    | 18, _ => k1_23_18
    | 19, _ => k1_23_19
    | 20, _ => k1_23_20
    | 21, _ => k1_23_21
    | 22, _ => k1_23_22
    | 23, _ => k1_23_23
    | 24, _ => k1_23_24
    | k + 25, h => absurd h (by omega)) o1_23
theorem k1_24_0 : chkR [115] 6 2 (4 * 0) 4 = true := by kernel_rfl
theorem k1_24_1 : chkR [115] 6 2 (4 * 1) 4 = true := by kernel_rfl
theorem k1_24_2 : chkR [115] 6 2 (4 * 2) 4 = true := by kernel_rfl
theorem k1_24_3 : chkR [115] 6 2 (4 * 3) 4 = true := by kernel_rfl
theorem k1_24_4 : chkR [115] 6 2 (4 * 4) 4 = true := by kernel_rfl
theorem k1_24_5 : chkR [115] 6 2 (4 * 5) 4 = true := by kernel_rfl
theorem k1_24_6 : chkR [115] 6 2 (4 * 6) 4 = true := by kernel_rfl
theorem k1_24_7 : chkR [115] 6 2 (4 * 7) 4 = true := by kernel_rfl
theorem k1_24_8 : chkR [115] 6 2 (4 * 8) 4 = true := by kernel_rfl
theorem k1_24_9 : chkR [115] 6 2 (4 * 9) 4 = true := by kernel_rfl
theorem k1_24_10 : chkR [115] 6 2 (4 * 10) 4 = true := by kernel_rfl
theorem k1_24_11 : chkR [115] 6 2 (4 * 11) 4 = true := by kernel_rfl
theorem k1_24_12 : chkR [115] 6 2 (4 * 12) 4 = true := by kernel_rfl
theorem k1_24_13 : chkR [115] 6 2 (4 * 13) 4 = true := by kernel_rfl
theorem k1_24_14 : chkR [115] 6 2 (4 * 14) 4 = true := by kernel_rfl
theorem k1_24_15 : chkR [115] 6 2 (4 * 15) 4 = true := by kernel_rfl
theorem k1_24_16 : chkR [115] 6 2 (4 * 16) 4 = true := by kernel_rfl
theorem k1_24_17 : chkR [115] 6 2 (4 * 17) 4 = true := by kernel_rfl
theorem k1_24_18 : chkR [115] 6 2 (4 * 18) 4 = true := by kernel_rfl
theorem k1_24_19 : chkR [115] 6 2 (4 * 19) 4 = true := by kernel_rfl
theorem k1_24_20 : chkR [115] 6 2 (4 * 20) 4 = true := by kernel_rfl
theorem k1_24_21 : chkR [115] 6 2 (4 * 21) 4 = true := by kernel_rfl
theorem k1_24_22 : chkR [115] 6 2 (4 * 22) 4 = true := by kernel_rfl
theorem k1_24_23 : chkR [115] 6 2 (4 * 23) 4 = true := by kernel_rfl
theorem k1_24_24 : chkR [115] 6 2 (4 * 24) 4 = true := by kernel_rfl
theorem o1_24 : chkO [115] 6 2 = true := by kernel_rfl
theorem ok1_24 : OkB [115] 6 2 :=
  okB_of (fun k hk => match k, hk with
    | 0, _ => k1_24_0
    | 1, _ => k1_24_1
    | 2, _ => k1_24_2
    | 3, _ => k1_24_3
    | 4, _ => k1_24_4
    | 5, _ => k1_24_5
    | 6, _ => k1_24_6
    | 7, _ => k1_24_7
    | 8, _ => k1_24_8
    | 9, _ => k1_24_9
    | 10, _ => k1_24_10
    | 11, _ => k1_24_11
    | 12, _ => k1_24_12
    | 13, _ => k1_24_13
    | 14, _ => k1_24_14
    | 15, _ => k1_24_15
    | 16, _ => k1_24_16
    | 17, _ => k1_24_17
    | 18, _ => k1_24_18
    | 19, _ => k1_24_19
    | 20, _ => k1_24_20
    | 21, _ => k1_24_21
    | 22, _ => k1_24_22
    | 23, _ => k1_24_23
    | 24, _ => k1_24_24
    | k + 25, h => absurd h (by omega)) o1_24
theorem k1_25_0 : chkR [115] 6 3 (4 * 0) 4 = true := by kernel_rfl
theorem k1_25_1 : chkR [115] 6 3 (4 * 1) 4 = true := by kernel_rfl
theorem k1_25_2 : chkR [115] 6 3 (4 * 2) 4 = true := by kernel_rfl
theorem k1_25_3 : chkR [115] 6 3 (4 * 3) 4 = true := by kernel_rfl
theorem k1_25_4 : chkR [115] 6 3 (4 * 4) 4 = true := by kernel_rfl
theorem k1_25_5 : chkR [115] 6 3 (4 * 5) 4 = true := by kernel_rfl
theorem k1_25_6 : chkR [115] 6 3 (4 * 6) 4 = true := by kernel_rfl
theorem k1_25_7 : chkR [115] 6 3 (4 * 7) 4 = true := by kernel_rfl
theorem k1_25_8 : chkR [115] 6 3 (4 * 8) 4 = true := by kernel_rfl
theorem k1_25_9 : chkR [115] 6 3 (4 * 9) 4 = true := by kernel_rfl
theorem k1_25_10 : chkR [115] 6 3 (4 * 10) 4 = true := by kernel_rfl
theorem k1_25_11 : chkR [115] 6 3 (4 * 11) 4 = true := by kernel_rfl
theorem k1_25_12 : chkR [115] 6 3 (4 * 12) 4 = true := by kernel_rfl
theorem k1_25_13 : chkR [115] 6 3 (4 * 13) 4 = true := by kernel_rfl
theorem k1_25_14 : chkR [115] 6 3 (4 * 14) 4 = true := by kernel_rfl
theorem k1_25_15 : chkR [115] 6 3 (4 * 15) 4 = true := by kernel_rfl
theorem k1_25_16 : chkR [115] 6 3 (4 * 16) 4 = true := by kernel_rfl
theorem k1_25_17 : chkR [115] 6 3 (4 * 17) 4 = true := by kernel_rfl
theorem k1_25_18 : chkR [115] 6 3 (4 * 18) 4 = true := by kernel_rfl
theorem k1_25_19 : chkR [115] 6 3 (4 * 19) 4 = true := by kernel_rfl
theorem k1_25_20 : chkR [115] 6 3 (4 * 20) 4 = true := by kernel_rfl
theorem k1_25_21 : chkR [115] 6 3 (4 * 21) 4 = true := by kernel_rfl
theorem k1_25_22 : chkR [115] 6 3 (4 * 22) 4 = true := by kernel_rfl
theorem k1_25_23 : chkR [115] 6 3 (4 * 23) 4 = true := by kernel_rfl
theorem k1_25_24 : chkR [115] 6 3 (4 * 24) 4 = true := by kernel_rfl
theorem o1_25 : chkO [115] 6 3 = true := by kernel_rfl
theorem ok1_25 : OkB [115] 6 3 :=
  okB_of (fun k hk => match k, hk with
    | 0, _ => k1_25_0
    | 1, _ => k1_25_1
    | 2, _ => k1_25_2
    | 3, _ => k1_25_3
    | 4, _ => k1_25_4
    | 5, _ => k1_25_5
    | 6, _ => k1_25_6
    | 7, _ => k1_25_7
    | 8, _ => k1_25_8
    | 9, _ => k1_25_9
    | 10, _ => k1_25_10
    | 11, _ => k1_25_11
    | 12, _ => k1_25_12
    | 13, _ => k1_25_13
    | 14, _ => k1_25_14
    | 15, _ => k1_25_15
    | 16, _ => k1_25_16
    | 17, _ => k1_25_17
    | 18, _ => k1_25_18
    | 19, _ => k1_25_19
    | 20, _ => k1_25_20
    | 21, _ => k1_25_21
    | 22, _ => k1_25_22
    | 23, _ => k1_25_23
    | 24, _ => k1_25_24
    | k + 25, h => absurd h (by omega)) o1_25
theorem k1_26_0 : chkR [115] 6 6 (4 * 0) 4 = true := by kernel_rfl
theorem k1_26_1 : chkR [115] 6 6 (4 * 1) 4 = true := by kernel_rfl
theorem k1_26_2 : chkR [115] 6 6 (4 * 2) 4 = true := by kernel_rfl
theorem k1_26_3 : chkR [115] 6 6 (4 * 3) 4 = true := by kernel_rfl
theorem k1_26_4 : chkR [115] 6 6 (4 * 4) 4 = true := by kernel_rfl
theorem k1_26_5 : chkR [115] 6 6 (4 * 5) 4 = true := by kernel_rfl
theorem k1_26_6 : chkR [115] 6 6 (4 * 6) 4 = true := by kernel_rfl
theorem k1_26_7 : chkR [115] 6 6 (4 * 7) 4 = true := by kernel_rfl
theorem k1_26_8 : chkR [115] 6 6 (4 * 8) 4 = true := by kernel_rfl
theorem k1_26_9 : chkR [115] 6 6 (4 * 9) 4 = true := by kernel_rfl
theorem k1_26_10 : chkR [115] 6 6 (4 * 10) 4 = true := by kernel_rfl
theorem k1_26_11 : chkR [115] 6 6 (4 * 11) 4 = true := by kernel_rfl
theorem k1_26_12 : chkR [115] 6 6 (4 * 12) 4 = true := by kernel_rfl
theorem k1_26_13 : chkR [115] 6 6 (4 * 13) 4 = true := by kernel_rfl
theorem k1_26_14 : chkR [115] 6 6 (4 * 14) 4 = true := by kernel_rfl
theorem k1_26_15 : chkR [115] 6 6 (4 * 15) 4 = true := by kernel_rfl
theorem k1_26_16 : chkR [115] 6 6 (4 * 16) 4 = true := by kernel_rfl
theorem k1_26_17 : chkR [115] 6 6 (4 * 17) 4 = true := by kernel_rfl
theorem k1_26_18 : chkR [115] 6 6 (4 * 18) 4 = true := by kernel_rfl
theorem k1_26_19 : chkR [115] 6 6 (4 * 19) 4 = true := by kernel_rfl
theorem k1_26_20 : chkR [115] 6 6 (4 * 20) 4 = true := by kernel_rfl
theorem k1_26_21 : chkR [115] 6 6 (4 * 21) 4 = true := by kernel_rfl
theorem k1_26_22 : chkR [115] 6 6 (4 * 22) 4 = true := by kernel_rfl
theorem k1_26_23 : chkR [115] 6 6 (4 * 23) 4 = true := by kernel_rfl
theorem k1_26_24 : chkR [115] 6 6 (4 * 24) 4 = true := by kernel_rfl
theorem o1_26 : chkO [115] 6 6 = true := by kernel_rfl
theorem ok1_26 : OkB [115] 6 6 :=
  okB_of (fun k hk => match k, hk with
    | 0, _ => k1_26_0
    | 1, _ => k1_26_1
    | 2, _ => k1_26_2
    | 3, _ => k1_26_3
    | 4, _ => k1_26_4
    | 5, _ => k1_26_5
    | 6, _ => k1_26_6
    | 7, _ => k1_26_7
    | 8, _ => k1_26_8
    | 9, _ => k1_26_9
    | 10, _ => k1_26_10
    | 11, _ => k1_26_11
    | 12, _ => k1_26_12
    | 13, _ => k1_26_13
    | 14, _ => k1_26_14
    | 15, _ => k1_26_15
    | 16, _ => k1_26_16
    | 17, _ => k1_26_17
    | 18, _ => k1_26_18
    | 19, _ => k1_26_19
    | 20, _ => k1_26_20
    | 21, _ => k1_26_21
    | 22, _ => k1_26_22
    | 23, _ => k1_26_23
    | 24, _ => k1_26_24
    | k + 25, h => absurd h (by omega)) o1_26
theorem k1_27_0 : chkR [115] 7 2 (4 * 0) 4 = true := by kernel_rfl
theorem k1_27_1 : chkR [115] 7 2 (4 * 1) 4 = true := by kernel_rfl
theorem k1_27_2 : chkR [115] 7 2 (4 * 2) 4 = true := by kernel_rfl
theorem k1_27_3 : chkR [115] 7 2 (4 * 3) 4 = true := by kernel_rfl
theorem k1_27_4 : chkR [115] 7 2 (4 * 4) 4 = true := by kernel_rfl
theorem k1_27_5 : chkR [115] 7 2 (4 * 5) 4 = true := by kernel_rfl
theorem k1_27_6 : chkR [115] 7 2 (4 * 6) 4 = true := by kernel_rfl
theorem k1_27_7 : chkR [115] 7 2 (4 * 7) 4 = true := by kernel_rfl
theorem k1_27_8 : chkR [115] 7 2 (4 * 8) 4 = true := by kernel_rfl
theorem k1_27_9 : chkR [115] 7 2 (4 * 9) 4 = true := by kernel_rfl
theorem k1_27_10 : chkR [115] 7 2 (4 * 10) 4 = true := by kernel_rfl
theorem k1_27_11 : chkR [115] 7 2 (4 * 11) 4 = true := by kernel_rfl
theorem k1_27_12 : chkR [115] 7 2 (4 * 12) 4 = true := by kernel_rfl
theorem k1_27_13 : chkR [115] 7 2 (4 * 13) 4 = true := by kernel_rfl
theorem k1_27_14 : chkR [115] 7 2 (4 * 14) 4 = true := by kernel_rfl
theorem k1_27_15 : chkR [115] 7 2 (4 * 15) 4 = true := by kernel_rfl
theorem k1_27_16 : chkR [115] 7 2 (4 * 16) 4 = true := by kernel_rfl
theorem k1_27_17 : chkR [115] 7 2 (4 * 17) 4 = true := by kernel_rfl
theorem k1_27_18 : chkR [115] 7 2 (4 * 18) 4 = true := by kernel_rfl
theorem k1_27_19 : chkR [115] 7 2 (4 * 19) 4 = true := by kernel_rfl
theorem k1_27_20 : chkR [115] 7 2 (4 * 20) 4 = true := by kernel_rfl
theorem k1_27_21 : chkR [115] 7 2 (4 * 21) 4 = true := by kernel_rfl
theorem k1_27_22 : chkR [115] 7 2 (4 * 22) 4 = true := by kernel_rfl
theorem k1_27_23 : chkR [115] 7 2 (4 * 23) 4 = true := by kernel_rfl
theorem k1_27_24 : chkR [115] 7 2 (4 * 24) 4 = true := by kernel_rfl
theorem o1_27 : chkO [115] 7 2 = true := by kernel_rfl
theorem ok1_27 : OkB [115] 7 2 :=
  okB_of (fun k hk => match k, hk with
    | 0, _ => k1_27_0
    | 1, _ => k1_27_1
    | 2, _ => k1_27_2
    | 3, _ => k1_27_3
    | 4, _ => k1_27_4
    | 5, _ => k1_27_5
    | 6, _ => k1_27_6
    | 7, _ => k1_27_7
    | 8, _ => k1_27_8
    | 9, _ => k1_27_9
    | 10, _ => k1_27_10
    | 11, _ => k1_27_11
    | 12, _ => k1_27_12
    | 13, _ => k1_27_13
    | 14, _ => k1_27_14
    | 15, _ => k1_27_15
    | 16, _ => k1_27_16
    | 17, _ => k1_27_17
    | 18, _ => k1_27_18
    | 19, _ => k1_27_19
    | 20, _ => k1_27_20
    | 21, _ => k1_27_21
    | 22, _ => k1_27_22
    | 23, _ => k1_27_23
    | 24, _ => k1_27_24
    | k + 25, h => absurd h (by omega)) o1_27
theorem k1_28_0 : chkR [115] 7 3 (4 * 0) 4 = true := by kernel_rfl
theorem k1_28_1 : chkR [115] 7 3 (4 * 1) 4 = true := by kernel_rfl
theorem k1_28_2 : chkR [115] 7 3 (4 * 2) 4 = true := by kernel_rfl
theorem k1_28_3 : chkR [115] 7 3 (4 * 3) 4 = true := by kernel_rfl
theorem k1_28_4 : chkR [115] 7 3 (4 * 4) 4 = true := by kernel_rfl
theorem k1_28_5 : chkR [115] 7 3 (4 * 5) 4 = true := by kernel_rfl
theorem k1_28_6 : chkR [115] 7 3 (4 * 6) 4 = true := by kernel_rfl
theorem k1_28_7 : chkR [115] 7 3 (4 * 7) 4 = true := by kernel_rfl
theorem k1_28_8 : chkR [115] 7 3 (4 * 8) 4 = true := by kernel_rfl
theorem k1_28_9 : chkR [115] 7 3 (4 * 9) 4 = true := by kernel_rfl
theorem k1_28_10 : chkR [115] 7 3 (4 * 10) 4 = true := by kernel_rfl
theorem k1_28_11 : chkR [115] 7 3 (4 * 11) 4 = true := by kernel_rfl
theorem k1_28_12 : chkR [115] 7 3 (4 * 12) 4 = true := by kernel_rfl
theorem k1_28_13 : chkR [115] 7 3 (4 * 13) 4 = true := by kernel_rfl
theorem k1_28_14 : chkR [115] 7 3 (4 * 14) 4 = true := by kernel_rfl
theorem k1_28_15 : chkR [115] 7 3 (4 * 15) 4 = true := by kernel_rfl
theorem k1_28_16 : chkR [115] 7 3 (4 * 16) 4 = true := by kernel_rfl
theorem k1_28_17 : chkR [115] 7 3 (4 * 17) 4 = true := by kernel_rfl
theorem k1_28_18 : chkR [115] 7 3 (4 * 18) 4 = true := by kernel_rfl
theorem k1_28_19 : chkR [115] 7 3 (4 * 19) 4 = true := by kernel_rfl
theorem k1_28_20 : chkR [115] 7 3 (4 * 20) 4 = true := by kernel_rfl
theorem k1_28_21 : chkR [115] 7 3 (4 * 21) 4 = true := by kernel_rfl
theorem k1_28_22 : chkR [115] 7 3 (4 * 22) 4 = true := by kernel_rfl
theorem k1_28_23 : chkR [115] 7 3 (4 * 23) 4 = true := by kernel_rfl
theorem k1_28_24 : chkR [115] 7 3 (4 * 24) 4 = true := by kernel_rfl
theorem o1_28 : chkO [115] 7 3 = true := by kernel_rfl
theorem ok1_28 : OkB [115] 7 3 :=
  okB_of (fun k hk => match k, hk with
    | 0, _ => k1_28_0
    | 1, _ => k1_28_1
    | 2, _ => k1_28_2
    | 3, _ => k1_28_3
    | 4, _ => k1_28_4
    | 5, _ => k1_28_5
    | 6, _ => k1_28_6
    | 7, _ => k1_28_7
    | 8, _ => k1_28_8
    | 9, _ => k1_28_9
    | 10, _ => k1_28_10
    | 11, _ => k1_28_11
    | 12, _ => k1_28_12
    | 13, _ => k1_28_13
    | 14, _ => k1_28_14
    | 15, _ => k1_28_15
    | 16, _ => k1_28_16
    | 17, _ => k1_28_17
    | 18, _ => k1_28_18
    | 19, _ => k1_28_19
    | 20, _ => k1_28_20
    | 21, _ => k1_28_21
    | 22, _ => k1_28_22
    | 23, _ => k1_28_23
    | 24, _ => k1_28_24
    | k + 25, h => absurd h (by omega)) o1_28
theorem k1_29_0 : chkR [115] 8 2 (4 * 0) 4 = true := by kernel_rfl
theorem k1_29_1 : chkR [115] 8 2 (4 * 1) 4 = true := by kernel_rfl
theorem k1_29_2 : chkR [115] 8 2 (4 * 2) 4 = true := by kernel_rfl
theorem k1_29_3 : chkR [115] 8 2 (4 * 3) 4 = true := by kernel_rfl
theorem k1_29_4 : chkR [115] 8 2 (4 * 4) 4 = true := by kernel_rfl
theorem k1_29_5 : chkR [115] 8 2 (4 * 5) 4 = true := by kernel_rfl
theorem k1_29_6 : chkR [115] 8 2 (4 * 6) 4 = true := by kernel_rfl
theorem k1_29_7 : chkR [115] 8 2 (4 * 7) 4 = true := by kernel_rfl
theorem k1_29_8 : chkR [115] 8 2 (4 * 8) 4 = true := by kernel_rfl
theorem k1_29_9 : chkR [115] 8 2 (4 * 9) 4 = true := by kernel_rfl
theorem k1_29_10 : chkR [115] 8 2 (4 * 10) 4 = true := by kernel_rfl
theorem k1_29_11 : chkR [115] 8 2 (4 * 11) 4 = true := by kernel_rfl
theorem k1_29_12 : chkR [115] 8 2 (4 * 12) 4 = true := by kernel_rfl
theorem k1_29_13 : chkR [115] 8 2 (4 * 13) 4 = true := by kernel_rfl
theorem k1_29_14 : chkR [115] 8 2 (4 * 14) 4 = true := by kernel_rfl
theorem k1_29_15 : chkR [115] 8 2 (4 * 15) 4 = true := by kernel_rfl
theorem k1_29_16 : chkR [115] 8 2 (4 * 16) 4 = true := by kernel_rfl
theorem k1_29_17 : chkR [115] 8 2 (4 * 17) 4 = true := by kernel_rfl
theorem k1_29_18 : chkR [115] 8 2 (4 * 18) 4 = true := by kernel_rfl
theorem k1_29_19 : chkR [115] 8 2 (4 * 19) 4 = true := by kernel_rfl
theorem k1_29_20 : chkR [115] 8 2 (4 * 20) 4 = true := by kernel_rfl
theorem k1_29_21 : chkR [115] 8 2 (4 * 21) 4 = true := by kernel_rfl
theorem k1_29_22 : chkR [115] 8 2 (4 * 22) 4 = true := by kernel_rfl
theorem k1_29_23 : chkR [115] 8 2 (4 * 23) 4 = true := by kernel_rfl
theorem k1_29_24 : chkR [115] 8 2 (4 * 24) 4 = true := by kernel_rfl
theorem o1_29 : chkO [115] 8 2 = true := by kernel_rfl
theorem ok1_29 : OkB [115] 8 2 :=
  okB_of (fun k hk => match k, hk with
    | 0, _ => k1_29_0
    | 1, _ => k1_29_1
    | 2, _ => k1_29_2
    | 3, _ => k1_29_3
    | 4, _ => k1_29_4
    | 5, _ => k1_29_5
    | 6, _ => k1_29_6
    | 7, _ => k1_29_7
    | 8, _ => k1_29_8
    | 9, _ => k1_29_9
    | 10, _ => k1_29_10
    | 11, _ => k1_29_11
    | 12, _ => k1_29_12
    | 13, _ => k1_29_13
    | 14, _ => k1_29_14
    | 15, _ => k1_29_15
    | 16, _ => k1_29_16
    | 17, _ => k1_29_17
    | 18, _ => k1_29_18
    | 19, _ => k1_29_19
    | 20, _ => k1_29_20
    | 21, _ => k1_29_21
    | 22, _ => k1_29_22
    | 23, _ => k1_29_23
    | 24, _ => k1_29_24
    | k + 25, h => absurd h (by omega)) o1_29
theorem k1_30_0 : chkR [115] 8 3 (4 * 0) 4 = true := by kernel_rfl
theorem k1_30_1 : chkR [115] 8 3 (4 * 1) 4 = true := by kernel_rfl
theorem k1_30_2 : chkR [115] 8 3 (4 * 2) 4 = true := by kernel_rfl
theorem k1_30_3 : chkR [115] 8 3 (4 * 3) 4 = true := by kernel_rfl
theorem k1_30_4 : chkR [115] 8 3 (4 * 4) 4 = true := by kernel_rfl
theorem k1_30_5 : chkR [115] 8 3 (4 * 5) 4 = true := by kernel_rfl
theorem k1_30_6 : chkR [115] 8 3 (4 * 6) 4 = true := by kernel_rfl
theorem k1_30_7 : chkR [115] 8 3 (4 * 7) 4 = true := by kernel_rfl
theorem k1_30_8 : chkR [115] 8 3 (4 * 8) 4 = true := by kernel_rfl
theorem k1_30_9 : chkR [115] 8 3 (4 * 9) 4 = true := by kernel_rfl
theorem k1_30_10 : chkR [115] 8 3 (4 * 10) 4 = true := by kernel_rfl
theorem k1_30_11 : chkR [115] 8 3 (4 * 11) 4 = true := by kernel_rfl
theorem k1_30_12 : chkR [115] 8 3 (4 * 12) 4 = true := by kernel_rfl
theorem k1_30_13 : chkR [115] 8 3 (4 * 13) 4 = true := by kernel_rfl
theorem k1_30_14 : chkR [115] 8 3 (4 * 14) 4 = true := by kernel_rfl
theorem k1_30_15 : chkR [115] 8 3 (4 * 15) 4 = true := by kernel_rfl
theorem k1_30_16 : chkR [115] 8 3 (4 * 16) 4 = true := by kernel_rfl
theorem k1_30_17 : chkR [115] 8 3 (4 * 17) 4 = true := by kernel_rfl
theorem k1_30_18 : chkR [115] 8 3 (4 * 18) 4 = true := by kernel_rfl
theorem k1_30_19 : chkR [115] 8 3 (4 * 19) 4 = true := by kernel_rfl
theorem k1_30_20 : chkR [115] 8 3 (4 * 20) 4 = true := by kernel_rfl
theorem k1_30_21 : chkR [115] 8 3 (4 * 21) 4 = true := by kernel_rfl
theorem k1_30_22 : chkR [115] 8 3 (4 * 22) 4 = true := by kernel_rfl
theorem k1_30_23 : chkR [115] 8 3 (4 * 23) 4 = true := by kernel_rfl
theorem k1_30_24 : chkR [115] 8 3 (4 * 24) 4 = true := by kernel_rfl
theorem o1_30 : chkO [115] 8 3 = true := by kernel_rfl
theorem ok1_30 : OkB [115] 8 3 :=
  okB_of (fun k hk => match k, hk with
    | 0, _ => k1_30_0
    | 1, _ => k1_30_1
    | 2, _ => k1_30_2
    | 3, _ => k1_30_3
    | 4, _ => k1_30_4
    | 5, _ => k1_30_5
    | 6, _ => k1_30_6
    | 7, _ => k1_30_7
    | 8, _ => k1_30_8
    | 9, _ => k1_30_9
    | 10, _ => k1_30_10
    | 11, _ => k1_30_11
    | 12, _ => k1_30_12
    | 13, _ => k1_30_13
    | 14, _ => k1_30_14
    | 15, _ => k1_30_15
    | 16, _ => k1_30_16
    | 17, _ => k1_30_17
    | 18, _ => k1_30_18
    | 19, _ => k1_30_19
    | 20, _ => k1_30_20
    | 21, _ => k1_30_21
    | 22, _ => k1_30_22
    | 23, _ => k1_30_23
    | 24, _ => k1_30_24
    | k + 25, h => absurd h (by omega)) o1_30
theorem k1_31_0 : chkR [115] 9 2 (4 * 0) 4 = true := by kernel_rfl
theorem k1_31_1 : chkR [115] 9 2 (4 * 1) 4 = true := by kernel_rfl
theorem k1_31_2 : chkR [115] 9 2 (4 * 2) 4 = true := by kernel_rfl
theorem k1_31_3 : chkR [115] 9 2 (4 * 3) 4 = true := by kernel_rfl
theorem k1_31_4 : chkR [115] 9 2 (4 * 4) 4 = true := by kernel_rfl
theorem k1_31_5 : chkR [115] 9 2 (4 * 5) 4 = true := by kernel_rfl
theorem k1_31_6 : chkR [115] 9 2 (4 * 6) 4 = true := by kernel_rfl
theorem k1_31_7 : chkR [115] 9 2 (4 * 7) 4 = true := by kernel_rfl
theorem k1_31_8 : chkR [115] 9 2 (4 * 8) 4 = true := by kernel_rfl
theorem k1_31_9 : chkR [115] 9 2 (4 * 9) 4 = true := by kernel_rfl
theorem k1_31_10 : chkR [115] 9 2 (4 * 10) 4 = true := by kernel_rfl
theorem k1_31_11 : chkR [115] 9 2 (4 * 11) 4 = true := by kernel_rfl
theorem k1_31_12 : chkR [115] 9 2 (4 * 12) 4 = true := by kernel_rfl
theorem k1_31_13 : chkR [115] 9 2 (4 * 13) 4 = true := by kernel_rfl
theorem k1_31_14 : chkR [115] 9 2 (4 * 14) 4 = true := by kernel_rfl
theorem k1_31_15 : chkR [115] 9 2 (4 * 15) 4 = true := by kernel_rfl
theorem k1_31_16 : chkR [115] 9 2 (4 * 16) 4 = true := by kernel_rfl
theorem k1_31_17 : chkR [115] 9 2 (4 * 17) 4 = true := by kernel_rfl
theorem k1_31_18 : chkR [115] 9 2 (4 * 18) 4 = true := by kernel_rfl
theorem k1_31_19 : chkR [115] 9 2 (4 * 19) 4 = true := by kernel_rfl
theorem k1_31_20 : chkR [115] 9 2 (4 * 20) 4 = true := by kernel_rfl
theorem k1_31_21 : chkR [115] 9 2 (4 * 21) 4 = true := by kernel_rfl
theorem k1_31_22 : chkR [115] 9 2 (4 * 22) 4 = true := by kernel_rfl
theorem k1_31_23 : chkR [115] 9 2 (4 * 23) 4 = true := by kernel_rfl
theorem k1_31_24 : chkR [115] 9 2 (4 * 24) 4 = true := by kernel_rfl
theorem o1_31 : chkO [115] 9 2 = true := by kernel_rfl
theorem ok1_31 : OkB [115] 9 2 :=
  okB_of (fun k hk => match k, hk with
    | 0, _ => k1_31_0
    | 1, _ => k1_31_1
    | 2, _ => k1_31_2
    | 3, _ => k1_31_3
    | 4, _ => k1_31_4
    | 5, _ => k1_31_5
    | 6, _ => k1_31_6
    | 7, _ => k1_31_7
    | 8, _ => k1_31_8
    | 9, _ => k1_31_9
    | 10, _ => k1_31_10
    | 11, _ => k1_31_11
    | 12, _ => k1_31_12
    | 13, _ => k1_31_13
    | 14, _ => k1_31_14
    | 15, _ => k1_31_15
    | 16, _ => k1_31_16
    | 17, _ => k1_31_17
    | 18, _ => k1_31_18
    | 19, _ => k1_31_19
    | 20, _ => k1_31_20
    | 21, _ => k1_31_21
    | 22, _ => k1_31_22
    | 23, _ => k1_31_23
    | 24, _ => k1_31_24
    | k + 25, h => absurd h (by omega)) o1_31
theorem k1_32_0 : chkR [115] 9 3 (4 * 0) 4 = true := by kernel_rfl
theorem k1_32_1 : chkR [115] 9 3 (4 * 1) 4 = true := by kernel_rfl
theorem k1_32_2 : chkR [115] 9 3 (4 * 2) 4 = true := by kernel_rfl
theorem k1_32_3 : chkR [115] 9 3 (4 * 3) 4 = true := by kernel_rfl
theorem k1_32_4 : chkR [115] 9 3 (4 * 4) 4 = true := by kernel_rfl
theorem k1_32_5 : chkR [115] 9 3 (4 * 5) 4 = true := by kernel_rfl
theorem k1_32_6 : chkR [115] 9 3 (4 * 6) 4 = true := by kernel_rfl
theorem k1_32_7 : chkR [115] 9 3 (4 * 7) 4 = true := by kernel_rfl
theorem k1_32_8 : chkR [115] 9 3 (4 * 8) 4 = true := by kernel_rfl
theorem k1_32_9 : chkR [115] 9 3 (4 * 9) 4 = true := by kernel_rfl
theorem k1_32_10 : chkR [115] 9 3 (4 * 10) 4 = true := by kernel_rfl
theorem k1_32_11 : chkR [115] 9 3 (4 * 11) 4 = true := by kernel_rfl
theorem k1_32_12 : chkR [115] 9 3 (4 * 12) 4 = true := by kernel_rfl
theorem k1_32_13 : chkR [115] 9 3 (4 * 13) 4 = true := by kernel_rfl
theorem k1_32_14 : chkR [115] 9 3 (4 * 14) 4 = true := by kernel_rfl
theorem k1_32_15 : chkR [115] 9 3 (4 * 15) 4 = true := by kernel_rfl
theorem k1_32_16 : chkR [115] 9 3 (4 * 16) 4 = true := by kernel_rfl
theorem k1_32_17 : chkR [115] 9 3 (4 * 17) 4 = true := by kernel_rfl
theorem k1_32_18 : chkR [115] 9 3 (4 * 18) 4 = true := by kernel_rfl
theorem k1_32_19 : chkR [115] 9 3 (4 * 19) 4 = true := by kernel_rfl
theorem k1_32_20 : chkR [115] 9 3 (4 * 20) 4 = true := by kernel_rfl
theorem k1_32_21 : chkR [115] 9 3 (4 * 21) 4 = true := by kernel_rfl
theorem k1_32_22 : chkR [115] 9 3 (4 * 22) 4 = true := by kernel_rfl
theorem k1_32_23 : chkR [115] 9 3 (4 * 23) 4 = true := by kernel_rfl
theorem k1_32_24 : chkR [115] 9 3 (4 * 24) 4 = true := by kernel_rfl
theorem o1_32 : chkO [115] 9 3 = true := by kernel_rfl
theorem ok1_32 : OkB [115] 9 3 :=
  okB_of (fun k hk => match k, hk with
    | 0, _ => k1_32_0
    | 1, _ => k1_32_1
    | 2, _ => k1_32_2
    | 3, _ => k1_32_3
    | 4, _ => k1_32_4
    | 5, _ => k1_32_5
    | 6, _ => k1_32_6
    | 7, _ => k1_32_7
    | 8, _ => k1_32_8
    | 9, _ => k1_32_9
    | 10, _ => k1_32_10
    | 11, _ => k1_32_11
    | 12, _ => k1_32_12
    | 13, _ => k1_32_13
    | 14, _ => k1_32_14
    | 15, _ => k1_32_15
    | 16, _ => k1_32_16
    | 17, _ => k1_32_17
    | 18, _ => k1_32_18
    | 19, _ => k1_32_19
    | 20, _ => k1_32_20
    | 21, _ => k1_32_21
    | 22, _ => k1_32_22
    | 23, _ => k1_32_23
    | 24, _ => k1_32_24
    | k + 25, h => absurd h (by omega)) o1_32
theorem k1_33_0 : chkR [115] 10 2 (4 * 0) 4 = true := by kernel_rfl
theorem k1_33_1 : chkR [115] 10 2 (4 * 1) 4 = true := by kernel_rfl
theorem k1_33_2 : chkR [115] 10 2 (4 * 2) 4 = true := by kernel_rfl
theorem k1_33_3 : chkR [115] 10 2 (4 * 3) 4 = true := by kernel_rfl
theorem k1_33_4 : chkR [115] 10 2 (4 * 4) 4 = true := by kernel_rfl
theorem k1_33_5 : chkR [115] 10 2 (4 * 5) 4 = true := by kernel_rfl
theorem k1_33_6 : chkR [115] 10 2 (4 * 6) 4 = true := by kernel_rfl
theorem k1_33_7 : chkR [115] 10 2 (4 * 7) 4 = true := by kernel_rfl
theorem k1_33_8 : chkR [115] 10 2 (4 * 8) 4 = true := by kernel_rfl
theorem k1_33_9 : chkR [115] 10 2 (4 * 9) 4 = true := by kernel_rfl
theorem k1_33_10 : chkR [115] 10 2 (4 * 10) 4 = true := by kernel_rfl
theorem k1_33_11 : chkR [115] 10 2 (4 * 11) 4 = true := by kernel_rfl
theorem k1_33_12 : chkR [115] 10 2 (4 * 12) 4 = true := by kernel_rfl
theorem k1_33_13 : chkR [115] 10 2 (4 * 13) 4 = true := by kernel_rfl
theorem k1_33_14 : chkR [115] 10 2 (4 * 14) 4 = true := by kernel_rfl
theorem k1_33_15 : chkR [115] 10 2 (4 * 15) 4 = true := by kernel_rfl
theorem k1_33_16 : chkR [115] 10 2 (4 * 16) 4 = true := by kernel_rfl
theorem k1_33_17 : chkR [115] 10 2 (4 * 17) 4 = true := by kernel_rfl
theorem k1_33_18 : chkR [115] 10 2 (4 * 18) 4 = true := by kernel_rfl
theorem k1_33_19 : chkR [115] 10 2 (4 * 19) 4 = true := by kernel_rfl
theorem k1_33_20 : chkR [115] 10 2 (4 * 20) 4 = true := by kernel_rfl
theorem k1_33_21 : chkR [115] 10 2 (4 * 21) 4 = true := by kernel_rfl
theorem k1_33_22 : chkR [115] 10 2 (4 * 22) 4 = true := by kernel_rfl
theorem k1_33_23 : chkR [115] 10 2 (4 * 23) 4 = true := by kernel_rfl
theorem k1_33_24 : chkR [115] 10 2 (4 * 24) 4 = true := by kernel_rfl
theorem o1_33 : chkO [115] 10 2 = true := by kernel_rfl
theorem ok1_33 : OkB [115] 10 2 :=
  okB_of (fun k hk => match k, hk with
    | 0, _ => k1_33_0
    | 1, _ => k1_33_1
    | 2, _ => k1_33_2
    | 3, _ => k1_33_3
    | 4, _ => k1_33_4
    | 5, _ => k1_33_5
    | 6, _ => k1_33_6
    | 7, _ => k1_33_7
    | 8, _ => k1_33_8
    | 9, _ => k1_33_9
    | 10, _ => k1_33_10
    | 11, _ => k1_33_11
    | 12, _ => k1_33_12
    | 13, _ => k1_33_13
    | 14, _ => k1_33_14
    | 15, _ => k1_33_15
    | 16, _ => k1_33_16
    | 17, _ => k1_33_17
    | 18, _ => k1_33_18
    | 19, _ => k1_33_19
    | 20, _ => k1_33_20
    | 21, _ => k1_33_21
    | 22, _ => k1_33_22
    | 23, _ => k1_33_23
    | 24, _ => k1_33_24
    | k + 25, h => absurd h (by omega)) o1_33
end Go.Proofs.YtkchalnohkfhbaaDoor
