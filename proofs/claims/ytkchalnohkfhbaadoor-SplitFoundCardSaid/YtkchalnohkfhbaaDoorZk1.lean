/- The checks of the batches of draws, reckoned by the kernel: part 2 of 6. No condition; nothing of the program stands here but the specification of its words. -/
import Derived.Test.YtkchalnohkfhbaaDoorZe
set_option linter.unusedVariables false
namespace Go.Proofs.YtkchalnohkfhbaaDoor

theorem k0_17_0 : chkR [] 4 2 (4 * 0) 4 = true := by kernel_rfl
theorem k0_17_1 : chkR [] 4 2 (4 * 1) 4 = true := by kernel_rfl
theorem k0_17_2 : chkR [] 4 2 (4 * 2) 4 = true := by kernel_rfl
theorem k0_17_3 : chkR [] 4 2 (4 * 3) 4 = true := by kernel_rfl
theorem k0_17_4 : chkR [] 4 2 (4 * 4) 4 = true := by kernel_rfl
theorem k0_17_5 : chkR [] 4 2 (4 * 5) 4 = true := by kernel_rfl
theorem k0_17_6 : chkR [] 4 2 (4 * 6) 4 = true := by kernel_rfl
theorem k0_17_7 : chkR [] 4 2 (4 * 7) 4 = true := by kernel_rfl
theorem k0_17_8 : chkR [] 4 2 (4 * 8) 4 = true := by kernel_rfl
theorem k0_17_9 : chkR [] 4 2 (4 * 9) 4 = true := by kernel_rfl
theorem k0_17_10 : chkR [] 4 2 (4 * 10) 4 = true := by kernel_rfl
theorem k0_17_11 : chkR [] 4 2 (4 * 11) 4 = true := by kernel_rfl
theorem k0_17_12 : chkR [] 4 2 (4 * 12) 4 = true := by kernel_rfl
theorem k0_17_13 : chkR [] 4 2 (4 * 13) 4 = true := by kernel_rfl
theorem k0_17_14 : chkR [] 4 2 (4 * 14) 4 = true := by kernel_rfl
theorem k0_17_15 : chkR [] 4 2 (4 * 15) 4 = true := by kernel_rfl
theorem k0_17_16 : chkR [] 4 2 (4 * 16) 4 = true := by kernel_rfl
theorem k0_17_17 : chkR [] 4 2 (4 * 17) 4 = true := by kernel_rfl
theorem k0_17_18 : chkR [] 4 2 (4 * 18) 4 = true := by kernel_rfl
theorem k0_17_19 : chkR [] 4 2 (4 * 19) 4 = true := by kernel_rfl
theorem k0_17_20 : chkR [] 4 2 (4 * 20) 4 = true := by kernel_rfl
theorem k0_17_21 : chkR [] 4 2 (4 * 21) 4 = true := by kernel_rfl
theorem k0_17_22 : chkR [] 4 2 (4 * 22) 4 = true := by kernel_rfl
theorem k0_17_23 : chkR [] 4 2 (4 * 23) 4 = true := by kernel_rfl
theorem k0_17_24 : chkR [] 4 2 (4 * 24) 4 = true := by kernel_rfl
theorem o0_17 : chkO [] 4 2 = true := by kernel_rfl
theorem ok0_17 : OkB [] 4 2 :=
  okB_of (fun k hk => match k, hk with
    | 0, _ => k0_17_0
    | 1, _ => k0_17_1
    | 2, _ => k0_17_2
    | 3, _ => k0_17_3
    | 4, _ => k0_17_4
    | 5, _ => k0_17_5
    | 6, _ => k0_17_6
    | 7, _ => k0_17_7
    | 8, _ => k0_17_8
    | 9, _ => k0_17_9
    | 10, _ => k0_17_10
    | 11, _ => k0_17_11
    | 12, _ => k0_17_12
    | 13, _ => k0_17_13
    | 14, _ => k0_17_14
    | 15, _ => k0_17_15
    | 16, _ => k0_17_16
    | 17, _ => k0_17_17
    | 18, _ => k0_17_18
    | 19, _ => k0_17_19
    | 20, _ => k0_17_20
    | 21, _ => k0_17_21
    | 22, _ => k0_17_22
    | 23, _ => k0_17_23
    | 24, _ => k0_17_24
    | k + 25, h => absurd h (by omega)) o0_17
theorem k0_18_0 : chkR [] 4 4 (4 * 0) 4 = true := by kernel_rfl
theorem k0_18_1 : chkR [] 4 4 (4 * 1) 4 = true := by kernel_rfl
theorem k0_18_2 : chkR [] 4 4 (4 * 2) 4 = true := by kernel_rfl
theorem k0_18_3 : chkR [] 4 4 (4 * 3) 4 = true := by kernel_rfl
theorem k0_18_4 : chkR [] 4 4 (4 * 4) 4 = true := by kernel_rfl
theorem k0_18_5 : chkR [] 4 4 (4 * 5) 4 = true := by kernel_rfl
theorem k0_18_6 : chkR [] 4 4 (4 * 6) 4 = true := by kernel_rfl
theorem k0_18_7 : chkR [] 4 4 (4 * 7) 4 = true := by kernel_rfl
theorem k0_18_8 : chkR [] 4 4 (4 * 8) 4 = true := by kernel_rfl
theorem k0_18_9 : chkR [] 4 4 (4 * 9) 4 = true := by kernel_rfl
theorem k0_18_10 : chkR [] 4 4 (4 * 10) 4 = true := by kernel_rfl
theorem k0_18_11 : chkR [] 4 4 (4 * 11) 4 = true := by kernel_rfl
theorem k0_18_12 : chkR [] 4 4 (4 * 12) 4 = true := by kernel_rfl
theorem k0_18_13 : chkR [] 4 4 (4 * 13) 4 = true := by kernel_rfl
theorem k0_18_14 : chkR [] 4 4 (4 * 14) 4 = true := by kernel_rfl
theorem k0_18_15 : chkR [] 4 4 (4 * 15) 4 = true := by kernel_rfl
theorem k0_18_16 : chkR [] 4 4 (4 * 16) 4 = true := by kernel_rfl
theorem k0_18_17 : chkR [] 4 4 (4 * 17) 4 = true := by kernel_rfl
theorem k0_18_18 : chkR [] 4 4 (4 * 18) 4 = true := by kernel_rfl
theorem k0_18_19 : chkR [] 4 4 (4 * 19) 4 = true := by kernel_rfl
theorem k0_18_20 : chkR [] 4 4 (4 * 20) 4 = true := by kernel_rfl
theorem k0_18_21 : chkR [] 4 4 (4 * 21) 4 = true := by kernel_rfl
theorem k0_18_22 : chkR [] 4 4 (4 * 22) 4 = true := by kernel_rfl
theorem k0_18_23 : chkR [] 4 4 (4 * 23) 4 = true := by kernel_rfl
theorem k0_18_24 : chkR [] 4 4 (4 * 24) 4 = true := by kernel_rfl
theorem o0_18 : chkO [] 4 4 = true := by kernel_rfl
theorem ok0_18 : OkB [] 4 4 :=
  okB_of (fun k hk => match k, hk with
    | 0, _ => k0_18_0
    | 1, _ => k0_18_1
    | 2, _ => k0_18_2
    | 3, _ => k0_18_3
    | 4, _ => k0_18_4
    | 5, _ => k0_18_5
    | 6, _ => k0_18_6
    | 7, _ => k0_18_7
    | 8, _ => k0_18_8
    | 9, _ => k0_18_9
    | 10, _ => k0_18_10
    | 11, _ => k0_18_11
    | 12, _ => k0_18_12
    | 13, _ => k0_18_13
    | 14, _ => k0_18_14
    | 15, _ => k0_18_15
    | 16, _ => k0_18_16
    | 17, _ => k0_18_17
    | 18, _ => k0_18_18
    | 19, _ => k0_18_19
    | 20, _ => k0_18_20
    | 21, _ => k0_18_21
    | 22, _ => k0_18_22
    | 23, _ => k0_18_23
    | 24, _ => k0_18_24
    | k + 25, h => absurd h (by omega)) o0_18
theorem k0_19_0 : chkR [] 4 5 (4 * 0) 4 = true := by kernel_rfl
theorem k0_19_1 : chkR [] 4 5 (4 * 1) 4 = true := by kernel_rfl
theorem k0_19_2 : chkR [] 4 5 (4 * 2) 4 = true := by kernel_rfl
theorem k0_19_3 : chkR [] 4 5 (4 * 3) 4 = true := by kernel_rfl
theorem k0_19_4 : chkR [] 4 5 (4 * 4) 4 = true := by kernel_rfl
theorem k0_19_5 : chkR [] 4 5 (4 * 5) 4 = true := by kernel_rfl
theorem k0_19_6 : chkR [] 4 5 (4 * 6) 4 = true := by kernel_rfl
theorem k0_19_7 : chkR [] 4 5 (4 * 7) 4 = true := by kernel_rfl
theorem k0_19_8 : chkR [] 4 5 (4 * 8) 4 = true := by kernel_rfl
theorem k0_19_9 : chkR [] 4 5 (4 * 9) 4 = true := by kernel_rfl
theorem k0_19_10 : chkR [] 4 5 (4 * 10) 4 = true := by kernel_rfl
theorem k0_19_11 : chkR [] 4 5 (4 * 11) 4 = true := by kernel_rfl
theorem k0_19_12 : chkR [] 4 5 (4 * 12) 4 = true := by kernel_rfl
theorem k0_19_13 : chkR [] 4 5 (4 * 13) 4 = true := by kernel_rfl
theorem k0_19_14 : chkR [] 4 5 (4 * 14) 4 = true := by kernel_rfl
theorem k0_19_15 : chkR [] 4 5 (4 * 15) 4 = true := by kernel_rfl
theorem k0_19_16 : chkR [] 4 5 (4 * 16) 4 = true := by kernel_rfl
theorem k0_19_17 : chkR [] 4 5 (4 * 17) 4 = true := by kernel_rfl
theorem k0_19_18 : chkR [] 4 5 (4 * 18) 4 = true := by kernel_rfl
theorem k0_19_19 : chkR [] 4 5 (4 * 19) 4 = true := by kernel_rfl
theorem k0_19_20 : chkR [] 4 5 (4 * 20) 4 = true := by kernel_rfl
theorem k0_19_21 : chkR [] 4 5 (4 * 21) 4 = true := by kernel_rfl
theorem k0_19_22 : chkR [] 4 5 (4 * 22) 4 = true := by kernel_rfl
theorem k0_19_23 : chkR [] 4 5 (4 * 23) 4 = true := by kernel_rfl
theorem k0_19_24 : chkR [] 4 5 (4 * 24) 4 = true := by kernel_rfl
theorem o0_19 : chkO [] 4 5 = true := by kernel_rfl
theorem ok0_19 : OkB [] 4 5 :=
  okB_of (fun k hk => match k, hk with
    | 0, _ => k0_19_0
    | 1, _ => k0_19_1
    | 2, _ => k0_19_2
    | 3, _ => k0_19_3
    | 4, _ => k0_19_4
    | 5, _ => k0_19_5
    | 6, _ => k0_19_6
    | 7, _ => k0_19_7
    | 8, _ => k0_19_8
    | 9, _ => k0_19_9
    | 10, _ => k0_19_10
    | 11, _ => k0_19_11
    | 12, _ => k0_19_12
    | 13, _ => k0_19_13
    | 14, _ => k0_19_14
    | 15, _ => k0_19_15
    | 16, _ => k0_19_16
    | 17, _ => k0_19_17
    | 18, _ => k0_19_18
    | 19, _ => k0_19_19
    | 20, _ => k0_19_20
    | 21, _ => k0_19_21
    | 22, _ => k0_19_22
    | 23, _ => k0_19_23
    | 24, _ => k0_19_24
    | k + 25, h => absurd h (by omega)) o0_19
theorem k0_20_0 : chkR [] 5 2 (4 * 0) 4 = true := by kernel_rfl
theorem k0_20_1 : chkR [] 5 2 (4 * 1) 4 = true := by kernel_rfl
theorem k0_20_2 : chkR [] 5 2 (4 * 2) 4 = true := by kernel_rfl
theorem k0_20_3 : chkR [] 5 2 (4 * 3) 4 = true := by kernel_rfl
theorem k0_20_4 : chkR [] 5 2 (4 * 4) 4 = true := by kernel_rfl
theorem k0_20_5 : chkR [] 5 2 (4 * 5) 4 = true := by kernel_rfl
theorem k0_20_6 : chkR [] 5 2 (4 * 6) 4 = true := by kernel_rfl
theorem k0_20_7 : chkR [] 5 2 (4 * 7) 4 = true := by kernel_rfl
theorem k0_20_8 : chkR [] 5 2 (4 * 8) 4 = true := by kernel_rfl
theorem k0_20_9 : chkR [] 5 2 (4 * 9) 4 = true := by kernel_rfl
theorem k0_20_10 : chkR [] 5 2 (4 * 10) 4 = true := by kernel_rfl
theorem k0_20_11 : chkR [] 5 2 (4 * 11) 4 = true := by kernel_rfl
theorem k0_20_12 : chkR [] 5 2 (4 * 12) 4 = true := by kernel_rfl
theorem k0_20_13 : chkR [] 5 2 (4 * 13) 4 = true := by kernel_rfl
theorem k0_20_14 : chkR [] 5 2 (4 * 14) 4 = true := by kernel_rfl
theorem k0_20_15 : chkR [] 5 2 (4 * 15) 4 = true := by kernel_rfl
theorem k0_20_16 : chkR [] 5 2 (4 * 16) 4 = true := by kernel_rfl
theorem k0_20_17 : chkR [] 5 2 (4 * 17) 4 = true := by kernel_rfl
theorem k0_20_18 : chkR [] 5 2 (4 * 18) 4 = true := by kernel_rfl
theorem k0_20_19 : chkR [] 5 2 (4 * 19) 4 = true := by kernel_rfl
theorem k0_20_20 : chkR [] 5 2 (4 * 20) 4 = true := by kernel_rfl
theorem k0_20_21 : chkR [] 5 2 (4 * 21) 4 = true := by kernel_rfl
theorem k0_20_22 : chkR [] 5 2 (4 * 22) 4 = true := by kernel_rfl
theorem k0_20_23 : chkR [] 5 2 (4 * 23) 4 = true := by kernel_rfl
theorem k0_20_24 : chkR [] 5 2 (4 * 24) 4 = true := by kernel_rfl
theorem o0_20 : chkO [] 5 2 = true := by kernel_rfl
theorem ok0_20 : OkB [] 5 2 :=
  okB_of (fun k hk => match k, hk with
    | 0, _ => k0_20_0
    | 1, _ => k0_20_1
    | 2, _ => k0_20_2
    | 3, _ => k0_20_3
    | 4, _ => k0_20_4
    | 5, _ => k0_20_5
    | 6, _ => k0_20_6
    | 7, _ => k0_20_7
    | 8, _ => k0_20_8
    | 9, _ => k0_20_9
    | 10, _ => k0_20_10
    | 11, _ => k0_20_11
    | 12, _ => k0_20_12
    | 13, _ => k0_20_13
    | 14, _ => k0_20_14
    | 15, _ => k0_20_15
    | 16, _ => k0_20_16
    | 17, _ => k0_20_17
    | 18, _ => k0_20_18
    | 19, _ => k0_20_19
    | 20, _ => k0_20_20
    | 21, _ => k0_20_21
    | 22, _ => k0_20_22
    | 23, _ => k0_20_23
    | 24, _ => k0_20_24
    | k + 25, h => absurd h (by omega)) o0_20
theorem k0_21_0 : chkR [] 5 3 (4 * 0) 4 = true := by kernel_rfl
theorem k0_21_1 : chkR [] 5 3 (4 * 1) 4 = true := by kernel_rfl
theorem k0_21_2 : chkR [] 5 3 (4 * 2) 4 = true := by kernel_rfl
theorem k0_21_3 : chkR [] 5 3 (4 * 3) 4 = true := by kernel_rfl
theorem k0_21_4 : chkR [] 5 3 (4 * 4) 4 = true := by kernel_rfl
theorem k0_21_5 : chkR [] 5 3 (4 * 5) 4 = true := by kernel_rfl
theorem k0_21_6 : chkR [] 5 3 (4 * 6) 4 = true := by kernel_rfl
theorem k0_21_7 : chkR [] 5 3 (4 * 7) 4 = true := by kernel_rfl
theorem k0_21_8 : chkR [] 5 3 (4 * 8) 4 = true := by kernel_rfl
theorem k0_21_9 : chkR [] 5 3 (4 * 9) 4 = true := by kernel_rfl
theorem k0_21_10 : chkR [] 5 3 (4 * 10) 4 = true := by kernel_rfl
theorem k0_21_11 : chkR [] 5 3 (4 * 11) 4 = true := by kernel_rfl
theorem k0_21_12 : chkR [] 5 3 (4 * 12) 4 = true := by kernel_rfl
theorem k0_21_13 : chkR [] 5 3 (4 * 13) 4 = true := by kernel_rfl
theorem k0_21_14 : chkR [] 5 3 (4 * 14) 4 = true := by kernel_rfl
theorem k0_21_15 : chkR [] 5 3 (4 * 15) 4 = true := by kernel_rfl
theorem k0_21_16 : chkR [] 5 3 (4 * 16) 4 = true := by kernel_rfl
theorem k0_21_17 : chkR [] 5 3 (4 * 17) 4 = true := by kernel_rfl
theorem k0_21_18 : chkR [] 5 3 (4 * 18) 4 = true := by kernel_rfl
theorem k0_21_19 : chkR [] 5 3 (4 * 19) 4 = true := by kernel_rfl
theorem k0_21_20 : chkR [] 5 3 (4 * 20) 4 = true := by kernel_rfl
theorem k0_21_21 : chkR [] 5 3 (4 * 21) 4 = true := by kernel_rfl
theorem k0_21_22 : chkR [] 5 3 (4 * 22) 4 = true := by kernel_rfl
theorem k0_21_23 : chkR [] 5 3 (4 * 23) 4 = true := by kernel_rfl
theorem k0_21_24 : chkR [] 5 3 (4 * 24) 4 = true := by kernel_rfl
theorem o0_21 : chkO [] 5 3 = true := by kernel_rfl
theorem ok0_21 : OkB [] 5 3 :=
  okB_of (fun k hk => match k, hk with
    | 0, _ => k0_21_0
    | 1, _ => k0_21_1
    | 2, _ => k0_21_2
    | 3, _ => k0_21_3
    | 4, _ => k0_21_4
    | 5, _ => k0_21_5
    | 6, _ => k0_21_6
    | 7, _ => k0_21_7
    | 8, _ => k0_21_8
    | 9, _ => k0_21_9
    | 10, _ => k0_21_10
    | 11, _ => k0_21_11
    | 12, _ => k0_21_12
    | 13, _ => k0_21_13
    | 14, _ => k0_21_14
    | 15, _ => k0_21_15
    | 16, _ => k0_21_16
    | 17, _ => k0_21_17
    | 18, _ => k0_21_18
    | 19, _ => k0_21_19
    | 20, _ => k0_21_20
    | 21, _ => k0_21_21
    | 22, _ => k0_21_22
    | 23, _ => k0_21_23
    | 24, _ => k0_21_24
    | k + 25, h => absurd h (by omega)) o0_21
theorem k0_22_0 : chkR [] 5 5 (4 * 0) 4 = true := by kernel_rfl
theorem k0_22_1 : chkR [] 5 5 (4 * 1) 4 = true := by kernel_rfl
theorem k0_22_2 : chkR [] 5 5 (4 * 2) 4 = true := by kernel_rfl
theorem k0_22_3 : chkR [] 5 5 (4 * 3) 4 = true := by kernel_rfl
theorem k0_22_4 : chkR [] 5 5 (4 * 4) 4 = true := by kernel_rfl
theorem k0_22_5 : chkR [] 5 5 (4 * 5) 4 = true := by kernel_rfl
theorem k0_22_6 : chkR [] 5 5 (4 * 6) 4 = true := by kernel_rfl
theorem k0_22_7 : chkR [] 5 5 (4 * 7) 4 = true := by kernel_rfl
theorem k0_22_8 : chkR [] 5 5 (4 * 8) 4 = true := by kernel_rfl
theorem k0_22_9 : chkR [] 5 5 (4 * 9) 4 = true := by kernel_rfl
theorem k0_22_10 : chkR [] 5 5 (4 * 10) 4 = true := by kernel_rfl
theorem k0_22_11 : chkR [] 5 5 (4 * 11) 4 = true := by kernel_rfl
theorem k0_22_12 : chkR [] 5 5 (4 * 12) 4 = true := by kernel_rfl
theorem k0_22_13 : chkR [] 5 5 (4 * 13) 4 = true := by kernel_rfl
theorem k0_22_14 : chkR [] 5 5 (4 * 14) 4 = true := by kernel_rfl
theorem k0_22_15 : chkR [] 5 5 (4 * 15) 4 = true := by kernel_rfl
theorem k0_22_16 : chkR [] 5 5 (4 * 16) 4 = true := by kernel_rfl
theorem k0_22_17 : chkR [] 5 5 (4 * 17) 4 = true := by kernel_rfl
theorem k0_22_18 : chkR [] 5 5 (4 * 18) 4 = true := by kernel_rfl
theorem k0_22_19 : chkR [] 5 5 (4 * 19) 4 = true := by kernel_rfl
theorem k0_22_20 : chkR [] 5 5 (4 * 20) 4 = true := by kernel_rfl
theorem k0_22_21 : chkR [] 5 5 (4 * 21) 4 = true := by kernel_rfl
theorem k0_22_22 : chkR [] 5 5 (4 * 22) 4 = true := by kernel_rfl
theorem k0_22_23 : chkR [] 5 5 (4 * 23) 4 = true := by kernel_rfl
theorem k0_22_24 : chkR [] 5 5 (4 * 24) 4 = true := by kernel_rfl
theorem o0_22 : chkO [] 5 5 = true := by kernel_rfl
theorem ok0_22 : OkB [] 5 5 :=
  okB_of (fun k hk => match k, hk with
    | 0, _ => k0_22_0
    | 1, _ => k0_22_1
    | 2, _ => k0_22_2
    | 3, _ => k0_22_3
    | 4, _ => k0_22_4
    | 5, _ => k0_22_5
    | 6, _ => k0_22_6
    | 7, _ => k0_22_7
    | 8, _ => k0_22_8
    | 9, _ => k0_22_9
    | 10, _ => k0_22_10
    | 11, _ => k0_22_11
    | 12, _ => k0_22_12
    | 13, _ => k0_22_13
    | 14, _ => k0_22_14
    | 15, _ => k0_22_15
    | 16, _ => k0_22_16
    | 17, _ => k0_22_17
    | 18, _ => k0_22_18
    | 19, _ => k0_22_19
    | 20, _ => k0_22_20
    | 21, _ => k0_22_21
    | 22, _ => k0_22_22
    | 23, _ => k0_22_23
    | 24, _ => k0_22_24
    | k + 25, h => absurd h (by omega)) o0_22
theorem k0_23_0 : chkR [] 5 6 (4 * 0) 4 = true := by kernel_rfl
theorem k0_23_1 : chkR [] 5 6 (4 * 1) 4 = true := by kernel_rfl
theorem k0_23_2 : chkR [] 5 6 (4 * 2) 4 = true := by kernel_rfl
theorem k0_23_3 : chkR [] 5 6 (4 * 3) 4 = true := by kernel_rfl
theorem k0_23_4 : chkR [] 5 6 (4 * 4) 4 = true := by kernel_rfl
theorem k0_23_5 : chkR [] 5 6 (4 * 5) 4 = true := by kernel_rfl
theorem k0_23_6 : chkR [] 5 6 (4 * 6) 4 = true := by kernel_rfl
theorem k0_23_7 : chkR [] 5 6 (4 * 7) 4 = true := by kernel_rfl
theorem k0_23_8 : chkR [] 5 6 (4 * 8) 4 = true := by kernel_rfl
theorem k0_23_9 : chkR [] 5 6 (4 * 9) 4 = true := by kernel_rfl
theorem k0_23_10 : chkR [] 5 6 (4 * 10) 4 = true := by kernel_rfl
theorem k0_23_11 : chkR [] 5 6 (4 * 11) 4 = true := by kernel_rfl
theorem k0_23_12 : chkR [] 5 6 (4 * 12) 4 = true := by kernel_rfl
theorem k0_23_13 : chkR [] 5 6 (4 * 13) 4 = true := by kernel_rfl
theorem k0_23_14 : chkR [] 5 6 (4 * 14) 4 = true := by kernel_rfl
theorem k0_23_15 : chkR [] 5 6 (4 * 15) 4 = true := by kernel_rfl
theorem k0_23_16 : chkR [] 5 6 (4 * 16) 4 = true := by kernel_rfl
theorem k0_23_17 : chkR [] 5 6 (4 * 17) 4 = true := by kernel_rfl
theorem k0_23_18 : chkR [] 5 6 (4 * 18) 4 = true := by kernel_rfl
theorem k0_23_19 : chkR [] 5 6 (4 * 19) 4 = true := by kernel_rfl
theorem k0_23_20 : chkR [] 5 6 (4 * 20) 4 = true := by kernel_rfl
theorem k0_23_21 : chkR [] 5 6 (4 * 21) 4 = true := by kernel_rfl
theorem k0_23_22 : chkR [] 5 6 (4 * 22) 4 = true := by kernel_rfl
theorem k0_23_23 : chkR [] 5 6 (4 * 23) 4 = true := by kernel_rfl
theorem k0_23_24 : chkR [] 5 6 (4 * 24) 4 = true := by kernel_rfl
theorem o0_23 : chkO [] 5 6 = true := by kernel_rfl
theorem ok0_23 : OkB [] 5 6 :=
  okB_of (fun k hk => match k, hk with
    | 0, _ => k0_23_0
    | 1, _ => k0_23_1
    | 2, _ => k0_23_2
    | 3, _ => k0_23_3
    | 4, _ => k0_23_4
    | 5, _ => k0_23_5
    | 6, _ => k0_23_6
    | 7, _ => k0_23_7
    | 8, _ => k0_23_8
    | 9, _ => k0_23_9
    | 10, _ => k0_23_10
    | 11, _ => k0_23_11
    | 12, _ => k0_23_12
    | 13, _ => k0_23_13
    | 14, _ => k0_23_14
    | 15, _ => k0_23_15
    | 16, _ => k0_23_16
    | 17, _ => k0_23_17
    | 18, _ => k0_23_18
    | 19, _ => k0_23_19
    | 20, _ => k0_23_20
    | 21, _ => k0_23_21
    | 22, _ => k0_23_22
    | 23, _ => k0_23_23
    | 24, _ => k0_23_24
    | k + 25, h => absurd h (by omega)) o0_23
theorem k0_24_0 : chkR [] 6 2 (4 * 0) 4 = true := by kernel_rfl
theorem k0_24_1 : chkR [] 6 2 (4 * 1) 4 = true := by kernel_rfl
theorem k0_24_2 : chkR [] 6 2 (4 * 2) 4 = true := by kernel_rfl
theorem k0_24_3 : chkR [] 6 2 (4 * 3) 4 = true := by kernel_rfl
theorem k0_24_4 : chkR [] 6 2 (4 * 4) 4 = true := by kernel_rfl
theorem k0_24_5 : chkR [] 6 2 (4 * 5) 4 = true := by kernel_rfl
theorem k0_24_6 : chkR [] 6 2 (4 * 6) 4 = true := by kernel_rfl
theorem k0_24_7 : chkR [] 6 2 (4 * 7) 4 = true := by kernel_rfl
theorem k0_24_8 : chkR [] 6 2 (4 * 8) 4 = true := by kernel_rfl
theorem k0_24_9 : chkR [] 6 2 (4 * 9) 4 = true := by kernel_rfl
theorem k0_24_10 : chkR [] 6 2 (4 * 10) 4 = true := by kernel_rfl
theorem k0_24_11 : chkR [] 6 2 (4 * 11) 4 = true := by kernel_rfl
theorem k0_24_12 : chkR [] 6 2 (4 * 12) 4 = true := by kernel_rfl
theorem k0_24_13 : chkR [] 6 2 (4 * 13) 4 = true := by kernel_rfl
theorem k0_24_14 : chkR [] 6 2 (4 * 14) 4 = true := by kernel_rfl
theorem k0_24_15 : chkR [] 6 2 (4 * 15) 4 = true := by kernel_rfl
theorem k0_24_16 : chkR [] 6 2 (4 * 16) 4 = true := by kernel_rfl
theorem k0_24_17 : chkR [] 6 2 (4 * 17) 4 = true := by kernel_rfl
theorem k0_24_18 : chkR [] 6 2 (4 * 18) 4 = true := by kernel_rfl
theorem k0_24_19 : chkR [] 6 2 (4 * 19) 4 = true := by kernel_rfl
theorem k0_24_20 : chkR [] 6 2 (4 * 20) 4 = true := by kernel_rfl
theorem k0_24_21 : chkR [] 6 2 (4 * 21) 4 = true := by kernel_rfl
theorem k0_24_22 : chkR [] 6 2 (4 * 22) 4 = true := by kernel_rfl
theorem k0_24_23 : chkR [] 6 2 (4 * 23) 4 = true := by kernel_rfl
theorem k0_24_24 : chkR [] 6 2 (4 * 24) 4 = true := by kernel_rfl
theorem o0_24 : chkO [] 6 2 = true := by kernel_rfl
theorem ok0_24 : OkB [] 6 2 :=
  okB_of (fun k hk => match k, hk with
    | 0, _ => k0_24_0
    | 1, _ => k0_24_1
    | 2, _ => k0_24_2
    | 3, _ => k0_24_3
    | 4, _ => k0_24_4
    | 5, _ => k0_24_5
    | 6, _ => k0_24_6
    | 7, _ => k0_24_7
    | 8, _ => k0_24_8
    | 9, _ => k0_24_9
    | 10, _ => k0_24_10
    | 11, _ => k0_24_11
    | 12, _ => k0_24_12
    | 13, _ => k0_24_13
    | 14, _ => k0_24_14
    | 15, _ => k0_24_15
    | 16, _ => k0_24_16
    | 17, _ => k0_24_17
    | 18, _ => k0_24_18
    | 19, _ => k0_24_19
    | 20, _ => k0_24_20
    | 21, _ => k0_24_21
    | 22, _ => k0_24_22
    | 23, _ => k0_24_23
    | 24, _ => k0_24_24
    | k + 25, h => absurd h (by omega)) o0_24
theorem k0_25_0 : chkR [] 6 3 (4 * 0) 4 = true := by kernel_rfl
theorem k0_25_1 : chkR [] 6 3 (4 * 1) 4 = true := by kernel_rfl
theorem k0_25_2 : chkR [] 6 3 (4 * 2) 4 = true := by kernel_rfl
theorem k0_25_3 : chkR [] 6 3 (4 * 3) 4 = true := by kernel_rfl
theorem k0_25_4 : chkR [] 6 3 (4 * 4) 4 = true := by kernel_rfl
theorem k0_25_5 : chkR [] 6 3 (4 * 5) 4 = true := by kernel_rfl
theorem k0_25_6 : chkR [] 6 3 (4 * 6) 4 = true := by kernel_rfl
theorem k0_25_7 : chkR [] 6 3 (4 * 7) 4 = true := by kernel_rfl
theorem k0_25_8 : chkR [] 6 3 (4 * 8) 4 = true := by kernel_rfl
theorem k0_25_9 : chkR [] 6 3 (4 * 9) 4 = true := by kernel_rfl
theorem k0_25_10 : chkR [] 6 3 (4 * 10) 4 = true := by kernel_rfl
theorem k0_25_11 : chkR [] 6 3 (4 * 11) 4 = true := by kernel_rfl
theorem k0_25_12 : chkR [] 6 3 (4 * 12) 4 = true := by kernel_rfl
theorem k0_25_13 : chkR [] 6 3 (4 * 13) 4 = true := by kernel_rfl
theorem k0_25_14 : chkR [] 6 3 (4 * 14) 4 = true := by kernel_rfl
theorem k0_25_15 : chkR [] 6 3 (4 * 15) 4 = true := by kernel_rfl
theorem k0_25_16 : chkR [] 6 3 (4 * 16) 4 = true := by kernel_rfl
theorem k0_25_17 : chkR [] 6 3 (4 * 17) 4 = true := by kernel_rfl
theorem k0_25_18 : chkR [] 6 3 (4 * 18) 4 = true := by kernel_rfl
theorem k0_25_19 : chkR [] 6 3 (4 * 19) 4 = true := by kernel_rfl
theorem k0_25_20 : chkR [] 6 3 (4 * 20) 4 = true := by kernel_rfl
theorem k0_25_21 : chkR [] 6 3 (4 * 21) 4 = true := by kernel_rfl
theorem k0_25_22 : chkR [] 6 3 (4 * 22) 4 = true := by kernel_rfl
theorem k0_25_23 : chkR [] 6 3 (4 * 23) 4 = true := by kernel_rfl
theorem k0_25_24 : chkR [] 6 3 (4 * 24) 4 = true := by kernel_rfl
theorem o0_25 : chkO [] 6 3 = true := by kernel_rfl
theorem ok0_25 : OkB [] 6 3 :=
  okB_of (fun k hk => match k, hk with
    | 0, _ => k0_25_0
    | 1, _ => k0_25_1
    | 2, _ => k0_25_2
    | 3, _ => k0_25_3
    | 4, _ => k0_25_4
    | 5, _ => k0_25_5
    | 6, _ => k0_25_6
    | 7, _ => k0_25_7
    | 8, _ => k0_25_8
    | 9, _ => k0_25_9
    | 10, _ => k0_25_10
    | 11, _ => k0_25_11
    | 12, _ => k0_25_12
    | 13, _ => k0_25_13
    | 14, _ => k0_25_14
    | 15, _ => k0_25_15
    | 16, _ => k0_25_16
    | 17, _ => k0_25_17
    | 18, _ => k0_25_18
    | 19, _ => k0_25_19
    | 20, _ => k0_25_20
    | 21, _ => k0_25_21
    | 22, _ => k0_25_22
    | 23, _ => k0_25_23
    | 24, _ => k0_25_24
    | k + 25, h => absurd h (by omega)) o0_25
theorem k0_26_0 : chkR [] 6 6 (4 * 0) 4 = true := by kernel_rfl
theorem k0_26_1 : chkR [] 6 6 (4 * 1) 4 = true := by kernel_rfl
theorem k0_26_2 : chkR [] 6 6 (4 * 2) 4 = true := by kernel_rfl
theorem k0_26_3 : chkR [] 6 6 (4 * 3) 4 = true := by kernel_rfl
theorem k0_26_4 : chkR [] 6 6 (4 * 4) 4 = true := by kernel_rfl
theorem k0_26_5 : chkR [] 6 6 (4 * 5) 4 = true := by kernel_rfl
theorem k0_26_6 : chkR [] 6 6 (4 * 6) 4 = true := by kernel_rfl
theorem k0_26_7 : chkR [] 6 6 (4 * 7) 4 = true := by kernel_rfl
theorem k0_26_8 : chkR [] 6 6 (4 * 8) 4 = true := by kernel_rfl
theorem k0_26_9 : chkR [] 6 6 (4 * 9) 4 = true := by kernel_rfl
theorem k0_26_10 : chkR [] 6 6 (4 * 10) 4 = true := by kernel_rfl
theorem k0_26_11 : chkR [] 6 6 (4 * 11) 4 = true := by kernel_rfl
theorem k0_26_12 : chkR [] 6 6 (4 * 12) 4 = true := by kernel_rfl
theorem k0_26_13 : chkR [] 6 6 (4 * 13) 4 = true := by kernel_rfl
theorem k0_26_14 : chkR [] 6 6 (4 * 14) 4 = true := by kernel_rfl
theorem k0_26_15 : chkR [] 6 6 (4 * 15) 4 = true := by kernel_rfl
theorem k0_26_16 : chkR [] 6 6 (4 * 16) 4 = true := by kernel_rfl
theorem k0_26_17 : chkR [] 6 6 (4 * 17) 4 = true := by kernel_rfl
theorem k0_26_18 : chkR [] 6 6 (4 * 18) 4 = true := by kernel_rfl
theorem k0_26_19 : chkR [] 6 6 (4 * 19) 4 = true := by kernel_rfl
theorem k0_26_20 : chkR [] 6 6 (4 * 20) 4 = true := by kernel_rfl
theorem k0_26_21 : chkR [] 6 6 (4 * 21) 4 = true := by kernel_rfl
theorem k0_26_22 : chkR [] 6 6 (4 * 22) 4 = true := by kernel_rfl
theorem k0_26_23 : chkR [] 6 6 (4 * 23) 4 = true := by kernel_rfl
theorem k0_26_24 : chkR [] 6 6 (4 * 24) 4 = true := by kernel_rfl
theorem o0_26 : chkO [] 6 6 = true := by kernel_rfl
theorem ok0_26 : OkB [] 6 6 :=
  okB_of (fun k hk => match k, hk with
    | 0, _ => k0_26_0
    | 1, _ => k0_26_1
    | 2, _ => k0_26_2
    | 3, _ => k0_26_3
    | 4, _ => k0_26_4
    | 5, _ => k0_26_5
    | 6, _ => k0_26_6
    | 7, _ => k0_26_7
    | 8, _ => k0_26_8
    | 9, _ => k0_26_9
    | 10, _ => k0_26_10
    | 11, _ => k0_26_11
    | 12, _ => k0_26_12
    | 13, _ => k0_26_13
    | 14, _ => k0_26_14
    | 15, _ => k0_26_15
    | 16, _ => k0_26_16
    | 17, _ => k0_26_17
    | 18, _ => k0_26_18
    | 19, _ => k0_26_19
    | 20, _ => k0_26_20
    | 21, _ => k0_26_21
    | 22, _ => k0_26_22
    | 23, _ => k0_26_23
    | 24, _ => k0_26_24
    | k + 25, h => absurd h (by omega)) o0_26
theorem k0_27_0 : chkR [] 7 2 (4 * 0) 4 = true := by kernel_rfl
theorem k0_27_1 : chkR [] 7 2 (4 * 1) 4 = true := by kernel_rfl
theorem k0_27_2 : chkR [] 7 2 (4 * 2) 4 = true := by kernel_rfl
theorem k0_27_3 : chkR [] 7 2 (4 * 3) 4 = true := by kernel_rfl
theorem k0_27_4 : chkR [] 7 2 (4 * 4) 4 = true := by kernel_rfl
theorem k0_27_5 : chkR [] 7 2 (4 * 5) 4 = true := by kernel_rfl
theorem k0_27_6 : chkR [] 7 2 (4 * 6) 4 = true := by kernel_rfl
theorem k0_27_7 : chkR [] 7 2 (4 * 7) 4 = true := by kernel_rfl
theorem k0_27_8 : chkR [] 7 2 (4 * 8) 4 = true := by kernel_rfl
theorem k0_27_9 : chkR [] 7 2 (4 * 9) 4 = true := by kernel_rfl
theorem k0_27_10 : chkR [] 7 2 (4 * 10) 4 = true := by kernel_rfl
theorem k0_27_11 : chkR [] 7 2 (4 * 11) 4 = true := by kernel_rfl
theorem k0_27_12 : chkR [] 7 2 (4 * 12) 4 = true := by kernel_rfl
theorem k0_27_13 : chkR [] 7 2 (4 * 13) 4 = true := by kernel_rfl
theorem k0_27_14 : chkR [] 7 2 (4 * 14) 4 = true := by kernel_rfl
theorem k0_27_15 : chkR [] 7 2 (4 * 15) 4 = true := by kernel_rfl
theorem k0_27_16 : chkR [] 7 2 (4 * 16) 4 = true := by kernel_rfl
theorem k0_27_17 : chkR [] 7 2 (4 * 17) 4 = true := by kernel_rfl
theorem k0_27_18 : chkR [] 7 2 (4 * 18) 4 = true := by kernel_rfl
theorem k0_27_19 : chkR [] 7 2 (4 * 19) 4 = true := by kernel_rfl
theorem k0_27_20 : chkR [] 7 2 (4 * 20) 4 = true := by kernel_rfl
theorem k0_27_21 : chkR [] 7 2 (4 * 21) 4 = true := by kernel_rfl
theorem k0_27_22 : chkR [] 7 2 (4 * 22) 4 = true := by kernel_rfl
theorem k0_27_23 : chkR [] 7 2 (4 * 23) 4 = true := by kernel_rfl
theorem k0_27_24 : chkR [] 7 2 (4 * 24) 4 = true := by kernel_rfl
theorem o0_27 : chkO [] 7 2 = true := by kernel_rfl
theorem ok0_27 : OkB [] 7 2 :=
  okB_of (fun k hk => match k, hk with
    | 0, _ => k0_27_0
    | 1, _ => k0_27_1
    | 2, _ => k0_27_2
    | 3, _ => k0_27_3
    | 4, _ => k0_27_4
    | 5, _ => k0_27_5
    | 6, _ => k0_27_6
    | 7, _ => k0_27_7
    | 8, _ => k0_27_8
    | 9, _ => k0_27_9
    | 10, _ => k0_27_10
    | 11, _ => k0_27_11
    | 12, _ => k0_27_12
    | 13, _ => k0_27_13
    | 14, _ => k0_27_14
    | 15, _ => k0_27_15
    | 16, _ => k0_27_16
    | 17, _ => k0_27_17
    | 18, _ => k0_27_18
    | 19, _ => k0_27_19
    | 20, _ => k0_27_20
    | 21, _ => k0_27_21
    | 22, _ => k0_27_22
    | 23, _ => k0_27_23
    | 24, _ => k0_27_24
    | k + 25, h => absurd h (by omega)) o0_27
theorem k0_28_0 : chkR [] 7 3 (4 * 0) 4 = true := by kernel_rfl
theorem k0_28_1 : chkR [] 7 3 (4 * 1) 4 = true := by kernel_rfl
theorem k0_28_2 : chkR [] 7 3 (4 * 2) 4 = true := by kernel_rfl
theorem k0_28_3 : chkR [] 7 3 (4 * 3) 4 = true := by kernel_rfl
theorem k0_28_4 : chkR [] 7 3 (4 * 4) 4 = true := by kernel_rfl
theorem k0_28_5 : chkR [] 7 3 (4 * 5) 4 = true := by kernel_rfl
theorem k0_28_6 : chkR [] 7 3 (4 * 6) 4 = true := by kernel_rfl
theorem k0_28_7 : chkR [] 7 3 (4 * 7) 4 = true := by kernel_rfl
theorem k0_28_8 : chkR [] 7 3 (4 * 8) 4 = true := by kernel_rfl
theorem k0_28_9 : chkR [] 7 3 (4 * 9) 4 = true := by kernel_rfl
theorem k0_28_10 : chkR [] 7 3 (4 * 10) 4 = true := by kernel_rfl
theorem k0_28_11 : chkR [] 7 3 (4 * 11) 4 = true := by kernel_rfl
theorem k0_28_12 : chkR [] 7 3 (4 * 12) 4 = true := by kernel_rfl
theorem k0_28_13 : chkR [] 7 3 (4 * 13) 4 = true := by kernel_rfl
theorem k0_28_14 : chkR [] 7 3 (4 * 14) 4 = true := by kernel_rfl
theorem k0_28_15 : chkR [] 7 3 (4 * 15) 4 = true := by kernel_rfl
theorem k0_28_16 : chkR [] 7 3 (4 * 16) 4 = true := by kernel_rfl
theorem k0_28_17 : chkR [] 7 3 (4 * 17) 4 = true := by kernel_rfl
theorem k0_28_18 : chkR [] 7 3 (4 * 18) 4 = true := by kernel_rfl
theorem k0_28_19 : chkR [] 7 3 (4 * 19) 4 = true := by kernel_rfl
theorem k0_28_20 : chkR [] 7 3 (4 * 20) 4 = true := by kernel_rfl
theorem k0_28_21 : chkR [] 7 3 (4 * 21) 4 = true := by kernel_rfl
theorem k0_28_22 : chkR [] 7 3 (4 * 22) 4 = true := by kernel_rfl
theorem k0_28_23 : chkR [] 7 3 (4 * 23) 4 = true := by kernel_rfl
theorem k0_28_24 : chkR [] 7 3 (4 * 24) 4 = true := by kernel_rfl
theorem o0_28 : chkO [] 7 3 = true := by kernel_rfl
theorem ok0_28 : OkB [] 7 3 :=
  okB_of (fun k hk => match k, hk with
    | 0, _ => k0_28_0
    | 1, _ => k0_28_1
    | 2, _ => k0_28_2
    | 3, _ => k0_28_3
    | 4, _ => k0_28_4
    | 5, _ => k0_28_5
    | 6, _ => k0_28_6
    | 7, _ => k0_28_7
    | 8, _ => k0_28_8
    | 9, _ => k0_28_9
    | 10, _ => k0_28_10
    | 11, _ => k0_28_11
    | 12, _ => k0_28_12
    | 13, _ => k0_28_13
    | 14, _ => k0_28_14
    | 15, _ => k0_28_15
    | 16, _ => k0_28_16
    | 17, _ => k0_28_17
    | 18, _ => k0_28_18
    | 19, _ => k0_28_19
    | 20, _ => k0_28_20
    | 21, _ => k0_28_21
    | 22, _ => k0_28_22
    | 23, _ => k0_28_23
    | 24, _ => k0_28_24
    | k + 25, h => absurd h (by omega)) o0_28
theorem k0_29_0 : chkR [] 8 2 (4 * 0) 4 = true := by kernel_rfl
theorem k0_29_1 : chkR [] 8 2 (4 * 1) 4 = true := by kernel_rfl
theorem k0_29_2 : chkR [] 8 2 (4 * 2) 4 = true := by kernel_rfl
theorem k0_29_3 : chkR [] 8 2 (4 * 3) 4 = true := by kernel_rfl
theorem k0_29_4 : chkR [] 8 2 (4 * 4) 4 = true := by kernel_rfl
theorem k0_29_5 : chkR [] 8 2 (4 * 5) 4 = true := by kernel_rfl
theorem k0_29_6 : chkR [] 8 2 (4 * 6) 4 = true := by kernel_rfl
theorem k0_29_7 : chkR [] 8 2 (4 * 7) 4 = true := by kernel_rfl
theorem k0_29_8 : chkR [] 8 2 (4 * 8) 4 = true := by kernel_rfl
theorem k0_29_9 : chkR [] 8 2 (4 * 9) 4 = true := by kernel_rfl
theorem k0_29_10 : chkR [] 8 2 (4 * 10) 4 = true := by kernel_rfl
theorem k0_29_11 : chkR [] 8 2 (4 * 11) 4 = true := by kernel_rfl
theorem k0_29_12 : chkR [] 8 2 (4 * 12) 4 = true := by kernel_rfl
theorem k0_29_13 : chkR [] 8 2 (4 * 13) 4 = true := by kernel_rfl
theorem k0_29_14 : chkR [] 8 2 (4 * 14) 4 = true := by kernel_rfl
theorem k0_29_15 : chkR [] 8 2 (4 * 15) 4 = true := by kernel_rfl
theorem k0_29_16 : chkR [] 8 2 (4 * 16) 4 = true := by kernel_rfl
theorem k0_29_17 : chkR [] 8 2 (4 * 17) 4 = true := by kernel_rfl
theorem k0_29_18 : chkR [] 8 2 (4 * 18) 4 = true := by kernel_rfl
theorem k0_29_19 : chkR [] 8 2 (4 * 19) 4 = true := by kernel_rfl
theorem k0_29_20 : chkR [] 8 2 (4 * 20) 4 = true := by kernel_rfl
theorem k0_29_21 : chkR [] 8 2 (4 * 21) 4 = true := by kernel_rfl
theorem k0_29_22 : chkR [] 8 2 (4 * 22) 4 = true := by kernel_rfl
theorem k0_29_23 : chkR [] 8 2 (4 * 23) 4 = true := by kernel_rfl
theorem k0_29_24 : chkR [] 8 2 (4 * 24) 4 = true := by kernel_rfl
theorem o0_29 : chkO [] 8 2 = true := by kernel_rfl
theorem ok0_29 : OkB [] 8 2 :=
  okB_of (fun k hk => match k, hk with
    | 0, _ => k0_29_0
    | 1, _ => k0_29_1
    | 2, _ => k0_29_2
    | 3, _ => k0_29_3
    | 4, _ => k0_29_4
    | 5, _ => k0_29_5
    | 6, _ => k0_29_6
    | 7, _ => k0_29_7
    | 8, _ => k0_29_8
    | 9, _ => k0_29_9
    | 10, _ => k0_29_10
    | 11, _ => k0_29_11
    | 12, _ => k0_29_12
    | 13, _ => k0_29_13
    | 14, _ => k0_29_14
    | 15, _ => k0_29_15
    | 16, _ => k0_29_16
    | 17, _ => k0_29_17
    | 18, _ => k0_29_18
    | 19, _ => k0_29_19
    | 20, _ => k0_29_20
    | 21, _ => k0_29_21
    | 22, _ => k0_29_22
    | 23, _ => k0_29_23
    | 24, _ => k0_29_24
    | k + 25, h => absurd h (by omega)) o0_29
theorem k0_30_0 : chkR [] 8 3 (4 * 0) 4 = true := by kernel_rfl
theorem k0_30_1 : chkR [] 8 3 (4 * 1) 4 = true := by kernel_rfl
theorem k0_30_2 : chkR [] 8 3 (4 * 2) 4 = true := by kernel_rfl
theorem k0_30_3 : chkR [] 8 3 (4 * 3) 4 = true := by kernel_rfl
theorem k0_30_4 : chkR [] 8 3 (4 * 4) 4 = true := by kernel_rfl
theorem k0_30_5 : chkR [] 8 3 (4 * 5) 4 = true := by kernel_rfl
theorem k0_30_6 : chkR [] 8 3 (4 * 6) 4 = true := by kernel_rfl
theorem k0_30_7 : chkR [] 8 3 (4 * 7) 4 = true := by kernel_rfl
theorem k0_30_8 : chkR [] 8 3 (4 * 8) 4 = true := by kernel_rfl
theorem k0_30_9 : chkR [] 8 3 (4 * 9) 4 = true := by kernel_rfl
theorem k0_30_10 : chkR [] 8 3 (4 * 10) 4 = true := by kernel_rfl
theorem k0_30_11 : chkR [] 8 3 (4 * 11) 4 = true := by kernel_rfl
theorem k0_30_12 : chkR [] 8 3 (4 * 12) 4 = true := by kernel_rfl
theorem k0_30_13 : chkR [] 8 3 (4 * 13) 4 = true := by kernel_rfl
theorem k0_30_14 : chkR [] 8 3 (4 * 14) 4 = true := by kernel_rfl
theorem k0_30_15 : chkR [] 8 3 (4 * 15) 4 = true := by kernel_rfl
theorem k0_30_16 : chkR [] 8 3 (4 * 16) 4 = true := by kernel_rfl
theorem k0_30_17 : chkR [] 8 3 (4 * 17) 4 = true := by kernel_rfl
theorem k0_30_18 : chkR [] 8 3 (4 * 18) 4 = true := by kernel_rfl
theorem k0_30_19 : chkR [] 8 3 (4 * 19) 4 = true := by kernel_rfl
theorem k0_30_20 : chkR [] 8 3 (4 * 20) 4 = true := by kernel_rfl
theorem k0_30_21 : chkR [] 8 3 (4 * 21) 4 = true := by kernel_rfl
theorem k0_30_22 : chkR [] 8 3 (4 * 22) 4 = true := by kernel_rfl
theorem k0_30_23 : chkR [] 8 3 (4 * 23) 4 = true := by kernel_rfl
theorem k0_30_24 : chkR [] 8 3 (4 * 24) 4 = true := by kernel_rfl
theorem o0_30 : chkO [] 8 3 = true := by kernel_rfl
theorem ok0_30 : OkB [] 8 3 :=
  okB_of (fun k hk => match k, hk with
    | 0, _ => k0_30_0
    | 1, _ => k0_30_1
    | 2, _ => k0_30_2
    | 3, _ => k0_30_3
    | 4, _ => k0_30_4
    | 5, _ => k0_30_5
    | 6, _ => k0_30_6
    | 7, _ => k0_30_7
    | 8, _ => k0_30_8
    | 9, _ => k0_30_9
    | 10, _ => k0_30_10
    | 11, _ => k0_30_11
    | 12, _ => k0_30_12
    | 13, _ => k0_30_13
    | 14, _ => k0_30_14
    | 15, _ => k0_30_15
    | 16, _ => k0_30_16
    | 17, _ => k0_30_17
    | 18, _ => k0_30_18
    | 19, _ => k0_30_19
    | 20, _ => k0_30_20
    | 21, _ => k0_30_21
    | 22, _ => k0_30_22
    | 23, _ => k0_30_23
    | 24, _ => k0_30_24
    | k + 25, h => absurd h (by omega)) o0_30
theorem k0_31_0 : chkR [] 9 2 (4 * 0) 4 = true := by kernel_rfl
theorem k0_31_1 : chkR [] 9 2 (4 * 1) 4 = true := by kernel_rfl
theorem k0_31_2 : chkR [] 9 2 (4 * 2) 4 = true := by kernel_rfl
theorem k0_31_3 : chkR [] 9 2 (4 * 3) 4 = true := by kernel_rfl
theorem k0_31_4 : chkR [] 9 2 (4 * 4) 4 = true := by kernel_rfl
theorem k0_31_5 : chkR [] 9 2 (4 * 5) 4 = true := by kernel_rfl
theorem k0_31_6 : chkR [] 9 2 (4 * 6) 4 = true := by kernel_rfl
theorem k0_31_7 : chkR [] 9 2 (4 * 7) 4 = true := by kernel_rfl
theorem k0_31_8 : chkR [] 9 2 (4 * 8) 4 = true := by kernel_rfl
theorem k0_31_9 : chkR [] 9 2 (4 * 9) 4 = true := by kernel_rfl
theorem k0_31_10 : chkR [] 9 2 (4 * 10) 4 = true := by kernel_rfl
theorem k0_31_11 : chkR [] 9 2 (4 * 11) 4 = true := by kernel_rfl
theorem k0_31_12 : chkR [] 9 2 (4 * 12) 4 = true := by kernel_rfl
theorem k0_31_13 : chkR [] 9 2 (4 * 13) 4 = true := by kernel_rfl
theorem k0_31_14 : chkR [] 9 2 (4 * 14) 4 = true := by kernel_rfl
theorem k0_31_15 : chkR [] 9 2 (4 * 15) 4 = true := by kernel_rfl
theorem k0_31_16 : chkR [] 9 2 (4 * 16) 4 = true := by kernel_rfl
theorem k0_31_17 : chkR [] 9 2 (4 * 17) 4 = true := by kernel_rfl
theorem k0_31_18 : chkR [] 9 2 (4 * 18) 4 = true := by kernel_rfl
theorem k0_31_19 : chkR [] 9 2 (4 * 19) 4 = true := by kernel_rfl
theorem k0_31_20 : chkR [] 9 2 (4 * 20) 4 = true := by kernel_rfl
theorem k0_31_21 : chkR [] 9 2 (4 * 21) 4 = true := by kernel_rfl
theorem k0_31_22 : chkR [] 9 2 (4 * 22) 4 = true := by kernel_rfl
theorem k0_31_23 : chkR [] 9 2 (4 * 23) 4 = true := by kernel_rfl
theorem k0_31_24 : chkR [] 9 2 (4 * 24) 4 = true := by kernel_rfl
theorem o0_31 : chkO [] 9 2 = true := by kernel_rfl
theorem ok0_31 : OkB [] 9 2 :=
  okB_of (fun k hk => match k, hk with
    | 0, _ => k0_31_0
    | 1, _ => k0_31_1
    | 2, _ => k0_31_2
    | 3, _ => k0_31_3
    | 4, _ => k0_31_4
    | 5, _ => k0_31_5
    | 6, _ => k0_31_6
    | 7, _ => k0_31_7
    | 8, _ => k0_31_8
    | 9, _ => k0_31_9
    | 10, _ => k0_31_10
    | 11, _ => k0_31_11
    | 12, _ => k0_31_12
    | 13, _ => k0_31_13
    | 14, _ => k0_31_14
    | 15, _ => k0_31_15
    | 16, _ => k0_31_16
    | 17, _ => k0_31_17
    | 18, _ => k0_31_18
    | 19, _ => k0_31_19
    | 20, _ => k0_31_20
    | 21, _ => k0_31_21
    | 22, _ => k0_31_22
    | 23, _ => k0_31_23
    | 24, _ => k0_31_24
    | k + 25, h => absurd h (by omega)) o0_31
theorem k0_32_0 : chkR [] 9 3 (4 * 0) 4 = true := by kernel_rfl
theorem k0_32_1 : chkR [] 9 3 (4 * 1) 4 = true := by kernel_rfl
theorem k0_32_2 : chkR [] 9 3 (4 * 2) 4 = true := by kernel_rfl
theorem k0_32_3 : chkR [] 9 3 (4 * 3) 4 = true := by kernel_rfl
theorem k0_32_4 : chkR [] 9 3 (4 * 4) 4 = true := by kernel_rfl
theorem k0_32_5 : chkR [] 9 3 (4 * 5) 4 = true := by kernel_rfl
theorem k0_32_6 : chkR [] 9 3 (4 * 6) 4 = true := by kernel_rfl
theorem k0_32_7 : chkR [] 9 3 (4 * 7) 4 = true := by kernel_rfl
theorem k0_32_8 : chkR [] 9 3 (4 * 8) 4 = true := by kernel_rfl
theorem k0_32_9 : chkR [] 9 3 (4 * 9) 4 = true := by kernel_rfl
theorem k0_32_10 : chkR [] 9 3 (4 * 10) 4 = true := by kernel_rfl
theorem k0_32_11 : chkR [] 9 3 (4 * 11) 4 = true := by kernel_rfl
theorem k0_32_12 : chkR [] 9 3 (4 * 12) 4 = true := by kernel_rfl
theorem k0_32_13 : chkR [] 9 3 (4 * 13) 4 = true := by kernel_rfl
theorem k0_32_14 : chkR [] 9 3 (4 * 14) 4 = true := by kernel_rfl
theorem k0_32_15 : chkR [] 9 3 (4 * 15) 4 = true := by kernel_rfl
theorem k0_32_16 : chkR [] 9 3 (4 * 16) 4 = true := by kernel_rfl
theorem k0_32_17 : chkR [] 9 3 (4 * 17) 4 = true := by kernel_rfl
theorem k0_32_18 : chkR [] 9 3 (4 * 18) 4 = true := by kernel_rfl
theorem k0_32_19 : chkR [] 9 3 (4 * 19) 4 = true := by kernel_rfl
theorem k0_32_20 : chkR [] 9 3 (4 * 20) 4 = true := by kernel_rfl
theorem k0_32_21 : chkR [] 9 3 (4 * 21) 4 = true := by kernel_rfl
theorem k0_32_22 : chkR [] 9 3 (4 * 22) 4 = true := by kernel_rfl
theorem k0_32_23 : chkR [] 9 3 (4 * 23) 4 = true := by kernel_rfl
theorem k0_32_24 : chkR [] 9 3 (4 * 24) 4 = true := by kernel_rfl
theorem o0_32 : chkO [] 9 3 = true := by kernel_rfl
theorem ok0_32 : OkB [] 9 3 :=
  okB_of (fun k hk => match k, hk with
    | 0, _ => k0_32_0
    | 1, _ => k0_32_1
    | 2, _ => k0_32_2
    | 3, _ => k0_32_3
    | 4, _ => k0_32_4
    | 5, _ => k0_32_5
    | 6, _ => k0_32_6
    | 7, _ => k0_32_7
    | 8, _ => k0_32_8
    | 9, _ => k0_32_9
    | 10, _ => k0_32_10
    | 11, _ => k0_32_11
    | 12, _ => k0_32_12
    | 13, _ => k0_32_13
    | 14, _ => k0_32_14
    | 15, _ => k0_32_15
    | 16, _ => k0_32_16
    | 17, _ => k0_32_17
    | 18, _ => k0_32_18
    | 19, _ => k0_32_19
    | 20, _ => k0_32_20
    | 21, _ => k0_32_21
    | 22, _ => k0_32_22
    | 23, _ => k0_32_23
    | 24, _ => k0_32_24
    | k + 25, h => absurd h (by omega)) o0_32
theorem k0_33_0 : chkR [] 10 2 (4 * 0) 4 = true := by kernel_rfl
theorem k0_33_1 : chkR [] 10 2 (4 * 1) 4 = true := by kernel_rfl
theorem k0_33_2 : chkR [] 10 2 (4 * 2) 4 = true := by kernel_rfl
theorem k0_33_3 : chkR [] 10 2 (4 * 3) 4 = true := by kernel_rfl
theorem k0_33_4 : chkR [] 10 2 (4 * 4) 4 = true := by kernel_rfl
theorem k0_33_5 : chkR [] 10 2 (4 * 5) 4 = true := by kernel_rfl
theorem k0_33_6 : chkR [] 10 2 (4 * 6) 4 = true := by kernel_rfl
theorem k0_33_7 : chkR [] 10 2 (4 * 7) 4 = true := by kernel_rfl
theorem k0_33_8 : chkR [] 10 2 (4 * 8) 4 = true := by kernel_rfl
theorem k0_33_9 : chkR [] 10 2 (4 * 9) 4 = true := by kernel_rfl
theorem k0_33_10 : chkR [] 10 2 (4 * 10) 4 = true := by kernel_rfl
theorem k0_33_11 : chkR [] 10 2 (4 * 11) 4 = true := by kernel_rfl
theorem k0_33_12 : chkR [] 10 2 (4 * 12) 4 = true := by kernel_rfl
theorem k0_33_13 : chkR [] 10 2 (4 * 13) 4 = true := by kernel_rfl
theorem k0_33_14 : chkR [] 10 2 (4 * 14) 4 = true := by kernel_rfl
theorem k0_33_15 : chkR [] 10 2 (4 * 15) 4 = true := by kernel_rfl
theorem k0_33_16 : chkR [] 10 2 (4 * 16) 4 = true := by kernel_rfl
theorem k0_33_17 : chkR [] 10 2 (4 * 17) 4 = true := by kernel_rfl
theorem k0_33_18 : chkR [] 10 2 (4 * 18) 4 = true := by kernel_rfl
theorem k0_33_19 : chkR [] 10 2 (4 * 19) 4 = true := by kernel_rfl
theorem k0_33_20 : chkR [] 10 2 (4 * 20) 4 = true := by kernel_rfl
theorem k0_33_21 : chkR [] 10 2 (4 * 21) 4 = true := by kernel_rfl
theorem k0_33_22 : chkR [] 10 2 (4 * 22) 4 = true := by kernel_rfl
theorem k0_33_23 : chkR [] 10 2 (4 * 23) 4 = true := by kernel_rfl
theorem k0_33_24 : chkR [] 10 2 (4 * 24) 4 = true := by kernel_rfl
theorem o0_33 : chkO [] 10 2 = true := by kernel_rfl
theorem ok0_33 : OkB [] 10 2 :=
  okB_of (fun k hk => match k, hk with
    | 0, _ => k0_33_0
    | 1, _ => k0_33_1
    | 2, _ => k0_33_2
    | 3, _ => k0_33_3
    | 4, _ => k0_33_4
    | 5, _ => k0_33_5
    | 6, _ => k0_33_6
    | 7, _ => k0_33_7
    | 8, _ => k0_33_8
    | 9, _ => k0_33_9
    | 10, _ => k0_33_10
    | 11, _ => k0_33_11
    | 12, _ => k0_33_12
    | 13, _ => k0_33_13
    | 14, _ => k0_33_14
    | 15, _ => k0_33_15
    | 16, _ => k0_33_16
    | 17, _ => k0_33_17
    | 18, _ => k0_33_18
    | 19, _ => k0_33_19
    | 20, _ => k0_33_20
    | 21, _ => k0_33_21
    | 22, _ => k0_33_22
    | 23, _ => k0_33_23
    | 24, _ => k0_33_24
    | k + 25, h => absurd h (by omega)) o0_33
end Go.Proofs.YtkchalnohkfhbaaDoor
