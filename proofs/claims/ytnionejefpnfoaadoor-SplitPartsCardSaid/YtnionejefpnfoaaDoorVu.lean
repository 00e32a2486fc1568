/- The nodes of bent splits: halves as the draws say, by the package and by the reference; which splits come up. In one text: Zx, Vn -/
import Derived.Test.YtnionejefpnfoaaDoorZw0
import Derived.Test.YtnionejefpnfoaaDoorZw1
import Derived.Test.YtnionejefpnfoaaDoorZw2
import Derived.Test.YtnionejefpnfoaaDoorZw3
import Derived.Test.YtnionejefpnfoaaDoorZw4
import Derived.Test.YtnionejefpnfoaaDoorZw5
import Derived.Test.YtnionejefpnfoaaDoorZw6
import Derived.Test.YtnionejefpnfoaaDoorZw7
import Derived.Test.YtnionejefpnfoaaDoorVq
import Derived.Test.YtnionejefpnfoaaDoorVk
import Derived.Test.YtnionejefpnfoaaDoorVj
set_option linter.unusedSimpArgs false
set_option linter.unusedVariables false
/- All draws of bent splits: one of the first two words is taken. Plain; nothing of the program stands here but the specification of its words. -/
set_option maxRecDepth 100000
namespace Go.Proofs.YtnionejefpnfoaaDoor

def nodes12 : List (Nat × Nat) := [(0, 2), (0, 3), (0, 4), (0, 5), (0, 6), (0, 7), (0, 8), (0, 9), (0, 10), (0, 11), (0, 12), (1, 2), (2, 2), (2, 3), (3, 2), (3, 3), (3, 4), (4, 2), (4, 4), (4, 5), (5, 2), (5, 3), (5, 5), (5, 6), (6, 2), (6, 3), (6, 6), (7, 2), (7, 3), (8, 2), (8, 3), (9, 2), (9, 3), (10, 2)]
def nodes13 : List (Nat × Nat) := [(0, 2), (0, 3), (0, 4), (0, 5), (0, 6), (0, 7), (0, 8), (0, 9), (0, 10), (0, 11), (0, 12), (0, 13), (1, 2), (2, 2), (2, 3), (3, 2), (3, 3), (3, 4), (4, 2), (4, 4), (4, 5), (5, 2), (5, 3), (5, 5), (5, 6), (6, 2), (6, 3), (6, 6), (6, 7), (7, 2), (7, 3), (8, 2), (8, 3), (9, 2), (9, 3), (9, 4), (10, 2), (11, 2)]
def nodes14 : List (Nat × Nat) := [(0, 2), (0, 3), (0, 4), (0, 5), (0, 6), (0, 7), (0, 8), (0, 9), (0, 10), (0, 11), (0, 12), (0, 13), (0, 14), (1, 2), (2, 2), (2, 3), (3, 2), (3, 3), (3, 4), (4, 2), (4, 4), (4, 5), (5, 2), (5, 3), (5, 5), (5, 6), (6, 2), (6, 3), (6, 6), (6, 7), (7, 2), (7, 3), (7, 7), (8, 2), (8, 3), (9, 2), (9, 3), (9, 4), (10, 2), (10, 4), (11, 2), (12, 2)]
/-- the nodes of splits of at most M parts -/
def nodesOf (M : Nat) : List (Nat × Nat) := if M ≤ 12 then nodes12 else if M ≤ 13 then nodes13 else nodes14
/-- the seeds of bent splits, and how many parts they come with at the most -/
def seeds : List (List Nat × Nat) := [([], 14), ([115], 14), ([115, 101, 101, 100, 32, 50], 14), ([120], 13), ([115, 120], 13), ([115, 101, 101, 100, 32, 50, 120], 13), ([120, 120], 12), ([115, 120, 120], 12), ([115, 101, 101, 100, 32, 50, 120, 120], 12), ([0, 0, 0, 0, 0, 0, 0, 0, 0, 0, 0, 0, 0, 0, 0, 0, 0, 0, 0, 0, 0, 0, 0, 0, 0, 0, 0, 0, 0, 0, 0], 13), ([0, 0, 0, 0, 0, 0, 0, 0, 0, 0, 0, 0, 0, 0, 0, 0, 0, 0, 0, 0, 0, 0, 0, 0, 0, 0, 0, 0, 0, 0, 0, 0], 13), ([0, 0, 0, 0, 0, 0, 0, 0, 0, 0, 0, 0, 0, 0, 0, 0, 0, 0, 0, 0, 0, 0, 0, 0, 0, 0, 0, 0, 0, 0, 0, 120], 12)]
theorem all0 : ∀ q ∈ nodes14, AllB [] q.1 q.2 := by
  intro q hq
  simp only [nodes14, List.mem_cons, List.not_mem_nil, or_false] at hq
  rcases hq with rfl | rfl | rfl | rfl | rfl | rfl | rfl | rfl | rfl | rfl | rfl | rfl | rfl | rfl | rfl | rfl | rfl | rfl | rfl | rfl | rfl | rfl | rfl | rfl | rfl | rfl | rfl | rfl | rfl | rfl | rfl | rfl | rfl | rfl | rfl | rfl | rfl | rfl | rfl | rfl | rfl | rfl
  · exact w0_0
  · exact w0_1
  · exact w0_2
  · exact w0_3
  · exact w0_4
  · exact w0_5
  · exact w0_6
  · exact w0_7
  · exact w0_8
  · exact w0_9
  · exact w0_10
  · exact w0_11
  · exact w0_12
  · exact w0_13
  · exact w0_14
  · exact w0_15
  · exact w0_16
  · exact w0_17
  · exact w0_18
  · exact w0_19
  · exact w0_20
  · exact w0_21
  · exact w0_22
  · exact w0_23
  · exact w0_24
  · exact w0_25
  · exact w0_26
  · exact w0_27
  · exact w0_28
  · exact w0_29
  · exact w0_30
  · exact w0_31
  · exact w0_32
  · exact w0_33
  · exact w0_34
  · exact w0_35
  · exact w0_36
  · exact w0_37
  · exact w0_38
  · exact w0_39
  · exact w0_40
  · exact w0_41
theorem all1 : ∀ q ∈ nodes14, AllB [115] q.1 q.2 := by
  intro q hq
  simp only [nodes14, List.mem_cons, List.not_mem_nil, or_false] at hq
  rcases hq with rfl | rfl | rfl | rfl | rfl | rfl | rfl | rfl | rfl | rfl | rfl | rfl | rfl | rfl | rfl | rfl | rfl | rfl | rfl | rfl | rfl | rfl | rfl | rfl | rfl | rfl | rfl | rfl | rfl | rfl | rfl | rfl | rfl | rfl | rfl | rfl | rfl | rfl | rfl | rfl | rfl | rfl
  · exact w1_0
  · exact w1_1
  · exact w1_2
  · exact w1_3
  · exact w1_4
  · exact w1_5
  · exact w1_6
  · exact w1_7
  · exact w1_8
  · exact w1_9
  · exact w1_10
  · exact w1_11
  · exact w1_12
  · exact w1_13
  · exact w1_14
  · exact w1_15
  · exact w1_16
  · exact w1_17
  · exact w1_18
  · exact w1_19
  · exact w1_20
  · exact w1_21
  · exact w1_22
  · exact w1_23
  · exact w1_24
  · exact w1_25
  · exact w1_26
  · exact w1_27
  · exact w1_28
  · exact w1_29
  · exact w1_30
  · exact w1_31
  · exact w1_32
  · exact w1_33
  · exact w1_34
  · exact w1_35
  · exact w1_36
  · exact w1_37
  · exact w1_38
  · exact w1_39
  · exact w1_40
  · exact w1_41
theorem all2 : ∀ q ∈ nodes14, AllB [115, 101, 101, 100, 32, 50] q.1 q.2 := by
  intro q hq
  simp only [nodes14, List.mem_cons, List.not_mem_nil, or_false] at hq
  rcases hq with rfl | rfl | rfl | rfl | rfl | rfl | rfl | rfl | rfl | rfl | rfl | rfl | rfl | rfl | rfl | rfl | rfl | rfl | rfl | rfl | rfl | rfl | rfl | rfl | rfl | rfl | rfl | rfl | rfl | rfl | rfl | rfl | rfl | rfl | rfl | rfl | rfl | rfl | rfl | rfl | rfl | rfl
  · exact w2_0
  · exact w2_1
  · exact w2_2
  · exact w2_3
  · exact w2_4
  · exact w2_5
  · exact w2_6
  · exact w2_7
  · exact w2_8
  · exact w2_9
  · exact w2_10
  · exact w2_11
  · exact w2_12
  · exact w2_13
  · exact w2_14
  · exact w2_15
  · exact w2_16
  · exact w2_17
  · exact w2_18
  · exact w2_19
  · exact w2_20
  · exact w2_21
  · exact w2_22
  · exact w2_23
  · exact w2_24
  · exact w2_25
  · exact w2_26
  · exact w2_27
  · exact w2_28
  · exact w2_29
  · exact w2_30
  · exact w2_31
  · exact w2_32
  · exact w2_33
  · exact w2_34
  · exact w2_35
  · exact w2_36
  · exact w2_37
  · exact w2_38
  · exact w2_39
  · exact w2_40
  · exact w2_41
theorem all3 : ∀ q ∈ nodes13, AllB [120] q.1 q.2 := by
  intro q hq
  simp only [nodes13, List.mem_cons, List.not_mem_nil, or_false] at hq
  rcases hq with rfl | rfl | rfl | rfl | rfl | rfl | rfl | rfl | rfl | rfl | rfl | rfl | rfl | rfl | rfl | rfl | rfl | rfl | rfl | rfl | rfl | rfl | rfl | rfl | rfl | rfl | rfl | rfl | rfl | rfl | rfl | rfl | rfl | rfl | rfl | rfl | rfl | rfl
  · exact w3_0
  · exact w3_1
  · exact w3_2
  · exact w3_3
  · exact w3_4
  · exact w3_5
  · exact w3_6
  · exact w3_7
  · exact w3_8
  · exact w3_9
  · exact w3_10
  · exact w3_11
  · exact w3_12
  · exact w3_13
  · exact w3_14
  · exact w3_15
  · exact w3_16
  · exact w3_17
  · exact w3_18
  · exact w3_19
  · exact w3_20
  · exact w3_21
  · exact w3_22
  · exact w3_23
  · exact w3_24
  · exact w3_25
  · exact w3_26
  · exact w3_27
  · exact w3_28
  · exact w3_29
  · exact w3_30
  · exact w3_31
  · exact w3_32
  · exact w3_33
  · exact w3_34
  · exact w3_35
  · exact w3_36
  · exact w3_37
theorem all4 : ∀ q ∈ nodes13, AllB [115, 120] q.1 q.2 := by
  intro q hq
  simp only [nodes13, List.mem_cons, List.not_mem_nil, or_false] at hq
  rcases hq with rfl | rfl | rfl | rfl | rfl | rfl | rfl | rfl | rfl | rfl | rfl | rfl | rfl | rfl | rfl | rfl | rfl | rfl | rfl | rfl | rfl | rfl | rfl | rfl | rfl | rfl | rfl | rfl | rfl | rfl | rfl | rfl | rfl | rfl | rfl | rfl | rfl | rfl
  · exact w4_0
  · exact w4_1
  · exact w4_2
  · exact w4_3
  · exact w4_4
  · exact w4_5
  · exact w4_6
  · exact w4_7
  · exact w4_8
  · exact w4_9
  · exact w4_10
  · exact w4_11
  · exact w4_12
  · exact w4_13
  · exact w4_14
  · exact w4_15
  · exact w4_16
  · exact w4_17
  · exact w4_18
  · exact w4_19
  · exact w4_20
  · exact w4_21
  · exact w4_22
  · exact w4_23
  · exact w4_24
  · exact w4_25
  · exact w4_26
  · exact w4_27
  · exact w4_28
  · exact w4_29
  · exact w4_30
  · exact w4_31
  · exact w4_32
  · exact w4_33
  · exact w4_34
  · exact w4_35
  · exact w4_36
  · exact w4_37
theorem all5 : ∀ q ∈ nodes13, AllB [115, 101, 101, 100, 32, 50, 120] q.1 q.2 := by
  intro q hq
  simp only [nodes13, List.mem_cons, List.not_mem_nil, or_false] at hq
  rcases hq with rfl | rfl | rfl | rfl | rfl | rfl | rfl | rfl | rfl | rfl | rfl | rfl | rfl | rfl | rfl | rfl | rfl | rfl | rfl | rfl | rfl | rfl | rfl | rfl | rfl | rfl | rfl | rfl | rfl | rfl | rfl | rfl | rfl | rfl | rfl | rfl | rfl | rfl
  · exact w5_0
  · exact w5_1
  · exact w5_2
  · exact w5_3
  · exact w5_4
  · exact w5_5
  · exact w5_6
  · exact w5_7
  · exact w5_8
  · exact w5_9
  · exact w5_10
  · exact w5_11
  · exact w5_12
  · exact w5_13
  · exact w5_14
  · exact w5_15
  · exact w5_16
  · exact w5_17
  · exact w5_18
  · exact w5_19
  · exact w5_20
  · exact w5_21
  · exact w5_22
  · exact w5_23
  · exact w5_24
  · exact w5_25
  · exact w5_26
  · exact w5_27
  · exact w5_28
  · exact w5_29
  · exact w5_30
  · exact w5_31
  · exact w5_32
  · exact w5_33
  · exact w5_34
  · exact w5_35
  · exact w5_36
  · exact w5_37
theorem all6 : ∀ q ∈ nodes12, AllB [120, 120] q.1 q.2 := by
  intro q hq
  simp only [nodes12, List.mem_cons, List.not_mem_nil, or_false] at hq
  rcases hq with rfl | rfl | rfl | rfl | rfl | rfl | rfl | rfl | rfl | rfl | rfl | rfl | rfl | rfl | rfl | rfl | rfl | rfl | rfl | rfl | rfl | rfl | rfl | rfl | rfl | rfl | rfl | rfl | rfl | rfl | rfl | rfl | rfl | rfl
  · exact w6_0
  · exact w6_1
  · exact w6_2
  · exact w6_3
  · exact w6_4
  · exact w6_5
  · exact w6_6
  · exact w6_7
  · exact w6_8
  · exact w6_9
  · exact w6_10
  · exact w6_11
  · exact w6_12
  · exact w6_13
  · exact w6_14
  · exact w6_15
  · exact w6_16
  · exact w6_17
  · exact w6_18
  · exact w6_19
  · exact w6_20
  · exact w6_21
  · exact w6_22
  · exact w6_23
  · exact w6_24
  · exact w6_25
  · exact w6_26
  · exact w6_27
  · exact w6_28
  · exact w6_29
  · exact w6_30
  · exact w6_31
  · exact w6_32
  · exact w6_33
theorem all7 : ∀ q ∈ nodes12, AllB [115, 120, 120] q.1 q.2 := by
  intro q hq
  simp only [nodes12, List.mem_cons, List.not_mem_nil, or_false] at hq
  rcases hq with rfl | rfl | rfl | rfl | rfl | rfl | rfl | rfl | rfl | rfl | rfl | rfl | rfl | rfl | rfl | rfl | rfl | rfl | rfl | rfl | rfl | rfl | rfl | rfl | rfl | rfl | rfl | rfl | rfl | rfl | rfl | rfl | rfl | rfl
  · exact w7_0
  · exact w7_1
  · exact w7_2
  · exact w7_3
  · exact w7_4
  · exact w7_5
  · exact w7_6
  · exact w7_7
  · exact w7_8
  · exact w7_9
  · exact w7_10
  · exact w7_11
  · exact w7_12
  · exact w7_13
  · exact w7_14
  · exact w7_15
  · exact w7_16
  · exact w7_17
  · exact w7_18
  · exact w7_19
  · exact w7_20
  · exact w7_21
  · exact w7_22
  · exact w7_23
  · exact w7_24
  · exact w7_25
  · exact w7_26
  · exact w7_27
  · exact w7_28
  · exact w7_29
  · exact w7_30
  · exact w7_31
  · exact w7_32
  · exact w7_33
theorem all8 : ∀ q ∈ nodes12, AllB [115, 101, 101, 100, 32, 50, 120, 120] q.1 q.2 := by
  intro q hq
  simp only [nodes12, List.mem_cons, List.not_mem_nil, or_false] at hq
  rcases hq with rfl | rfl | rfl | rfl | rfl | rfl | rfl | rfl | rfl | rfl | rfl | rfl | rfl | rfl | rfl | rfl | rfl | rfl | rfl | rfl | rfl | rfl | rfl | rfl | rfl | rfl | rfl | rfl | rfl | rfl | rfl | rfl | rfl | rfl
  · exact w8_0
  · exact w8_1
  · exact w8_2
  · exact w8_3
  · exact w8_4
  · exact w8_5
  · exact w8_6
  · exact w8_7
  · exact w8_8
  · exact w8_9
  · exact w8_10
  · exact w8_11
  · exact w8_12
  · exact w8_13
  · exact w8_14
  · exact w8_15
  · exact w8_16
  · exact w8_17
  · exact w8_18
  · exact w8_19
  · exact w8_20
  · exact w8_21
  · exact w8_22
  · exact w8_23
  · exact w8_24
  · exact w8_25
  · exact w8_26
  · exact w8_27
  · exact w8_28
  · exact w8_29
  · exact w8_30
  · exact w8_31
  · exact w8_32
  · exact w8_33
theorem all9 : ∀ q ∈ nodes13, AllB [0, 0, 0, 0, 0, 0, 0, 0, 0, 0, 0, 0, 0, 0, 0, 0, 0, 0, 0, 0, 0, 0, 0, 0, 0, 0, 0, 0, 0, 0, 0] q.1 q.2 := by
  intro q hq
  simp only [nodes13, List.mem_cons, List.not_mem_nil, or_false] at hq
  rcases hq with rfl | rfl | rfl | rfl | rfl | rfl | rfl | rfl | rfl | rfl | rfl | rfl | rfl | rfl | rfl | rfl | rfl | rfl | rfl | rfl | rfl | rfl | rfl | rfl | rfl | rfl | rfl | rfl | rfl | rfl | rfl | rfl | rfl | rfl | rfl | rfl | rfl | rfl
  · exact w9_0
  · exact w9_1
  · exact w9_2
  · exact w9_3
  · exact w9_4
  · exact w9_5
  · exact w9_6
  · exact w9_7
  · exact w9_8
  · exact w9_9
  · exact w9_10
  · exact w9_11
  · exact w9_12
  · exact w9_13
  · exact w9_14
  · exact w9_15
  · exact w9_16
  · exact w9_17
  · exact w9_18
  · exact w9_19
  · exact w9_20
  · exact w9_21
  · exact w9_22
  · exact w9_23
  · exact w9_24
  · exact w9_25
  · exact w9_26
  · exact w9_27
  · exact w9_28
  · exact w9_29
  · exact w9_30
  · exact w9_31
  · exact w9_32
  · exact w9_33
  · exact w9_34
  · exact w9_35
  · exact w9_36
  · exact w9_37
theorem all10 : ∀ q ∈ nodes13, AllB [0, 0, 0, 0, 0, 0, 0, 0, 0, 0, 0, 0, 0, 0, 0, 0, 0, 0, 0, 0, 0, 0, 0, 0, 0, 0, 0, 0, 0, 0, 0, 0] q.1 q.2 := by
  intro q hq
  simp only [nodes13, List.mem_cons, List.not_mem_nil, or_false] at hq
  rcases hq with rfl | rfl | rfl | rfl | rfl | rfl | rfl | rfl | rfl | rfl | rfl | rfl | rfl | rfl | rfl | rfl | rfl | rfl | rfl | rfl | rfl | rfl | rfl | rfl | rfl | rfl | rfl | rfl | rfl | rfl | rfl | rfl | rfl | rfl | rfl | rfl | rfl | rfl
  · exact w10_0
  · exact w10_1
  · exact w10_2
  · exact w10_3
  · exact w10_4
  · exact w10_5
  · exact w10_6
  · exact w10_7
  · exact w10_8
  · exact w10_9
  · exact w10_10
  · exact w10_11
  · exact w10_12
  · exact w10_13
  · exact w10_14
  · exact w10_15
  · exact w10_16
  · exact w10_17
  · exact w10_18
  · exact w10_19
  · exact w10_20
  · exact w10_21
  · exact w10_22
  · exact w10_23
  · exact w10_24
  · exact w10_25
  · exact w10_26
  · exact w10_27
  · exact w10_28
  · exact w10_29
  · exact w10_30
  · exact w10_31
  · exact w10_32
  · exact w10_33
  · exact w10_34
  · exact w10_35
  · exact w10_36
  · exact w10_37
theorem all11 : ∀ q ∈ nodes12, AllB [0, 0, 0, 0, 0, 0, 0, 0, 0, 0, 0, 0, 0, 0, 0, 0, 0, 0, 0, 0, 0, 0, 0, 0, 0, 0, 0, 0, 0, 0, 0, 120] q.1 q.2 := by
  intro q hq
  simp only [nodes12, List.mem_cons, List.not_mem_nil, or_false] at hq
  rcases hq with rfl | rfl | rfl | rfl | rfl | rfl | rfl | rfl | rfl | rfl | rfl | rfl | rfl | rfl | rfl | rfl | rfl | rfl | rfl | rfl | rfl | rfl | rfl | rfl | rfl | rfl | rfl | rfl | rfl | rfl | rfl | rfl | rfl | rfl
  · exact w11_0
  · exact w11_1
  · exact w11_2
  · exact w11_3
  · exact w11_4
  · exact w11_5
  · exact w11_6
  · exact w11_7
  · exact w11_8
  · exact w11_9
  · exact w11_10
  · exact w11_11
  · exact w11_12
  · exact w11_13
  · exact w11_14
  · exact w11_15
  · exact w11_16
  · exact w11_17
  · exact w11_18
  · exact w11_19
  · exact w11_20
  · exact w11_21
  · exact w11_22
  · exact w11_23
  · exact w11_24
  · exact w11_25
  · exact w11_26
  · exact w11_27
  · exact w11_28
  · exact w11_29
  · exact w11_30
  · exact w11_31
  · exact w11_32
  · exact w11_33
theorem all_seeds : ∀ e ∈ seeds, ∀ q ∈ nodesOf e.2, AllB e.1 q.1 q.2 := by
  intro e he
  simp only [seeds, List.mem_cons, List.not_mem_nil, or_false] at he
  rcases he with rfl | rfl | rfl | rfl | rfl | rfl | rfl | rfl | rfl | rfl | rfl | rfl
  · exact all0
  · exact all1
  · exact all2
  · exact all3
  · exact all4
  · exact all5
  · exact all6
  · exact all7
  · exact all8
  · exact all9
  · exact all10
  · exact all11
end Go.Proofs.YtnionejefpnfoaaDoor
/- The nodes of bent splits: halves as the draws say, by the package and by the reference; which splits come up. Conditions: the ranges that the theorems state. -/
namespace Go.Proofs.YtnionejefpnfoaaDoor
open Go.RowKit Go.Shelf Go

/-- the bounds of a left half -/
theorem half_bounds {lo hi t : Int} {m : Nat} (h : lo ≤ hi) (h0 : (m : Int) * lo ≤ t) (h1 : t ≤ (m : Int) * hi) :
    loB lo hi t m ≤ hiB lo hi t m ∧ hiB lo hi t m - loB lo hi t m ≤ ((m / 2 : Nat) : Int) * (hi - lo) ∧ (∀ D, loB lo hi t m ≤ D → D ≤ hiB lo hi t m → ((m / 2 : Nat) : Int) * lo ≤ D ∧ D ≤ ((m / 2 : Nat) : Int) * hi ∧ ((m - m / 2 : Nat) : Int) * lo ≤ t - D ∧ t - D ≤ ((m - m / 2 : Nat) : Int) * hi) := by
  have e1 : (m : Int) = ((m / 2 : Nat) : Int) + ((m - m / 2 : Nat) : Int) := by omega
  have p0 : (0 : Int) ≤ ((m / 2 : Nat) : Int) := by omega
  have q0 : (0 : Int) ≤ ((m - m / 2 : Nat) : Int) := by omega
  unfold loB hiB
  generalize ((m / 2 : Nat) : Int) = p at *
  generalize ((m - m / 2 : Nat) : Int) = q at *
  rw [e1, Int.add_mul] at h0 h1
  have h2 := Int.mul_le_mul_of_nonneg_left h p0
  have h3 := Int.mul_le_mul_of_nonneg_left h q0
  rw [Int.mul_sub]
  generalize p * lo = a at *
  generalize p * hi = b at *
  generalize q * lo = c at *
  generalize q * hi = d at *
  exact ⟨by omega, by omega, fun D g0 g1 => by omega⟩
/-- one of the first two words is taken -/
theorem acc_good {s : ByteArray} {l : List Int} (h : GoodB s l) {M : Nat} (h1 : 1 ≤ M) (h2 : M ≤ 16777216) : Acc s l M := by
  have e := Nat.div_add_mod 281474976710656 M
  have hm := Nat.mod_lt 281474976710656 (y := M) (by omega)
  rw [Nat.mul_comm] at e
  by_cases c : wordN s l 0 < 281474976710656 / M * M
  · exact ⟨0, by decide, fun j hj => absurd hj (by omega), c⟩
  · rcases h with h | h
    · exact absurd (show wordN s l 0 < 281474976710656 / M * M by have h : wordN s l 0 + 16777216 ≤ 281474976710656 := h; omega) c
    · refine ⟨1, by decide, fun j hj => ?_, ?_⟩
      · obtain rfl : j = 0 := by omega
        have c' : 281474976710656 / M * M ≤ wordN s l ((0 : Nat) : Int) := Nat.le_of_not_lt c
        exact c'
      · have h : wordN s l ((1 : Nat) : Int) + 16777216 ≤ 281474976710656 := h
        show wordN s l ((1 : Nat) : Int) < _
        omega
theorem root12 : ((List.range 13).all fun m => decide (m < 2 ∨ (0, m) ∈ nodes12)) = true := by decide
theorem root13 : ((List.range 14).all fun m => decide (m < 2 ∨ (0, m) ∈ nodes13)) = true := by decide
theorem root14 : ((List.range 15).all fun m => decide (m < 2 ∨ (0, m) ∈ nodes14)) = true := by decide
theorem down12 : (nodes12.all fun q => decide ((q.2 / 2 < 2 ∨ (q.1, q.2 / 2) ∈ nodes12) ∧ (q.2 - q.2 / 2 < 2 ∨ (q.1 + q.2 / 2, q.2 - q.2 / 2) ∈ nodes12))) = true := by decide
theorem down13 : (nodes13.all fun q => decide ((q.2 / 2 < 2 ∨ (q.1, q.2 / 2) ∈ nodes13) ∧ (q.2 - q.2 / 2 < 2 ∨ (q.1 + q.2 / 2, q.2 - q.2 / 2) ∈ nodes13))) = true := by decide
theorem down14 : (nodes14.all fun q => decide ((q.2 / 2 < 2 ∨ (q.1, q.2 / 2) ∈ nodes14) ∧ (q.2 - q.2 / 2 < 2 ∨ (q.1 + q.2 / 2, q.2 - q.2 / 2) ∈ nodes14))) = true := by decide
theorem small14 : (nodes14.all fun q => decide (q.1 < 256 ∧ q.2 < 256)) = true := by decide
theorem small13 : (nodes13.all fun q => decide (q.1 < 256 ∧ q.2 < 256)) = true := by decide
theorem small12 : (nodes12.all fun q => decide (q.1 < 256 ∧ q.2 < 256)) = true := by decide
theorem nodes_cases (M : Nat) : (M ≤ 12 ∧ nodesOf M = nodes12) ∨ (M = 13 ∧ nodesOf M = nodes13) ∨ (14 ≤ M ∧ nodesOf M = nodes14) := by
  unfold nodesOf
  by_cases h1 : M ≤ 12
  · exact .inl ⟨h1, if_pos h1⟩
  · by_cases h2 : M ≤ 13
    · exact .inr (.inl ⟨by omega, by rw [if_neg h1, if_pos h2]⟩)
    · exact .inr (.inr ⟨by omega, by rw [if_neg h1, if_neg h2]⟩)
theorem nodes_at {M m : Nat} (h : m ≤ M) (hM : 12 ≤ M) (h14 : M ≤ 14) : m < 2 ∨ (0, m) ∈ nodesOf M := by
  rcases nodes_cases M with ⟨h1, e⟩ | ⟨h1, e⟩ | ⟨h1, e⟩
  · rw [e]; exact of_decide_eq_true (List.all_eq_true.1 root12 m (List.mem_range.2 (by omega)))
  · rw [e]; exact of_decide_eq_true (List.all_eq_true.1 root13 m (List.mem_range.2 (by omega)))
  · rw [e]; exact of_decide_eq_true (List.all_eq_true.1 root14 m (List.mem_range.2 (by omega)))
theorem nodes_kid {M a m : Nat} (h : (a, m) ∈ nodesOf M) : (m / 2 < 2 ∨ (a, m / 2) ∈ nodesOf M) ∧ (m - m / 2 < 2 ∨ (a + m / 2, m - m / 2) ∈ nodesOf M) := by
  rcases nodes_cases M with ⟨h1, e⟩ | ⟨h1, e⟩ | ⟨h1, e⟩
  · rw [e] at h ⊢; exact of_decide_eq_true (List.all_eq_true.1 down12 (a, m) h)
  · rw [e] at h ⊢; exact of_decide_eq_true (List.all_eq_true.1 down13 (a, m) h)
  · rw [e] at h ⊢; exact of_decide_eq_true (List.all_eq_true.1 down14 (a, m) h)
theorem nodes_small {M a m : Nat} (h : (a, m) ∈ nodesOf M) : a < 256 ∧ m < 256 := by
  rcases nodes_cases M with ⟨h1, e⟩ | ⟨h1, e⟩ | ⟨h1, e⟩
  · rw [e] at h; exact of_decide_eq_true (List.all_eq_true.1 small12 (a, m) h)
  · rw [e] at h; exact of_decide_eq_true (List.all_eq_true.1 small13 (a, m) h)
  · rw [e] at h; exact of_decide_eq_true (List.all_eq_true.1 small14 (a, m) h)
/-- a seed of the list, with at most M parts -/
def SeedOk (s : ByteArray) (M : Nat) : Prop := ∃ sd, (sd, M) ∈ seeds ∧ s.data.toList = sd.map byt
/-- a path of a bent split -/
def PathOk (l : List Int) : Prop := (l.length ≤ 3 ∧ ∀ y ∈ l, 0 ≤ y ∧ y < 100) ∨ l = [0, 0, 0, 0, 0] ∨ l = [0, 0, 0, 0, 0, 0]
theorem seeds_ok : (seeds.all fun e => decide ((∀ x ∈ e.1, x < 256) ∧ e.1.length ≤ 32 ∧ 12 ≤ e.2 ∧ e.2 ≤ 14)) = true := by decide
theorem seed_range {s : ByteArray} {M : Nat} (h : SeedOk s M) : 12 ≤ M ∧ M ≤ 14 := by
  obtain ⟨sd, h1, h2⟩ := h
  exact (of_decide_eq_true (List.all_eq_true.1 seeds_ok (sd, M) h1)).2.2
theorem good_word {s : ByteArray} {M : Nat} (hs : SeedOk s M) {l : List Int} (hl : PathOk l) {a m : Nat} (h : (a, m) ∈ nodesOf M) : GoodB s (l ++ [(a : Int), (m : Int)]) := by
  obtain ⟨sd, h1, h2⟩ := hs
  obtain ⟨k1, k2, -, -⟩ := of_decide_eq_true (List.all_eq_true.1 seeds_ok (sd, M) h1)
  obtain ⟨k3, k4⟩ := nodes_small h
  have hb := all_seeds (sd, M) h1 (a, m) h
  rcases hl with ⟨e1, e2⟩ | rfl | rfl
  · exact allB_word h2 k1 k2 k3 k4 hb l e1 e2
  · exact (zero_word h2 k1 k2 k3 k4 hb).1
  · exact (zero_word h2 k1 k2 k3 k4 hb).2
/-- a node of a bent split, with a total within its bounds -/
def BentI (M : Nat) (lo hi : Int) (a m : Nat) (t : Int) : Prop := a + m ≤ 14 ∧ (2 ≤ m → (a, m) ∈ nodesOf M) ∧ (m : Int) * lo ≤ t ∧ t ≤ (m : Int) * hi
theorem bent_root {M m : Nat} (h : m ≤ M) (hM : 12 ≤ M) (h14 : M ≤ 14) {lo hi T : Int} (h0 : (m : Int) * lo ≤ T) (h1 : T ≤ (m : Int) * hi) : BentI M lo hi 0 m T := by
  refine ⟨by omega, fun h2 => ?_, h0, h1⟩
  rcases nodes_at h hM h14 with k | k
  · omega
  · exact k
theorem bent_bound {M : Nat} {lo hi : Int} (b0 : -1048576 ≤ lo) (b2 : hi ≤ 1048576) {a m : Nat} {t : Int} (h : BentI M lo hi a m t) : -68719476736 ≤ t ∧ t ≤ 68719476736 := by
  obtain ⟨h1, -, h2, h3⟩ := h
  have t0 : (m : Int) * (-1048576) ≤ (m : Int) * lo := Int.mul_le_mul_of_nonneg_left b0 (by omega)
  have t1 : (m : Int) * hi ≤ (m : Int) * 1048576 := Int.mul_le_mul_of_nonneg_left b2 (by omega)
  omega
section
variable {s : ByteArray} {M : Nat} (hs : SeedOk s M) {l : List Int} (hl : PathOk l) {lo hi : Int} (b0 : -1048576 ≤ lo) (b1 : lo ≤ hi) (b2 : hi ≤ 1048576)
include hs hl b0 b1 b2
theorem bent_key {a m : Nat} {t : Int} (hI : BentI M lo hi a m t) (h2 : 2 ≤ m) : loB lo hi t m ≤ hiB lo hi t m ∧ hiB lo hi t m - loB lo hi t m < 1099511627776 ∧ Acc s (l ++ [(a : Int), (m : Int)]) (hiB lo hi t m - loB lo hi t m + 1).toNat ∧
    BentI M lo hi a (m / 2) (leftV s l lo hi a m t) ∧ BentI M lo hi (a + m / 2) (m - m / 2) (t - leftV s l lo hi a m t) := by
  obtain ⟨c1, c2, c3⟩ := half_bounds b1 hI.2.2.1 hI.2.2.2
  have ha := hI.1
  have hm : ((m / 2 : Nat) : Int) * (hi - lo) ≤ 7 * 2097152 := by
    have e1 : ((m / 2 : Nat) : Int) * (hi - lo) ≤ ((m / 2 : Nat) : Int) * 2097152 := Int.mul_le_mul_of_nonneg_left (by omega) (by omega)
    omega
  have hd := drawV_in s (l ++ [(a : Int), (m : Int)]) c1
  have hd : loB lo hi t m ≤ leftV s l lo hi a m t ∧ leftV s l lo hi a m t ≤ hiB lo hi t m := hd
  obtain ⟨d1, d2, d3, d4⟩ := c3 _ hd.1 hd.2
  obtain ⟨n1, n2⟩ := nodes_kid (hI.2.1 h2)
  refine ⟨c1, by omega, acc_good (good_word hs hl (hI.2.1 h2)) (by omega) (by omega), ⟨by omega, fun h => ?_, d1, d2⟩, ⟨by omega, fun h => ?_, d3, d4⟩⟩
  · rcases n1 with k | k
    · omega
    · exact k
  · rcases n2 with k | k
    · omega
    · exact k
theorem bent_halved (P : Option Addr) (q d : Nat) (hsz : s.size ≤ 32) (hq : q ≤ 6) (T N : Int) : Halved s P q d l T N lo hi (leftV s l lo hi) (BentI M lo hi) := by
  refine ⟨fun a m t h => by have := h.1; omega, fun a m t hI h2 W hW => ?_, fun a m t hI h2 => (bent_key hs hl b0 b1 b2 hI h2).2.2.2.1, fun a m t hI h2 => (bent_key hs hl b0 b1 b2 hI h2).2.2.2.2⟩
  obtain ⟨c1, c2, c3, -, -⟩ := bent_key hs hl b0 b1 b2 hI h2
  have hb := bent_bound b0 b2 hI
  have ha := hI.1
  exact halves_acc hW hsz hq T N lo hi a m t (by omega) (by omega) b0 b1 b2 hb.1 hb.2 c1 c2 c3
theorem bent_rhalved (P : Option Addr) (q d : Nat) (hsz : s.size ≤ 32) (hq : q ≤ 6) (T N : Int) : RHalved s P q d l T N lo hi (leftV s l lo hi) (BentI M lo hi) := by
  refine ⟨fun a m t h => ⟨by have := h.1; omega, by have := h.1; omega, bent_bound b0 b2 h⟩, fun a m t hI h2 W hW => ?_, fun a m t hI h2 => (bent_key hs hl b0 b1 b2 hI h2).2.2.2.1, fun a m t hI h2 => (bent_key hs hl b0 b1 b2 hI h2).2.2.2.2⟩
  obtain ⟨c1, c2, c3, -, -⟩ := bent_key hs hl b0 b1 b2 hI h2
  have hb := bent_bound b0 b2 hI
  have ha := hI.1
  exact rLeft_acc hW hsz hq T N lo hi a m t (by omega) (by omega) b0 b1 b2 hb.1 hb.2 c1 c2 c3
end
/-! what bending does -/
/-- a seed behind e bends of it, or one that is too long -/
def SeedC (e : Nat) (s : ByteArray) : Prop := 32 < s.size ∨ ∃ sd w, w ≤ e ∧ w ≤ 2 ∧ (sd, 14 - w) ∈ seeds ∧ s.data.toList = sd.map byt
def PathC (l : List Int) : Prop := 6 < l.length ∨ PathOk l
/-- a split behind at most j bends -/
structure Cls (j : Nat) (s : ByteArray) (l : List Int) (N : Int) : Prop where
  cls : ∃ d e : Nat, d + e ≤ j ∧ SeedC e s ∧ (N ≤ 12 + d ∨ 65536 < N)
  path : PathC l
  n0 : -1 ≤ N
  n1 : N ≤ 65537 + j
  size : s.size ≤ 34 + j
  len : l.length ≤ 8
theorem Cls.more {j k : Nat} {s : ByteArray} {l : List Int} {N : Int} (h : Cls j s l N) (hk : j ≤ k) : Cls k s l N := by
  obtain ⟨d, e, h1, h2, h3⟩ := h.cls
  exact ⟨⟨d, e, by omega, h2, h3⟩, h.path, h.n0, by have := h.n1; omega, by have := h.size; omega, h.len⟩
theorem cls_ok {s : ByteArray} {l : List Int} {N : Int} (h : Cls 2 s l N) (h1 : s.size ≤ 32) (h2 : l.length ≤ 6) (h3 : N ≤ 65536) : ∃ M, SeedOk s M ∧ PathOk l ∧ N ≤ M := by
  obtain ⟨d, e, k1, k2, k3⟩ := h.cls
  rcases k2 with k2 | ⟨sd, w, w1, w2, w3, w4⟩
  · omega
  · refine ⟨14 - w, ⟨sd, w3, w4⟩, ?_, ?_⟩
    · rcases h.path with k | k
      · omega
      · exact k
    · rcases k3 with k | k <;> omega
theorem seeds_x : (seeds.all fun e => decide (13 ≤ e.2 → ((e.1 ++ [120], e.2 - 1) ∈ seeds ∨ 32 ≤ e.1.length))) = true := by decide
theorem x_toList (s : ByteArray) : (s ++ ⟨#[120]⟩).data.toList = s.data.toList ++ [120] := by simp
theorem seedC_x {e : Nat} {s : ByteArray} (h : SeedC e s) (he : e ≤ 1) : SeedC (e + 1) (s ++ ⟨#[120]⟩) := by
  have hz : (s ++ ⟨#[120]⟩).size = s.size + 1 := by
    rw [ByteArray.size_append]
    rfl
  rcases h with h | ⟨sd, w, h1, h2, h3, h4⟩
  · exact .inl (by omega)
  · rcases of_decide_eq_true (List.all_eq_true.1 seeds_x (sd, 14 - w) h3) (by show 13 ≤ 14 - w; omega) with k | k
    · refine .inr ⟨sd ++ [120], w + 1, by omega, by omega, ?_, ?_⟩
      · rw [show 14 - (w + 1) = 14 - w - 1 by omega]
        exact k
      · rw [x_toList, h4, List.map_append]
        rfl
    · refine .inl ?_
      have h5 := congrArg List.length h4
      rw [List.length_map] at h5
      have h6 : s.data.toList.length = s.size := by simp
      have k' : 32 ≤ sd.length := k
      omega
theorem zeros31 : (List.replicate 31 0, 13) ∈ seeds := by decide
theorem zeros32 : (List.replicate 32 0, 13) ∈ seeds := by decide
theorem seedC_zero {s : ByteArray} {k : Nat} (h : s.data.toList = List.replicate k 0) (h1 : 31 ≤ k) (h2 : k ≤ 34) : SeedC 1 s := by
  have hk : s.size = k := by
    have := congrArg List.length h
    rw [List.length_replicate] at this
    rw [← this]
    simp
  by_cases c : 32 < k
  · exact .inl (by omega)
  · rcases (show k = 31 ∨ k = 32 by omega) with rfl | rfl
    · exact .inr ⟨List.replicate 31 0, 1, by omega, by omega, zeros31, by rw [h]; rfl⟩
    · exact .inr ⟨List.replicate 32 0, 1, by omega, by omega, zeros32, by rw [h]; rfl⟩
theorem pathC_zero {k : Nat} (h1 : 5 ≤ k) (h2 : k ≤ 8) : PathC (List.replicate k 0) := by
  rcases (show k = 5 ∨ k = 6 ∨ 6 < k by omega) with rfl | rfl | h
  · exact .inr (.inr (.inl rfl))
  · exact .inr (.inr (.inr rfl))
  · exact .inl (by simpa using h)
theorem seedC_base : SeedC 0 ⟨#[]⟩ ∧ SeedC 0 ⟨#[115]⟩ ∧ SeedC 0 ⟨#[115, 101, 101, 100, 32, 50]⟩ :=
  ⟨.inr ⟨[], 0, by omega, by omega, by decide, rfl⟩, .inr ⟨[115], 0, by omega, by omega, by decide, rfl⟩, .inr ⟨[115, 101, 101, 100, 32, 50], 0, by omega, by omega, by decide, rfl⟩⟩
theorem seedC_of (x : Int) : SeedC 0 (seedOf x) := by
  unfold seedOf
  split
  · exact seedC_base.1
  · split
    · exact seedC_base.2.1
    · exact seedC_base.2.2
end Go.Proofs.YtnionejefpnfoaaDoor
