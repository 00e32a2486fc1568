/- All the batches together: the first word of every draw of a made split is accepted. No condition; nothing of the program stands here but the specification of its words. -/
import Derived.Test.YtkchalnohkfhbaaDoorZk0
import Derived.Test.YtkchalnohkfhbaaDoorZk1
import Derived.Test.YtkchalnohkfhbaaDoorZk2
import Derived.Test.YtkchalnohkfhbaaDoorZk3
import Derived.Test.YtkchalnohkfhbaaDoorZk4
import Derived.Test.YtkchalnohkfhbaaDoorZk5
import Derived.Test.YtkchalnohkfhbaaDoorVj
set_option linter.unusedVariables false
namespace Go.Proofs.YtkchalnohkfhbaaDoor

/-- the nodes of several parts of splits of at most twelve -/
def nodes : List (Nat × Nat) := [(0, 2), (0, 3), (0, 4), (0, 5), (0, 6), (0, 7), (0, 8), (0, 9), (0, 10), (0, 11), (0, 12), (1, 2), (2, 2), (2, 3), (3, 2), (3, 3), (3, 4), (4, 2), (4, 4), (4, 5), (5, 2), (5, 3), (5, 5), (5, 6), (6, 2), (6, 3), (6, 6), (7, 2), (7, 3), (8, 2), (8, 3), (9, 2), (9, 3), (10, 2)]
theorem ok_all (x : Int) (h0 : 0 ≤ x) (h1 : x < 3) (a n : Nat) (h : (a, n) ∈ nodes) : OkB ((seedOf x).data.toList.map UInt8.toNat) a n := by
  unfold nodes at h
  simp only [List.mem_cons, List.not_mem_nil, or_false, Prod.mk.injEq] at h
  rcases (show x = 0 ∨ x = 1 ∨ x = 2 by omega) with rfl | rfl | rfl
  · rcases h with ⟨rfl, rfl⟩ | ⟨rfl, rfl⟩ | ⟨rfl, rfl⟩ | ⟨rfl, rfl⟩ | ⟨rfl, rfl⟩ | ⟨rfl, rfl⟩ | ⟨rfl, rfl⟩ | ⟨rfl, rfl⟩ | ⟨rfl, rfl⟩ | ⟨rfl, rfl⟩ | ⟨rfl, rfl⟩ | ⟨rfl, rfl⟩ | ⟨rfl, rfl⟩ | ⟨rfl, rfl⟩ | ⟨rfl, rfl⟩ | ⟨rfl, rfl⟩ | ⟨rfl, rfl⟩ | ⟨rfl, rfl⟩ | ⟨rfl, rfl⟩ | ⟨rfl, rfl⟩ | ⟨rfl, rfl⟩ | ⟨rfl, rfl⟩ | ⟨rfl, rfl⟩ | ⟨rfl, rfl⟩ | ⟨rfl, rfl⟩ | ⟨rfl, rfl⟩ | ⟨rfl, rfl⟩ | ⟨rfl, rfl⟩ | ⟨rfl, rfl⟩ | ⟨rfl, rfl⟩ | ⟨rfl, rfl⟩ | ⟨rfl, rfl⟩ | ⟨rfl, rfl⟩ | ⟨rfl, rfl⟩
    · exact ok0_0
    · exact ok0_1
    · exact ok0_2
    · exact ok0_3
    · exact ok0_4
    · exact ok0_5
    · exact ok0_6
    · exact ok0_7
    · exact ok0_8
    · exact ok0_9
    · exact ok0_10
    · exact ok0_11
    · exact ok0_12
    · exact ok0_13
    · exact ok0_14
    · exact ok0_15
    · exact ok0_16
    · exact ok0_17
    · exact ok0_18
    · exact ok0_19
    · exact ok0_20
    · exact ok0_21
    · exact ok0_22
    · exact ok0_23
    · exact ok0_24
    · exact ok0_25
    · exact ok0_26
    · exact ok0_27
    · exact ok0_28
    · exact ok0_29
    · exact ok0_30
    · exact ok0_31
    · exact ok0_32
    · exact ok0_33
  · rcases h with ⟨rfl, rfl⟩ | ⟨rfl, rfl⟩ | ⟨rfl, rfl⟩ | ⟨rfl, rfl⟩ | ⟨rfl, rfl⟩ | ⟨rfl, rfl⟩ | ⟨rfl, rfl⟩ | ⟨rfl, rfl⟩ | ⟨rfl, rfl⟩ | ⟨rfl, rfl⟩ | ⟨rfl, rfl⟩ | ⟨rfl, rfl⟩ | ⟨rfl, rfl⟩ | ⟨rfl, rfl⟩ | ⟨rfl, rfl⟩ | ⟨rfl, rfl⟩ | ⟨rfl, rfl⟩ | ⟨rfl, rfl⟩ | ⟨rfl, rfl⟩ | ⟨rfl, rfl⟩ | ⟨rfl, rfl⟩ | ⟨rfl, rfl⟩ | ⟨rfl, rfl⟩ | ⟨rfl, rfl⟩ | ⟨rfl, rfl⟩ | ⟨rfl, rfl⟩ | ⟨rfl, rfl⟩ | ⟨rfl, rfl⟩ | ⟨rfl, rfl⟩ | ⟨rfl, rfl⟩ | ⟨rfl, rfl⟩ | ⟨rfl, rfl⟩ | ⟨rfl, rfl⟩ | ⟨rfl, rfl⟩
    · exact ok1_0
    · exact ok1_1
    · exact ok1_2
    · exact ok1_3
    · exact ok1_4
    · exact ok1_5
    · exact ok1_6
    · exact ok1_7
    · exact ok1_8
    · exact ok1_9
    · exact ok1_10
    · exact ok1_11
    · exact ok1_12
    · exact ok1_13
    · exact ok1_14
    · exact ok1_15
    · exact ok1_16
    · exact ok1_17
    · exact ok1_18
    · exact ok1_19
    · exact ok1_20
    · exact ok1_21
    · exact ok1_22
    · exact ok1_23
    · exact ok1_24
    · exact ok1_25
    · exact ok1_26
    · exact ok1_27
    · exact ok1_28
    · exact ok1_29
    · exact ok1_30
    · exact ok1_31
    · exact ok1_32
    · exact ok1_33
  · rcases h with ⟨rfl, rfl⟩ | ⟨rfl, rfl⟩ | ⟨rfl, rfl⟩ | ⟨rfl, rfl⟩ | ⟨rfl, rfl⟩ | ⟨rfl, rfl⟩ | ⟨rfl, rfl⟩ | ⟨rfl, rfl⟩ | ⟨rfl, rfl⟩ | ⟨rfl, rfl⟩ | ⟨rfl, rfl⟩ | ⟨rfl, rfl⟩ | ⟨rfl, rfl⟩ | ⟨rfl, rfl⟩ | ⟨rfl, rfl⟩ | ⟨rfl, rfl⟩ | ⟨rfl, rfl⟩ | ⟨rfl, rfl⟩ | ⟨rfl, rfl⟩ | ⟨rfl, rfl⟩ | ⟨rfl, rfl⟩ | ⟨rfl, rfl⟩ | ⟨rfl, rfl⟩ | ⟨rfl, rfl⟩ | ⟨rfl, rfl⟩ | ⟨rfl, rfl⟩ | ⟨rfl, rfl⟩ | ⟨rfl, rfl⟩ | ⟨rfl, rfl⟩ | ⟨rfl, rfl⟩ | ⟨rfl, rfl⟩ | ⟨rfl, rfl⟩ | ⟨rfl, rfl⟩ | ⟨rfl, rfl⟩
    · exact ok2_0
    · exact ok2_1
    · exact ok2_2
    · exact ok2_3
    · exact ok2_4
    · exact ok2_5
    · exact ok2_6
    · exact ok2_7
    · exact ok2_8
    · exact ok2_9
    · exact ok2_10
    · exact ok2_11
    · exact ok2_12
    · exact ok2_13
    · exact ok2_14
    · exact ok2_15
    · exact ok2_16
    · exact ok2_17
    · exact ok2_18
    · exact ok2_19
    · exact ok2_20
    · exact ok2_21
    · exact ok2_22
    · exact ok2_23
    · exact ok2_24
    · exact ok2_25
    · exact ok2_26
    · exact ok2_27
    · exact ok2_28
    · exact ok2_29
    · exact ok2_30
    · exact ok2_31
    · exact ok2_32
    · exact ok2_33
theorem seedOf_len (x : Int) : (seedOf x).data.toList.length ≤ 6 := by
  unfold seedOf
  split
  · decide
  · split <;> decide
theorem seed_byt (x : Int) : (seedOf x).data.toList = ((seedOf x).data.toList.map UInt8.toNat).map byt := by
  rw [List.map_map]
  have : byt ∘ UInt8.toNat = id := by funext b; exact byt_of b
  rw [this, List.map_id]
theorem word_ok {x : Int} (h0 : 0 ≤ x) (h1 : x < 3) {p : List Int} (hl : p.length ≤ 3) (hp : ∀ y ∈ p, 0 ≤ y ∧ y < 100) {a n : Nat} (h : (a, n) ∈ nodes) : wordN (seedOf x) (p ++ [(a : Int), (n : Int)]) 0 < 281474976645120 := by
  have hb : a < 256 ∧ n < 256 := by
    have : (nodes.all fun q => decide (q.1 < 256 ∧ q.2 < 256)) = true := by decide
    exact of_decide_eq_true (List.all_eq_true.1 this _ h)
  refine okB_word (seed_byt x) (fun y hy => ?_) ?_ hb.1 hb.2 (ok_all x h0 h1 a n h) p hl hp
  · obtain ⟨z, -, rfl⟩ := List.mem_map.1 hy
    exact z.toNat_lt
  · have := seedOf_len x
    rw [List.length_map]
    omega
end Go.Proofs.YtkchalnohkfhbaaDoor
