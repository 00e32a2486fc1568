/- The law NoiseWeights: for every input it returns true. -/
import Derived.Test.YtbofbihpmhkppaaNe
import Derived.Deep.RegionHeld3
namespace Go.Proofs.Ytbofbihpmhkppaa
open Go.RowKit


/-- what holds while the law runs: the rows of odd lie where they lay -/
structure Keep (w : World) (B : Nat) (cs : Array Value) (w' : World) : Prop where
  below : Below w.heap.size w w'
  blk : Blk w' B 28 cs
theorem Keep.drew {w : World} {B : Nat} {cs : Array Value} {w' : World} (h : Keep w B cs w') : Keep w B cs w'.drew := ⟨h.below.drew, h.blk.drew⟩
theorem Keep.drewN {w : World} {B : Nat} {cs : Array Value} {w' : World} (h : Keep w B cs w') (n : Nat) : Keep w B cs (w'.drewN n) := ⟨below_drewN' h.below n, h.blk.drewN n⟩
theorem Keep.trans {w : World} {B : Nat} {cs : Array Value} {w1 w2 : World} (h : Keep w B cs w1) (k : Below w1.heap.size w1 w2) : Keep w B cs w2 :=
  ⟨h.below.trans (k.mono h.below.size), h.blk.below k h.blk.lt⟩
/-- three cells of the rows -/
structure Three (w : World) (B : Nat) (cs : Array Value) (j : Nat) (y0 y1 y2 : Int) (w' : World) : Prop where
  keep : Keep w B cs w'
  x0 : w'.cell? ⟨B, j, none⟩ = some (.int .i64 y0)
  x1 : w'.cell? ⟨B, j + 1, none⟩ = some (.int .i64 y1)
  x2 : w'.cell? ⟨B, j + 2, none⟩ = some (.int .i64 y2)
theorem Three.of {w : World} {B : Nat} {cs : Array Value} {j : Nat} {y0 y1 y2 : Int} {w' : World} (h : Keep w B cs w') (h0 : cs[j]? = some (.int .i64 y0)) (h1 : cs[j + 1]? = some (.int .i64 y1)) (h2 : cs[j + 2]? = some (.int .i64 y2)) :
    Three w B cs j y0 y1 y2 w' := ⟨h, h.blk.at_ h0, h.blk.at_ h1, h.blk.at_ h2⟩
theorem row_at (l : List Int) (j : Nat) (h : j < l.length) : (ints l).toArray[j]? = some (.int .i64 (l[j]?.getD 0)) := by
  rw [List.getElem?_toArray, ints_get]; simp [List.getElem?_eq_getElem h]

set_option maxHeartbeats 2000000 in
theorem noiseWeights_any (a n k : Int) (w : World) (ha : I64 a) (hn : I64 n) (hk : I64 k) :
    Calls Try.prog 3 #[.int .i64 a, .int .i64 n, .int .i64 k] w fun e W' => e = .returned (.bool true) ∧ Below w.heap.size w W' := by
  go_enter Try.func3, Try.ntmps3
  go_wp2_with fail
  refine (odd_any a n k _ ha hn hk).mono ?_
  rintro e w1 ⟨l, rfl, hl, hr, rfl⟩
  go_wp2_with fail
  have hB := Blk.new w 28 (ints l).toArray
  go_loopw [8] (fun i wr => ∃ j : Nat, j ≤ 10 ∧ i = .int .i64 j ∧ Keep w w.heap.size (ints l).toArray wr) (fun i _ => 10 - (intOf i).toNat)
  case atStart => exact ⟨0, by omega, rfl, below_more (Below.refl _ w) (by omega) _, hB⟩
  case round =>
    obtain ⟨j, hj, rfl, hnx⟩ := hrel
    by_cases hlt : j < 10
    · have hji : (j : Int) < 10 := by omega
      have r0 := row_at l (j * 3) (by omega)
      have r1 := row_at l (j * 3 + 1) (by omega)
      have r2 := row_at l (j * 3 + 2) (by omega)
      generalize l[j * 3]?.getD 0 = y0 at r0
      generalize l[j * 3 + 1]?.getD 0 = y1 at r1
      generalize l[j * 3 + 2]?.getD 0 = y2 at r2
      have T : ∀ W, Keep w w.heap.size (ints l).toArray W → Three w w.heap.size (ints l).toArray (j * 3) y0 y1 y2 W := fun W h => Three.of h r0 r1 r2
      have HT := Lib.hid T
      clear T r0 r1 r2
      go_wp2_with fail
      have t0 := HT.out _ hnx.drew
      have q0 := t0.x0
      have q1 := t0.x1
      have q2 := t0.x2
      go_region_held3 (fun w' => w'.cell? ⟨w.heap.size, j * 3, none⟩ = some (.int .i64 y0) ∧ w'.cell? ⟨w.heap.size, j * 3 + 1, none⟩ = some (.int .i64 y1) ∧ w'.cell? ⟨w.heap.size, j * 3 + 2, none⟩ = some (.int .i64 y2)) (first | exact ⟨q0, q1, q2⟩ | exact ⟨‹_›, ‹_›, ‹_›⟩)
        (first | (go_at_call 15; refine (weights_any y0 y1 y2 _).mono ?_; rintro e w2 ⟨A, nA, cA, rfl, hrA, hnA, hbA⟩; have t1 := HT.out _ (hnx.drew.trans hbA); have q3 := t1.x0; have q4 := t1.x1; have q5 := t1.x2))
      have K2 : Keep w w.heap.size (ints l).toArray w2 := hnx.drew.trans hbA
      clear q0 q1 q2 q3 q4 q5 t0 t1 hbA
      go_wp2_with fail
      have t0 := HT.out _ K2.drew
      have q0 := t0.x0
      have q1 := t0.x1
      have q2 := t0.x2
      go_region_held3 (fun w' => w'.cell? ⟨w.heap.size, j * 3, none⟩ = some (.int .i64 y0) ∧ w'.cell? ⟨w.heap.size, j * 3 + 1, none⟩ = some (.int .i64 y1) ∧ w'.cell? ⟨w.heap.size, j * 3 + 2, none⟩ = some (.int .i64 y2)) (first | exact ⟨q0, q1, q2⟩ | exact ⟨‹_›, ‹_›, ‹_›⟩)
        (first | (go_at_call 16; refine (refW_any y0 y1 y2 _).mono ?_; rintro e w3 ⟨A', nB, cB, rfl, hrB, hnB, hbB⟩; have t1 := HT.out _ (K2.drew.trans hbB); have q3 := t1.x0; have q4 := t1.x1; have q5 := t1.x2))
      have K3 : Keep w w.heap.size (ints l).toArray w3 := K2.drew.trans hbB
      have hrA' := (hrA.drew.below hbB).more hbB.size
      have hs := sameInts_any A A' nA nB cA cB _ _ _ w3 hrA' hrB (by omega) (by omega)
      rw [decide_eq_true rfl] at hs
      clear q0 q1 q2 q3 q4 q5 t0 t1 hbB
      go_wp2_with fail
      refine hs.mono ?_
      rintro e w4 ⟨rfl, n4, rfl⟩
      clear hs
      go_wp2_with fail
      go_roundw
      case rel => exact ⟨j + 1, by omega, by go_num, K3.drewN n4⟩
      case measure => simp [intOf]; omega
    · obtain rfl : j = 10 := by omega
      go_wp2_with fail
      refine (lives_any _).mono ?_
      rintro e w4 ⟨rfl, hb4⟩
      go_wp2_with fail
      go_ret
      exact ⟨rfl, (hnx.trans hb4).below⟩
theorem i64_of {x : Int} (h : (Lit.int .i64 x).wf = true) : I64 x := by
  simp [Lit.wf] at h
  exact h
theorem noiseWeights_walk (a n k : Int) (w : World) (ha : (Lit.int .i64 a).wf = true) (hn : (Lit.int .i64 n).wf = true) (hk : (Lit.int .i64 k).wf = true) :
    Calls Try.prog 3 #[.int .i64 a, .int .i64 n, .int .i64 k] w fun e W' => e = .returned (.bool true) ∧ Below w.heap.size w W' :=
  noiseWeights_any a n k w (i64_of ha) (i64_of hn) (i64_of hk)
end Go.Proofs.Ytbofbihpmhkppaa
