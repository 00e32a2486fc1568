/- The walks of Begin and Sum. -/
import Derived.Test.YtnionejefpnfoaaDoorHe
namespace Go.Proofs.YtnionejefpnfoaaDoor
open Go.RowKit
attribute [local go_sem] zeroValue73
attribute [local simp] zeroCells73_ne

def zero64 : List UInt8 := List.replicate 64 0
theorem isStr_nil : IsStr [] zero64 := ⟨by simp [zero64], rfl⟩
set_option maxRecDepth 100000 in
set_option maxHeartbeats 4000000 in
theorem begin_any (w : World) : Calls Tryd.prog 48 #[] w (Added [] w) := by
  obtain ⟨X, hX⟩ : ∃ X, X = ((((((((Tryd.zeroCells84.setIfInBounds 0 (Value.int .u32 1779033703)).setIfInBounds 1 (Value.int .u32 3144134277)).setIfInBounds 2 (Value.int .u32 1013904242)).setIfInBounds 3 (Value.int .u32 2773480762)).setIfInBounds 4 (Value.int .u32 1359893119)).setIfInBounds 5 (Value.int .u32 2600822924)).setIfInBounds 6 (Value.int .u32 528734635)).setIfInBounds 7 (Value.int .u32 1541459225)) := ⟨_, rfl⟩
  have e1 : X = (strm S0 zero64 0).toArray := by rw [hX]; kernel_rfl
  have HX := Lib.hid e1
  have G1 : Hid ((Tryd.prog.info? 84).map (·.size) = some X.size) := Lib.hid (by rw [e1, List.size_toArray, strm_length S0 0 isStr_nil.1]; exact info73)
  have G2 : Hid (Tryd.zeroCells84.size = X.size) := Lib.hid (by rw [e1]; kernel_rfl)
  have G3 : Hid (X.all (·.oneCell') = true) := Lib.hid (by rw [e1]; exact all_oneCell_toArray (strm_one _ _ _))
  have HXX := Lib.hid hX
  clear hX e1
  go_enter Tryd.func48, Tryd.ntmps48
  go_wp2_with (first
    | ((with_reducible refine wpList_store_row rfl 84 _ _ rfl w.heap.size _ rfl rfl 84 Tryd.zeroCells84 (heap_alloc_new w _) ?_ ?_ ?_ ?_); (rw [← HXX.out]; exact G1.out); (rw [← HXX.out]; exact G2.out); (rw [← HXX.out]; exact G3.out); rw [← HXX.out]))
  refine ret_row (g := w.heap.size) (cs := X) (t := 84) Tryd.results48 ?_ ((Blk.new w 84 _).row X) rfl Tryd.underlying84 G1.out ?_ ?_
  · rfl
  · rfl
  · exact ⟨zero64, isStr_nil, by rw [HX.out]; rfl, below_setRow ((Below.refl _ w).alloc (Nat.le_refl _) _) (Nat.le_refl _) X⟩
end Go.Proofs.YtnionejefpnfoaaDoor
