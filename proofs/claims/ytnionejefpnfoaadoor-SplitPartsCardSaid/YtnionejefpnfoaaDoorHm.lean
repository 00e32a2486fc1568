/- Whole rows: a block that is stored whole or read whole, a result that lies in a block. No condition; nothing of the program stands here. -/
import Derived.Test.YtnionejefpnfoaaDoorMem
import Derived.Laws.Tables
import Derived.Deep.MidRow
import Derived.WalkKit
namespace Go.Proofs.YtnionejefpnfoaaDoor
open Go.RowKit

section
variable {w w' : World} {g g' : Nat} {t t' : TypeId} {cs cs' : Array Value}
theorem Blk.heap_ (h : Blk w g t cs) : w.heap[g]? = some (.cells cs t (0, 0)) := h
theorem Blk.row (h : Blk w g t cs) (cs' : Array Value) : Blk (w.setRow g cs') g t cs' := setRow_heap w g cs cs' t (0, 0) h
theorem Blk.rowFar (h : Blk w g t cs) (hn : g ≠ g') (cs' : Array Value) : Blk (w.setRow g' cs') g t cs := (setRow_other w g' g cs' hn).trans h
theorem below_setRow {B : Nat} (h : Below B w w') (hg : B ≤ g) (cs' : Array Value) : Below B w (w'.setRow g cs') :=
  ⟨h.os, h.tape, h.output, by rw [setRow_size]; exact h.size, fun b hb => (setRow_other w' g b cs' (by omega)).trans (h.block b hb)⟩
theorem Reads.setRow {B size n : Nat} {A : Option Addr} {xs : List Value} (h : Reads w B size A n xs) (hg : B ≤ g) (cs' : Array Value) : Reads (w.setRow g cs') B size A n xs :=
  h.keep fun p hp => cell_setRow_other w g cs' p (by omega)
/-- a further call, behind others -/
theorem below_step {B : Nat} {w w1 w2 : World} (h : Below B w w1) (hB : B ≤ w.heap.size) (k : Below w1.heap.size w1 w2) : Below B w w2 := h.trans (k.mono (Nat.le_trans hB h.size))
/-- a call in a second region of reads alone -/
theorem quiet_more {P : Program} {f : FuncId} {args : Array Value} {w : World} {a n : Nat} {v : Value} (h : Calls P f args (w.drewN (a + n)) fun e w' => e = .returned v ∧ w' = w.drewN (a + n)) :
    Calls P f args (w.drewN (a + n)) fun e w'' => e = .returned v ∧ ∃ m, w'' = w.drewN (a + m) := h.mono fun _ _ ⟨he, hm⟩ => ⟨he, n, hm⟩
/-- a result that lies in a block -/
theorem ret_row {P : Program} {fn : Func} {R : Ending → World → Prop} {a : Act} {k : Tmp} {ty : TypeId} {d : TypeDesc} (hr : fn.results = #[.cell k ty]) (hx : a.tmps.getD k undef = .pointer (some ⟨g, 0, none⟩))
    (hB : Blk w g t cs) (hd : (match d with | .struct _ | .array _ _ => true | _ => false) = true) (hu : P.underlying ty = some d) (hi : (P.info? ty).map (·.size) = some cs.size) (hdef : a.defers = [])
    (hR : R (.returned (.agg cs)) w) : bodyPost P fn R .ret a w := by
  refine bodyPost_ret (v := .agg cs) ?_ hdef hR
  have := run_loadVar_row (P := P) w g t ty cs (0, 0) d hB hu (by cases d <;> first | rfl | exact hd) hi
  simp only [results, hr]
  have hx2 : a.tmps[k]?.getD undef = .pointer (some ⟨g, 0, none⟩) := by rw [← Array.getD_eq_getD_getElem?]; exact hx
  simp [hx2, asAddr, this]
end
end Go.Proofs.YtnionejefpnfoaaDoor
