/- What draws ask of the world. No condition. -/
import Derived.Test.YtnionejefpnfoaaDoorHj
set_option linter.unusedSimpArgs false
set_option linter.unusedVariables false
namespace Go.Proofs.YtnionejefpnfoaaDoor
open Go.RowKit

/-- what draws ask of the world -/
structure Net (s : ByteArray) (A : Option Addr) (n : Nat) (l : List Int) (w : World) : Prop where
  reads : Reads w w.heap.size 1 A n (ints l)
  nums : ∀ x ∈ l, I64 x
  short : n ≤ 10000
  text : s.size ≤ 100000
  consts : Consts w
  pos : 0 < w.heap.size
section
variable {s : ByteArray} {A : Option Addr} {n : Nat} {l : List Int} {w w' : World}
theorem Net.below (h : Net s A n l w) (hb : Below w.heap.size w w') : Net s A n l w' :=
  ⟨(h.reads.below hb).more hb.size, h.nums, h.short, h.text, h.consts.below (hb.mono h.pos), Nat.lt_of_lt_of_le h.pos hb.size⟩
theorem Net.alloc (h : Net s A n l w) (o : Obj) : Net s A n l (w.alloc o) := h.below ((Below.refl _ w).alloc (Nat.le_refl _) o)
theorem Net.drew (h : Net s A n l w) : Net s A n l w.drew := h.below (Below.refl _ w).drew
end
theorem below_next {w W W' : World} (h : Below w.heap.size w W) (b : Below W.heap.size W W') : Below w.heap.size w W' := h.trans (b.mono h.size)
end Go.Proofs.YtnionejefpnfoaaDoor
