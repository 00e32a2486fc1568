/- What the rows' lists give: the round constants lie in their variables; and a world for the rows' witnesses. No condition but the list itself. -/
import Derived.Test.YtkchalnohkfhbaaDoorHc
import Derived.Test.YtkchalnohkfhbaaDoorRows
import Derived.Deep.DeepHandedRow
import Derived.Lib.LaidTab
namespace Go.Proofs.YtkchalnohkfhbaaDoor
open Go.RowKit

/-- the numbers of the table -/
def ZL : List Int := [1116352408, 1899447441, 3049323471, 3921009573, 961987163, 1508970993, 2453635748, 2870763221, 3624381080, 310598401, 607225278, 1426881987, 1925078388, 2162078206, 2614888103, 3248222580, 3835390401, 4022224774, 264347078, 604807628, 770255983, 1249150122, 1555081692, 1996064986, 2554220882, 2821834349, 2952996808, 3210313671, 3336571891, 3584528711, 113926993, 338241895, 666307205, 773529912, 1294757372, 1396182291, 1695183700, 1986661051, 2177026350, 2456956037, 2730485921, 2820302411, 3259730800, 3345764771, 3516065817, 3600352804, 4094571909, 275423344, 430227734, 506948616, 659060556, 883997877, 958139571, 1322822218, 1537002063, 1747873779, 1955562222, 2024104815, 2227730452, 2361852424, 2428436474, 2756734187, 3204031479, 3329325298]
theorem zl_ks : ZL = KS.map fun x => (x.toNat : Int) := by kernel_rfl
theorem gTab : Tryd.prog.globalNamed "diorama/hash.constants" = some 0 := by kernel_rfl
theorem gTabType : (Tryd.prog.globals[0]?).map (·.type) = some 83 := by kernel_rfl
theorem cells81 : Tryd.prog.cellsOf 83 = 64 := by kernel_rfl
theorem cells_u32 : Tryd.prog.cellsOf 70 = 1 := by kernel_rfl
theorem tab_cell {W : World} {g : Nat} {name : String} (h : Lib.TabIs Tryd.prog W name .u32 ZL) (hg : Tryd.prog.globalNamed name = some g) (j : Nat) (x : UInt32) (hx : KS[j]? = some x) : W.cell? ⟨g, j, none⟩ = some (w32 x) := by
  obtain ⟨hj, e⟩ := List.getElem?_eq_some_iff.1 hx
  have := h.cell hg j (by rw [zl_ks, List.length_map]; exact hj)
  rw [this, zl_ks, List.getD_eq_getElem?_getD, List.getElem?_map, hx]
  rfl
section
set_option maxRecDepth 100000
variable {W : World}
theorem tab_of (h : laidMetH Tryd.prog [("diorama/hash.constants", Rows.laid_diorama_hash_constants)] W) : Lib.TabIs Tryd.prog W "diorama/hash.constants" .u32 ZL :=
  Lib.tabIs_of_head (rest := []) gTab gTabType Tryd.underlying83 Tryd.underlying70 cells_u32 cells81 h
theorem consts_of_tab (h : laidMetH Tryd.prog [("diorama/hash.constants", Rows.laid_diorama_hash_constants)] W) : Consts W := fun j x hx => tab_cell (tab_of h) gTab j x hx
theorem pos_of_consts (h : Consts W) : 0 < W.heap.size := World.block_lt_of_cell? W ⟨0, 0, none⟩ (h 0 (nth KS 0) (by kernel_rfl))
theorem pos_of_tab (h : laidMetH Tryd.prog [("diorama/hash.constants", Rows.laid_diorama_hash_constants)] W) : 0 < W.heap.size := pos_of_consts (consts_of_tab h)
end
/-- a block with the table in it -/
def fillTab : Obj → Obj
  | .cells _ t frozen => .cells #[.int .u32 1116352408, .int .u32 1899447441, .int .u32 3049323471, .int .u32 3921009573, .int .u32 961987163, .int .u32 1508970993, .int .u32 2453635748, .int .u32 2870763221, .int .u32 3624381080, .int .u32 310598401, .int .u32 607225278, .int .u32 1426881987, .int .u32 1925078388, .int .u32 2162078206, .int .u32 2614888103, .int .u32 3248222580, .int .u32 3835390401, .int .u32 4022224774, .int .u32 264347078, .int .u32 604807628, .int .u32 770255983, .int .u32 1249150122, .int .u32 1555081692, .int .u32 1996064986, .int .u32 2554220882, .int .u32 2821834349, .int .u32 2952996808, .int .u32 3210313671, .int .u32 3336571891, .int .u32 3584528711, .int .u32 113926993, .int .u32 338241895, .int .u32 666307205, .int .u32 773529912, .int .u32 1294757372, .int .u32 1396182291, .int .u32 1695183700, .int .u32 1986661051, .int .u32 2177026350, .int .u32 2456956037, .int .u32 2730485921, .int .u32 2820302411, .int .u32 3259730800, .int .u32 3345764771, .int .u32 3516065817, .int .u32 3600352804, .int .u32 4094571909, .int .u32 275423344, .int .u32 430227734, .int .u32 506948616, .int .u32 659060556, .int .u32 883997877, .int .u32 958139571, .int .u32 1322822218, .int .u32 1537002063, .int .u32 1747873779, .int .u32 1955562222, .int .u32 2024104815, .int .u32 2227730452, .int .u32 2361852424, .int .u32 2428436474, .int .u32 2756734187, .int .u32 3204031479, .int .u32 3329325298] t frozen
  | o => o
/-- A WORLD FOR THE WITNESSES: the settled one, the table (block 0) holding what its initialiser lays. -/
noncomputable def laidWorld (os : Os) : World :=
  { World.holding Tryd.prog os ⟨#[], #[], []⟩ with heap := (World.holding Tryd.prog os ⟨#[], #[], []⟩).heap.modify 0 fillTab }
end Go.Proofs.YtkchalnohkfhbaaDoor
