/- Both tables: what the list of two variables gives. No condition but the list itself. -/
import Derived.Test.YtiajlglnefiemaaDoorTabs
import Derived.LaidSub
namespace Go.Proofs.YtiajlglnefiemaaDoor
open Go.RowKit
section
set_option maxRecDepth 100000
variable {W : World}
theorem tab_of_two1 (h : laidMetH Tryd.prog [("diorama/dioramaref02.constants", Rows.laid_diorama_dioramaref02_constants), ("diorama/hash.constants", Rows.laid_diorama_hash_constants)] W) : Lib.TabIs Tryd.prog W "diorama/dioramaref02.constants" .u32 ZL :=
  Lib.tabIs_of_head (rest := [("diorama/hash.constants", Rows.laid_diorama_hash_constants)]) gTab2 gTabType2 Tryd.underlying117 Tryd.underlying73 cells_u32 cells117 h
theorem tab_of_two2 (h : laidMetH Tryd.prog [("diorama/dioramaref02.constants", Rows.laid_diorama_dioramaref02_constants), ("diorama/hash.constants", Rows.laid_diorama_hash_constants)] W) : Lib.TabIs Tryd.prog W "diorama/hash.constants" .u32 ZL := by
  have h2 := laidMet.filter (fun p => p.1 == "diorama/hash.constants") h
  rw [List.filter_cons_of_neg (by show ¬ ("diorama/dioramaref02.constants" == "diorama/hash.constants") = true; decide), List.filter_cons_of_pos (by show ("diorama/hash.constants" == "diorama/hash.constants") = true; decide), List.filter_nil] at h2
  exact Lib.tabIs_of_head (rest := []) gTab gTabType Tryd.underlying117 Tryd.underlying73 cells_u32 cells117 h2
theorem rconsts_of_tabs (h : laidMetH Tryd.prog [("diorama/dioramaref02.constants", Rows.laid_diorama_dioramaref02_constants), ("diorama/hash.constants", Rows.laid_diorama_hash_constants)] W) : RConsts W := fun j x hx => tab_cell (tab_of_two1 h) gTab2 j x hx
theorem consts_of_tabs (h : laidMetH Tryd.prog [("diorama/dioramaref02.constants", Rows.laid_diorama_dioramaref02_constants), ("diorama/hash.constants", Rows.laid_diorama_hash_constants)] W) : Consts W := fun j x hx => tab_cell (tab_of_two2 h) gTab j x hx
theorem pos_of_rconsts (h : RConsts W) : 1 < W.heap.size := World.block_lt_of_cell? W ⟨1, 0, none⟩ (h 0 (nth KS 0) (by kernel_rfl))
theorem pos_of_tabs (h : laidMetH Tryd.prog [("diorama/dioramaref02.constants", Rows.laid_diorama_dioramaref02_constants), ("diorama/hash.constants", Rows.laid_diorama_hash_constants)] W) : 1 < W.heap.size := pos_of_rconsts (rconsts_of_tabs h)
end
end Go.Proofs.YtiajlglnefiemaaDoor
