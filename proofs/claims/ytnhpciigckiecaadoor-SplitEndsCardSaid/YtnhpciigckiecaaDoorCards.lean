/-
  DERIVED. GIVEN WITH THE SEED: THE CARDS: each row of YtnhpciigckiecaaDoorRows.lean that lists a variable, with what it lists TIED to the program's text (the seventh form; the later family's looks); each row that meets fmt, with fmt's text TOLD by the authors' own Lean function (tested against real Go, not proved from fmt's source: count such statements apart). THE CARD IS WHAT COUNTS. Prove the row's statement (the work); the ties are given (YtnhpciigckiecaaDoorTie.lean); close each card by the builder's one call (the guide's Derived/Test/ToyasCard.lean, 'card_holds'). Laid BY PROGRAM, IN A SANDBOX (cutbox-door.mjs). By AI agents, Wed Nov 11 2026. No macro, syntax, notation, axiom, sorry.
-/
import Derived.Test.YtnhpciigckiecaaDoorRows
import GoSem.ClaimSeven
namespace Go.Proofs.YtnhpciigckiecaaDoor
namespace Rows

/-- THE TIED CARD OF 'dioramalaw07.SplitEnds'. -/
def splitEndsCard : Claim7 := { stood := { row := splitEndsRow, standIns := [], harness := (true, "87b0fc277b02f0c0cceed84b305a45df6af2eefe02eda33591a599f2caef6985"), looks := false }, kinds := [], alts := [], laidByText := true, laidKinds := [.data], laidTests := true, laidLooks := .later }
def SplitEndsCardSaid : Prop := Claim7.holds Tryd.pinned (.plain (OpenSpec.ofChange splitEndsSpec)) splitEndsCard

/-- THE SECOND FORM's CARD OF 'dioramalaw07.SplitEnds'. -/
def splitEndsUptoCard : Claim7 := { stood := { row := splitEndsUptoRow, standIns := [], harness := (true, "87b0fc277b02f0c0cceed84b305a45df6af2eefe02eda33591a599f2caef6985"), looks := false }, kinds := [], alts := [], laidByText := true, laidKinds := [.data], laidTests := true, laidLooks := .later }
def SplitEndsUptoCardSaid : Prop := Claim7.holds Tryd.pinned (.plain (OpenSpec.upto splitEndsSpec)) splitEndsUptoCard
end Rows
end Go.Proofs.YtnhpciigckiecaaDoor
