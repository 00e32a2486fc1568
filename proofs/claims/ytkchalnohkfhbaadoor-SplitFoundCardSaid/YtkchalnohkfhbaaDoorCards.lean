/-
  DERIVED. GIVEN WITH THE SEED: THE CARDS: each row of YtkchalnohkfhbaaDoorRows.lean that lists a variable, with what it lists TIED to the program's text (the seventh form; the later family's looks); each row that meets fmt, with fmt's text TOLD by the authors' own Lean function (tested against real Go, not proved from fmt's source: count such statements apart). THE CARD IS WHAT COUNTS. Prove the row's statement (the work); the ties are given (YtkchalnohkfhbaaDoorTie.lean); close each card by the builder's one call (the guide's Derived/Test/ToyasCard.lean, 'card_holds'). Laid BY PROGRAM, IN A SANDBOX (cutbox-door.mjs). By AI agents, Wed Nov 11 2026. No macro, syntax, notation, axiom, sorry.
-/
import Derived.Test.YtkchalnohkfhbaaDoorRows
import GoSem.ClaimSeven
namespace Go.Proofs.YtkchalnohkfhbaaDoor
namespace Rows

/-- THE TIED CARD OF 'dioramalaw07.SplitSums'. -/
def splitSumsCard : Claim7 := { stood := { row := splitSumsRow, standIns := [], harness := (true, "fbe22cf142ff267423648118e91a46e154ccd281d673798723b968cef577fd6f"), looks := false }, kinds := [], alts := [], laidByText := true, laidKinds := [.data], laidTests := true, laidLooks := .later }
def SplitSumsCardSaid : Prop := Claim7.holds Tryd.pinned (.plain (OpenSpec.ofChange splitSumsSpec)) splitSumsCard

/-- THE TIED CARD OF 'dioramalaw07.SplitFound'. -/
def splitFoundCard : Claim7 := { stood := { row := splitFoundRow, standIns := [], harness := (true, "fbe22cf142ff267423648118e91a46e154ccd281d673798723b968cef577fd6f"), looks := false }, kinds := [], alts := [], laidByText := true, laidKinds := [.data], laidTests := true, laidLooks := .later }
def SplitFoundCardSaid : Prop := Claim7.holds Tryd.pinned (.plain (OpenSpec.ofChange splitFoundSpec)) splitFoundCard

/-- THE TIED CARD OF 'dioramalaw07.SplitHalves'. -/
def splitHalvesCard : Claim7 := { stood := { row := splitHalvesRow, standIns := [], harness := (true, "fbe22cf142ff267423648118e91a46e154ccd281d673798723b968cef577fd6f"), looks := false }, kinds := [], alts := [], laidByText := true, laidKinds := [.data], laidTests := true, laidLooks := .later }
def SplitHalvesCardSaid : Prop := Claim7.holds Tryd.pinned (.plain (OpenSpec.ofChange splitHalvesSpec)) splitHalvesCard

/-- THE TIED CARD OF 'dioramalaw07.SplitMoved'. -/
def splitMovedCard : Claim7 := { stood := { row := splitMovedRow, standIns := [], harness := (true, "fbe22cf142ff267423648118e91a46e154ccd281d673798723b968cef577fd6f"), looks := false }, kinds := [], alts := [], laidByText := true, laidKinds := [.data], laidTests := true, laidLooks := .later }
def SplitMovedCardSaid : Prop := Claim7.holds Tryd.pinned (.plain (OpenSpec.ofChange splitMovedSpec)) splitMovedCard

/-- THE SECOND FORM's CARD OF 'dioramalaw07.SplitSums'. -/
def splitSumsUptoCard : Claim7 := { stood := { row := splitSumsUptoRow, standIns := [], harness := (true, "fbe22cf142ff267423648118e91a46e154ccd281d673798723b968cef577fd6f"), looks := false }, kinds := [], alts := [], laidByText := true, laidKinds := [.data], laidTests := true, laidLooks := .later }
def SplitSumsUptoCardSaid : Prop := Claim7.holds Tryd.pinned (.plain (OpenSpec.upto splitSumsSpec)) splitSumsUptoCard

/-- THE SECOND FORM's CARD OF 'dioramalaw07.SplitFound'. -/
def splitFoundUptoCard : Claim7 := { stood := { row := splitFoundUptoRow, standIns := [], harness := (true, "fbe22cf142ff267423648118e91a46e154ccd281d673798723b968cef577fd6f"), looks := false }, kinds := [], alts := [], laidByText := true, laidKinds := [.data], laidTests := true, laidLooks := .later }
def SplitFoundUptoCardSaid : Prop := Claim7.holds Tryd.pinned (.plain (OpenSpec.upto splitFoundSpec)) splitFoundUptoCard

/-- THE SECOND FORM's CARD OF 'dioramalaw07.SplitHalves'. -/
def splitHalvesUptoCard : Claim7 := { stood := { row := splitHalvesUptoRow, standIns := [], harness := (true, "fbe22cf142ff267423648118e91a46e154ccd281d673798723b968cef577fd6f"), looks := false }, kinds := [], alts := [], laidByText := true, laidKinds := [.data], laidTests := true, laidLooks := .later }
def SplitHalvesUptoCardSaid : Prop := Claim7.holds Tryd.pinned (.plain (OpenSpec.upto splitHalvesSpec)) splitHalvesUptoCard

/-- THE SECOND FORM's CARD OF 'dioramalaw07.SplitMoved'. -/
def splitMovedUptoCard : Claim7 := { stood := { row := splitMovedUptoRow, standIns := [], harness := (true, "fbe22cf142ff267423648118e91a46e154ccd281d673798723b968cef577fd6f"), looks := false }, kinds := [], alts := [], laidByText := true, laidKinds := [.data], laidTests := true, laidLooks := .later }
def SplitMovedUptoCardSaid : Prop := Claim7.holds Tryd.pinned (.plain (OpenSpec.upto splitMovedSpec)) splitMovedUptoCard
end Rows
end Go.Proofs.YtkchalnohkfhbaaDoor
