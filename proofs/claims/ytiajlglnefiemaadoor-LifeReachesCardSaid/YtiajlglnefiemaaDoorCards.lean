/-
  DERIVED. GIVEN WITH THE SEED: THE CARDS: each row of YtiajlglnefiemaaDoorRows.lean that lists a variable, with what it lists TIED to the program's text (the seventh form; the later family's looks); each row that meets fmt, with fmt's text TOLD by the authors' own Lean function (tested against real Go, not proved from fmt's source: count such statements apart). THE CARD IS WHAT COUNTS. Prove the row's statement (the work); the ties are given (YtiajlglnefiemaaDoorTie.lean); close each card by the builder's one call (the guide's Derived/Test/ToyasCard.lean, 'card_holds'). Laid BY PROGRAM, IN A SANDBOX (cutbox-door.mjs). By AI agents, Wed Nov 11 2026. No macro, syntax, notation, axiom, sorry.
-/
import Derived.Test.YtiajlglnefiemaaDoorRows
import GoSem.ClaimSeven
namespace Go.Proofs.YtiajlglnefiemaaDoor
namespace Rows

/-- THE TIED CARD OF 'dioramalaw06.PermAll'. -/
def permAllCard : Claim7 := { stood := { row := permAllRow, standIns := [], harness := (true, "cf7b94a534c8a89deac430fb144c6df6ca2b2ef975231c09e095c919a3b97c18"), looks := false }, kinds := [], alts := [], laidByText := true, laidKinds := [.data, .data], laidTests := true, laidLooks := .later }
def PermAllCardSaid : Prop := Claim7.holds Tryd.pinned (.plain (OpenSpec.ofChange permAllSpec)) permAllCard

/-- THE TIED CARD OF 'dioramalaw06.PermDraws'. -/
def permDrawsCard : Claim7 := { stood := { row := permDrawsRow, standIns := [], harness := (true, "cf7b94a534c8a89deac430fb144c6df6ca2b2ef975231c09e095c919a3b97c18"), looks := false }, kinds := [], alts := [], laidByText := true, laidKinds := [.data], laidTests := true, laidLooks := .later }
def PermDrawsCardSaid : Prop := Claim7.holds Tryd.pinned (.plain (OpenSpec.ofChange permDrawsSpec)) permDrawsCard

/-- THE TIED CARD OF 'dioramalaw06.PermSizes'. -/
def permSizesCard : Claim7 := { stood := { row := permSizesRow, standIns := [], harness := (true, "cf7b94a534c8a89deac430fb144c6df6ca2b2ef975231c09e095c919a3b97c18"), looks := false }, kinds := [], alts := [], laidByText := true, laidKinds := [.data], laidTests := true, laidLooks := .later }
def PermSizesCardSaid : Prop := Claim7.holds Tryd.pinned (.plain (OpenSpec.ofChange permSizesSpec)) permSizesCard

/-- THE TIED CARD OF 'dioramalaw06.PermPlaces'. -/
def permPlacesCard : Claim7 := { stood := { row := permPlacesRow, standIns := [], harness := (true, "cf7b94a534c8a89deac430fb144c6df6ca2b2ef975231c09e095c919a3b97c18"), looks := false }, kinds := [], alts := [], laidByText := true, laidKinds := [.data, .data], laidTests := true, laidLooks := .later }
def PermPlacesCardSaid : Prop := Claim7.holds Tryd.pinned (.plain (OpenSpec.ofChange permPlacesSpec)) permPlacesCard

/-- THE TIED CARD OF 'dioramalaw06.PermOnce'. -/
def permOnceCard : Claim7 := { stood := { row := permOnceRow, standIns := [], harness := (true, "cf7b94a534c8a89deac430fb144c6df6ca2b2ef975231c09e095c919a3b97c18"), looks := false }, kinds := [], alts := [], laidByText := true, laidKinds := [.data], laidTests := true, laidLooks := .later }
def PermOnceCardSaid : Prop := Claim7.holds Tryd.pinned (.plain (OpenSpec.ofChange permOnceSpec)) permOnceCard

/-- THE TIED CARD OF 'dioramalaw06.PermAlone'. -/
def permAloneCard : Claim7 := { stood := { row := permAloneRow, standIns := [], harness := (true, "cf7b94a534c8a89deac430fb144c6df6ca2b2ef975231c09e095c919a3b97c18"), looks := false }, kinds := [], alts := [], laidByText := true, laidKinds := [.data], laidTests := true, laidLooks := .later }
def PermAloneCardSaid : Prop := Claim7.holds Tryd.pinned (.plain (OpenSpec.ofChange permAloneSpec)) permAloneCard

/-- THE TIED CARD OF 'dioramalaw05.DrawWords'. -/
def drawWordsCard : Claim7 := { stood := { row := drawWordsRow, standIns := [], harness := (true, "cf7b94a534c8a89deac430fb144c6df6ca2b2ef975231c09e095c919a3b97c18"), looks := false }, kinds := [], alts := [], laidByText := true, laidKinds := [.data, .data], laidTests := true, laidLooks := .later }
def DrawWordsCardSaid : Prop := Claim7.holds Tryd.pinned (.plain (OpenSpec.ofChange drawWordsSpec)) drawWordsCard

/-- THE TIED CARD OF 'dioramalaw11.LifeReaches'. -/
def lifeReachesCard : Claim7 := { stood := { row := lifeReachesRow, standIns := [], harness := (true, "cf7b94a534c8a89deac430fb144c6df6ca2b2ef975231c09e095c919a3b97c18"), looks := false }, kinds := [], alts := [], laidByText := true, laidKinds := [.data], laidTests := true, laidLooks := .later }
def LifeReachesCardSaid : Prop := Claim7.holds Tryd.pinned (.plain (OpenSpec.ofChange lifeReachesSpec)) lifeReachesCard

/-- THE TIED CARD OF 'dioramalaw11.LifeUnion'. -/
def lifeUnionCard : Claim7 := { stood := { row := lifeUnionRow, standIns := [], harness := (true, "cf7b94a534c8a89deac430fb144c6df6ca2b2ef975231c09e095c919a3b97c18"), looks := false }, kinds := [], alts := [], laidByText := true, laidKinds := [.data], laidTests := true, laidLooks := .later }
def LifeUnionCardSaid : Prop := Claim7.holds Tryd.pinned (.plain (OpenSpec.ofChange lifeUnionSpec)) lifeUnionCard

/-- THE TIED CARD OF 'dioramalaw11.LifeFewest'. -/
def lifeFewestCard : Claim7 := { stood := { row := lifeFewestRow, standIns := [], harness := (true, "cf7b94a534c8a89deac430fb144c6df6ca2b2ef975231c09e095c919a3b97c18"), looks := false }, kinds := [], alts := [], laidByText := true, laidKinds := [.data], laidTests := true, laidLooks := .later }
def LifeFewestCardSaid : Prop := Claim7.holds Tryd.pinned (.plain (OpenSpec.ofChange lifeFewestSpec)) lifeFewestCard

/-- THE SECOND FORM's CARD OF 'dioramalaw06.PermAll'. -/
def permAllUptoCard : Claim7 := { stood := { row := permAllUptoRow, standIns := [], harness := (true, "cf7b94a534c8a89deac430fb144c6df6ca2b2ef975231c09e095c919a3b97c18"), looks := false }, kinds := [], alts := [], laidByText := true, laidKinds := [.data, .data], laidTests := true, laidLooks := .later }
def PermAllUptoCardSaid : Prop := Claim7.holds Tryd.pinned (.plain (OpenSpec.upto permAllSpec)) permAllUptoCard

/-- THE SECOND FORM's CARD OF 'dioramalaw06.PermDraws'. -/
def permDrawsUptoCard : Claim7 := { stood := { row := permDrawsUptoRow, standIns := [], harness := (true, "cf7b94a534c8a89deac430fb144c6df6ca2b2ef975231c09e095c919a3b97c18"), looks := false }, kinds := [], alts := [], laidByText := true, laidKinds := [.data], laidTests := true, laidLooks := .later }
def PermDrawsUptoCardSaid : Prop := Claim7.holds Tryd.pinned (.plain (OpenSpec.upto permDrawsSpec)) permDrawsUptoCard

/-- THE SECOND FORM's CARD OF 'dioramalaw06.PermSizes'. -/
def permSizesUptoCard : Claim7 := { stood := { row := permSizesUptoRow, standIns := [], harness := (true, "cf7b94a534c8a89deac430fb144c6df6ca2b2ef975231c09e095c919a3b97c18"), looks := false }, kinds := [], alts := [], laidByText := true, laidKinds := [.data], laidTests := true, laidLooks := .later }
def PermSizesUptoCardSaid : Prop := Claim7.holds Tryd.pinned (.plain (OpenSpec.upto permSizesSpec)) permSizesUptoCard

/-- THE SECOND FORM's CARD OF 'dioramalaw06.PermPlaces'. -/
def permPlacesUptoCard : Claim7 := { stood := { row := permPlacesUptoRow, standIns := [], harness := (true, "cf7b94a534c8a89deac430fb144c6df6ca2b2ef975231c09e095c919a3b97c18"), looks := false }, kinds := [], alts := [], laidByText := true, laidKinds := [.data, .data], laidTests := true, laidLooks := .later }
def PermPlacesUptoCardSaid : Prop := Claim7.holds Tryd.pinned (.plain (OpenSpec.upto permPlacesSpec)) permPlacesUptoCard

/-- THE SECOND FORM's CARD OF 'dioramalaw06.PermOnce'. -/
def permOnceUptoCard : Claim7 := { stood := { row := permOnceUptoRow, standIns := [], harness := (true, "cf7b94a534c8a89deac430fb144c6df6ca2b2ef975231c09e095c919a3b97c18"), looks := false }, kinds := [], alts := [], laidByText := true, laidKinds := [.data], laidTests := true, laidLooks := .later }
def PermOnceUptoCardSaid : Prop := Claim7.holds Tryd.pinned (.plain (OpenSpec.upto permOnceSpec)) permOnceUptoCard

/-- THE SECOND FORM's CARD OF 'dioramalaw06.PermAlone'. -/
def permAloneUptoCard : Claim7 := { stood := { row := permAloneUptoRow, standIns := [], harness := (true, "cf7b94a534c8a89deac430fb144c6df6ca2b2ef975231c09e095c919a3b97c18"), looks := false }, kinds := [], alts := [], laidByText := true, laidKinds := [.data], laidTests := true, laidLooks := .later }
def PermAloneUptoCardSaid : Prop := Claim7.holds Tryd.pinned (.plain (OpenSpec.upto permAloneSpec)) permAloneUptoCard

/-- THE SECOND FORM's CARD OF 'dioramalaw05.DrawWords'. -/
def drawWordsUptoCard : Claim7 := { stood := { row := drawWordsUptoRow, standIns := [], harness := (true, "cf7b94a534c8a89deac430fb144c6df6ca2b2ef975231c09e095c919a3b97c18"), looks := false }, kinds := [], alts := [], laidByText := true, laidKinds := [.data, .data], laidTests := true, laidLooks := .later }
def DrawWordsUptoCardSaid : Prop := Claim7.holds Tryd.pinned (.plain (OpenSpec.upto drawWordsSpec)) drawWordsUptoCard

/-- THE SECOND FORM's CARD OF 'dioramalaw11.LifeReaches'. -/
def lifeReachesUptoCard : Claim7 := { stood := { row := lifeReachesUptoRow, standIns := [], harness := (true, "cf7b94a534c8a89deac430fb144c6df6ca2b2ef975231c09e095c919a3b97c18"), looks := false }, kinds := [], alts := [], laidByText := true, laidKinds := [.data], laidTests := true, laidLooks := .later }
def LifeReachesUptoCardSaid : Prop := Claim7.holds Tryd.pinned (.plain (OpenSpec.upto lifeReachesSpec)) lifeReachesUptoCard

/-- THE SECOND FORM's CARD OF 'dioramalaw11.LifeUnion'. -/
def lifeUnionUptoCard : Claim7 := { stood := { row := lifeUnionUptoRow, standIns := [], harness := (true, "cf7b94a534c8a89deac430fb144c6df6ca2b2ef975231c09e095c919a3b97c18"), looks := false }, kinds := [], alts := [], laidByText := true, laidKinds := [.data], laidTests := true, laidLooks := .later }
def LifeUnionUptoCardSaid : Prop := Claim7.holds Tryd.pinned (.plain (OpenSpec.upto lifeUnionSpec)) lifeUnionUptoCard

/-- THE SECOND FORM's CARD OF 'dioramalaw11.LifeFewest'. -/
def lifeFewestUptoCard : Claim7 := { stood := { row := lifeFewestUptoRow, standIns := [], harness := (true, "cf7b94a534c8a89deac430fb144c6df6ca2b2ef975231c09e095c919a3b97c18"), looks := false }, kinds := [], alts := [], laidByText := true, laidKinds := [.data], laidTests := true, laidLooks := .later }
def LifeFewestUptoCardSaid : Prop := Claim7.holds Tryd.pinned (.plain (OpenSpec.upto lifeFewestSpec)) lifeFewestUptoCard
end Rows
end Go.Proofs.YtiajlglnefiemaaDoor
