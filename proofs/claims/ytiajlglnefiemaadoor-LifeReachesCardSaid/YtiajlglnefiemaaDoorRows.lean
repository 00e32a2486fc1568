/-
  NARROWER THAN 'FOR EVERY INPUT', by the rows' own cells (each row's printed sentence says how): PermAll: laid · PermDraws: laid · PermSizes: laid · PermPlaces: laid · PermOnce: laid · PermAlone: laid · DrawWords: laid · LifeReaches: laid · LifeUnion: laid · LifeFewest: laid.
  DERIVED. THE GIVEN ROWS OF THIS SEAT. 10 by the template 'for every input the law returns true; each argument reads behind the call as it read before'; 0 by the template 'total and deterministic' (their statements: YtiajlglnefiemaaDoorTotals.lean).
  GIVEN WITH THE SEED: the statements are not yours to turn. If you find one false, say at which input.
  Laid BY PROGRAM, IN A SANDBOX (cutbox-rows.mjs): the forced cells as the released guide's own fill.sh prints them over the translation b35c8daa72641688… (all of the seat's roots in one cut). By AI agents, Wed Nov 11 2026. No macro, syntax, notation, axiom, sorry.
-/
import Derived.Test.YtiajlglnefiemaaDoorChecked
import GoSem.Claim
import GoSem.ClaimJoined
import GoSem.ClaimMapViews
import Derived.JoinedTies
import Derived.KernelRfl
namespace Go.Proofs.YtiajlglnefiemaaDoor
/- THE CELL 'sum', in the pinned program and in every row, IS THE sha256 OF THE DUMP (.gsa) THAT YtiajlglnefiemaaDoorProg.lean LOADS. Nothing in Lean hashes anything: it is a label: what it is worth is what the hold of that sum in a sandbox is worth. -/
noncomputable def Tryd.pinned : Pinned := { name := "ytiajlglnefiemaadoor", sum := "b35c8daa726416881af70a8b938895b825a6ffae6998497120bd1a7b15673c73", checked := Tryd.checked }
namespace Rows
def none {H : Type} : Left H := { results := [], args := [] }

/- WHAT THE LISTED PACKAGE-LEVEL VARIABLES READ AS WHEN THE CALL BEGINS. Each datum BY PROGRAM (the guide's laid-datum.mjs) off the statement by which the dump's own 'gosem.cut.vars' lays the variable. In a bare row this is a premise. The card (YtiajlglnefiemaaDoorCards.lean) ties it to the program's text. -/
def laid_diorama_dioramaref02_constants {H : Type} : DataW H := .agg [.lit (.int .u32 1116352408), .lit (.int .u32 1899447441), .lit (.int .u32 3049323471), .lit (.int .u32 3921009573), .lit (.int .u32 961987163), .lit (.int .u32 1508970993), .lit (.int .u32 2453635748), .lit (.int .u32 2870763221), .lit (.int .u32 3624381080), .lit (.int .u32 310598401), .lit (.int .u32 607225278), .lit (.int .u32 1426881987), .lit (.int .u32 1925078388), .lit (.int .u32 2162078206), .lit (.int .u32 2614888103), .lit (.int .u32 3248222580), .lit (.int .u32 3835390401), .lit (.int .u32 4022224774), .lit (.int .u32 264347078), .lit (.int .u32 604807628), .lit (.int .u32 770255983), .lit (.int .u32 1249150122), .lit (.int .u32 1555081692), .lit (.int .u32 1996064986), .lit (.int .u32 2554220882), .lit (.int .u32 2821834349), .lit (.int .u32 2952996808), .lit (.int .u32 3210313671), .lit (.int .u32 3336571891), .lit (.int .u32 3584528711), .lit (.int .u32 113926993), .lit (.int .u32 338241895), .lit (.int .u32 666307205), .lit (.int .u32 773529912), .lit (.int .u32 1294757372), .lit (.int .u32 1396182291), .lit (.int .u32 1695183700), .lit (.int .u32 1986661051), .lit (.int .u32 2177026350), .lit (.int .u32 2456956037), .lit (.int .u32 2730485921), .lit (.int .u32 2820302411), .lit (.int .u32 3259730800), .lit (.int .u32 3345764771), .lit (.int .u32 3516065817), .lit (.int .u32 3600352804), .lit (.int .u32 4094571909), .lit (.int .u32 275423344), .lit (.int .u32 430227734), .lit (.int .u32 506948616), .lit (.int .u32 659060556), .lit (.int .u32 883997877), .lit (.int .u32 958139571), .lit (.int .u32 1322822218), .lit (.int .u32 1537002063), .lit (.int .u32 1747873779), .lit (.int .u32 1955562222), .lit (.int .u32 2024104815), .lit (.int .u32 2227730452), .lit (.int .u32 2361852424), .lit (.int .u32 2428436474), .lit (.int .u32 2756734187), .lit (.int .u32 3204031479), .lit (.int .u32 3329325298)]
def laid_diorama_hash_constants {H : Type} : DataW H := .agg [.lit (.int .u32 1116352408), .lit (.int .u32 1899447441), .lit (.int .u32 3049323471), .lit (.int .u32 3921009573), .lit (.int .u32 961987163), .lit (.int .u32 1508970993), .lit (.int .u32 2453635748), .lit (.int .u32 2870763221), .lit (.int .u32 3624381080), .lit (.int .u32 310598401), .lit (.int .u32 607225278), .lit (.int .u32 1426881987), .lit (.int .u32 1925078388), .lit (.int .u32 2162078206), .lit (.int .u32 2614888103), .lit (.int .u32 3248222580), .lit (.int .u32 3835390401), .lit (.int .u32 4022224774), .lit (.int .u32 264347078), .lit (.int .u32 604807628), .lit (.int .u32 770255983), .lit (.int .u32 1249150122), .lit (.int .u32 1555081692), .lit (.int .u32 1996064986), .lit (.int .u32 2554220882), .lit (.int .u32 2821834349), .lit (.int .u32 2952996808), .lit (.int .u32 3210313671), .lit (.int .u32 3336571891), .lit (.int .u32 3584528711), .lit (.int .u32 113926993), .lit (.int .u32 338241895), .lit (.int .u32 666307205), .lit (.int .u32 773529912), .lit (.int .u32 1294757372), .lit (.int .u32 1396182291), .lit (.int .u32 1695183700), .lit (.int .u32 1986661051), .lit (.int .u32 2177026350), .lit (.int .u32 2456956037), .lit (.int .u32 2730485921), .lit (.int .u32 2820302411), .lit (.int .u32 3259730800), .lit (.int .u32 3345764771), .lit (.int .u32 3516065817), .lit (.int .u32 3600352804), .lit (.int .u32 4094571909), .lit (.int .u32 275423344), .lit (.int .u32 430227734), .lit (.int .u32 506948616), .lit (.int .u32 659060556), .lit (.int .u32 883997877), .lit (.int .u32 958139571), .lit (.int .u32 1322822218), .lit (.int .u32 1537002063), .lit (.int .u32 1747873779), .lit (.int .u32 1955562222), .lit (.int .u32 2024104815), .lit (.int .u32 2227730452), .lit (.int .u32 2361852424), .lit (.int .u32 2428436474), .lit (.int .u32 2756734187), .lit (.int .u32 3204031479), .lit (.int .u32 3329325298)]

/-- 'dioramalaw06.PermAll': WHATEVER THE INPUT: true; the input reads as it did. -/
def permAllSpec : ChangeSpec := { name := "permAll", fn := fun _ => fun
  | [d1, d2, d3] => { results := [.lit (.bool true)], args := [d1, d2, d3] }
  | _ => none }
def permAllRow : OpenClaim := { program := "ytiajlglnefiemaadoor", sum := "b35c8daa726416881af70a8b938895b825a6ffae6998497120bd1a7b15673c73", func := "diorama/dioramalaw06.PermAll", spec := "permAll", unfollowed := true, recurses := true, named := ["diorama/hash.constants", "diorama/dioramaref02.constants"], apart := false, laid := [("diorama/dioramaref02.constants", laid_diorama_dioramaref02_constants), ("diorama/hash.constants", laid_diorama_hash_constants)] }
def PermAllSaid : Prop := permAllRow.holds Tryd.pinned (OpenSpec.ofChange permAllSpec)

/-- ITS FALSE NEIGHBOUR: 'it returns false'. Refute it at one input. -/
def permAllWrong : ChangeSpec := { name := "permAll", fn := fun _ => fun
  | [d1, d2, d3] => { results := [.lit (.bool false)], args := [d1, d2, d3] }
  | _ => none }
def PermAllWrongFalsely : Prop := permAllRow.holds Tryd.pinned (OpenSpec.ofChange permAllWrong)

/-- 'dioramalaw06.PermDraws': WHATEVER THE INPUT: true; the input reads as it did. -/
def permDrawsSpec : ChangeSpec := { name := "permDraws", fn := fun _ => fun
  | [d1, d2] => { results := [.lit (.bool true)], args := [d1, d2] }
  | _ => none }
def permDrawsRow : OpenClaim := { program := "ytiajlglnefiemaadoor", sum := "b35c8daa726416881af70a8b938895b825a6ffae6998497120bd1a7b15673c73", func := "diorama/dioramalaw06.PermDraws", spec := "permDraws", unfollowed := true, recurses := true, named := ["diorama/hash.constants"], apart := false, laid := [("diorama/hash.constants", laid_diorama_hash_constants)] }
def PermDrawsSaid : Prop := permDrawsRow.holds Tryd.pinned (OpenSpec.ofChange permDrawsSpec)

/-- ITS FALSE NEIGHBOUR: 'it returns false'. Refute it at one input. -/
def permDrawsWrong : ChangeSpec := { name := "permDraws", fn := fun _ => fun
  | [d1, d2] => { results := [.lit (.bool false)], args := [d1, d2] }
  | _ => none }
def PermDrawsWrongFalsely : Prop := permDrawsRow.holds Tryd.pinned (OpenSpec.ofChange permDrawsWrong)

/-- 'dioramalaw06.PermSizes': WHATEVER THE INPUT: true; the input reads as it did. -/
def permSizesSpec : ChangeSpec := { name := "permSizes", fn := fun _ => fun
  | [d1, d2, d3, d4] => { results := [.lit (.bool true)], args := [d1, d2, d3, d4] }
  | _ => none }
def permSizesRow : OpenClaim := { program := "ytiajlglnefiemaadoor", sum := "b35c8daa726416881af70a8b938895b825a6ffae6998497120bd1a7b15673c73", func := "diorama/dioramalaw06.PermSizes", spec := "permSizes", unfollowed := true, recurses := true, named := ["diorama/hash.constants"], apart := false, laid := [("diorama/hash.constants", laid_diorama_hash_constants)] }
def PermSizesSaid : Prop := permSizesRow.holds Tryd.pinned (OpenSpec.ofChange permSizesSpec)

/-- ITS FALSE NEIGHBOUR: 'it returns false'. Refute it at one input. -/
def permSizesWrong : ChangeSpec := { name := "permSizes", fn := fun _ => fun
  | [d1, d2, d3, d4] => { results := [.lit (.bool false)], args := [d1, d2, d3, d4] }
  | _ => none }
def PermSizesWrongFalsely : Prop := permSizesRow.holds Tryd.pinned (OpenSpec.ofChange permSizesWrong)

/-- 'dioramalaw06.PermPlaces': WHATEVER THE INPUT: true; the input reads as it did. -/
def permPlacesSpec : ChangeSpec := { name := "permPlaces", fn := fun _ => fun
  | [d1, d2, d3, d4] => { results := [.lit (.bool true)], args := [d1, d2, d3, d4] }
  | _ => none }
def permPlacesRow : OpenClaim := { program := "ytiajlglnefiemaadoor", sum := "b35c8daa726416881af70a8b938895b825a6ffae6998497120bd1a7b15673c73", func := "diorama/dioramalaw06.PermPlaces", spec := "permPlaces", unfollowed := true, recurses := true, named := ["diorama/hash.constants", "diorama/dioramaref02.constants"], apart := false, laid := [("diorama/dioramaref02.constants", laid_diorama_dioramaref02_constants), ("diorama/hash.constants", laid_diorama_hash_constants)] }
def PermPlacesSaid : Prop := permPlacesRow.holds Tryd.pinned (OpenSpec.ofChange permPlacesSpec)

/-- ITS FALSE NEIGHBOUR: 'it returns false'. Refute it at one input. -/
def permPlacesWrong : ChangeSpec := { name := "permPlaces", fn := fun _ => fun
  | [d1, d2, d3, d4] => { results := [.lit (.bool false)], args := [d1, d2, d3, d4] }
  | _ => none }
def PermPlacesWrongFalsely : Prop := permPlacesRow.holds Tryd.pinned (OpenSpec.ofChange permPlacesWrong)

/-- 'dioramalaw06.PermOnce': WHATEVER THE INPUT: true; the input reads as it did. -/
def permOnceSpec : ChangeSpec := { name := "permOnce", fn := fun _ => fun
  | [d1, d2, d3] => { results := [.lit (.bool true)], args := [d1, d2, d3] }
  | _ => none }
def permOnceRow : OpenClaim := { program := "ytiajlglnefiemaadoor", sum := "b35c8daa726416881af70a8b938895b825a6ffae6998497120bd1a7b15673c73", func := "diorama/dioramalaw06.PermOnce", spec := "permOnce", unfollowed := true, recurses := true, named := ["diorama/hash.constants"], apart := false, laid := [("diorama/hash.constants", laid_diorama_hash_constants)] }
def PermOnceSaid : Prop := permOnceRow.holds Tryd.pinned (OpenSpec.ofChange permOnceSpec)

/-- ITS FALSE NEIGHBOUR: 'it returns false'. Refute it at one input. -/
def permOnceWrong : ChangeSpec := { name := "permOnce", fn := fun _ => fun
  | [d1, d2, d3] => { results := [.lit (.bool false)], args := [d1, d2, d3] }
  | _ => none }
def PermOnceWrongFalsely : Prop := permOnceRow.holds Tryd.pinned (OpenSpec.ofChange permOnceWrong)

/-- 'dioramalaw06.PermAlone': WHATEVER THE INPUT: true; the input reads as it did. -/
def permAloneSpec : ChangeSpec := { name := "permAlone", fn := fun _ => fun
  | [d1, d2, d3, d4, d5] => { results := [.lit (.bool true)], args := [d1, d2, d3, d4, d5] }
  | _ => none }
def permAloneRow : OpenClaim := { program := "ytiajlglnefiemaadoor", sum := "b35c8daa726416881af70a8b938895b825a6ffae6998497120bd1a7b15673c73", func := "diorama/dioramalaw06.PermAlone", spec := "permAlone", unfollowed := true, recurses := true, named := ["diorama/hash.constants"], apart := false, laid := [("diorama/hash.constants", laid_diorama_hash_constants)] }
def PermAloneSaid : Prop := permAloneRow.holds Tryd.pinned (OpenSpec.ofChange permAloneSpec)

/-- ITS FALSE NEIGHBOUR: 'it returns false'. Refute it at one input. -/
def permAloneWrong : ChangeSpec := { name := "permAlone", fn := fun _ => fun
  | [d1, d2, d3, d4, d5] => { results := [.lit (.bool false)], args := [d1, d2, d3, d4, d5] }
  | _ => none }
def PermAloneWrongFalsely : Prop := permAloneRow.holds Tryd.pinned (OpenSpec.ofChange permAloneWrong)

/-- 'dioramalaw05.DrawWords': WHATEVER THE INPUT: true; the input reads as it did. -/
def drawWordsSpec : ChangeSpec := { name := "drawWords", fn := fun _ => fun
  | [d1, d2, d3] => { results := [.lit (.bool true)], args := [d1, d2, d3] }
  | _ => none }
def drawWordsRow : OpenClaim := { program := "ytiajlglnefiemaadoor", sum := "b35c8daa726416881af70a8b938895b825a6ffae6998497120bd1a7b15673c73", func := "diorama/dioramalaw05.DrawWords", spec := "drawWords", unfollowed := true, recurses := true, named := ["diorama/hash.constants", "diorama/dioramaref02.constants"], apart := false, laid := [("diorama/dioramaref02.constants", laid_diorama_dioramaref02_constants), ("diorama/hash.constants", laid_diorama_hash_constants)] }
def DrawWordsSaid : Prop := drawWordsRow.holds Tryd.pinned (OpenSpec.ofChange drawWordsSpec)

/-- ITS FALSE NEIGHBOUR: 'it returns false'. Refute it at one input. -/
def drawWordsWrong : ChangeSpec := { name := "drawWords", fn := fun _ => fun
  | [d1, d2, d3] => { results := [.lit (.bool false)], args := [d1, d2, d3] }
  | _ => none }
def DrawWordsWrongFalsely : Prop := drawWordsRow.holds Tryd.pinned (OpenSpec.ofChange drawWordsWrong)

/-- 'dioramalaw11.LifeReaches': WHATEVER THE INPUT: true; the input reads as it did. -/
def lifeReachesSpec : ChangeSpec := { name := "lifeReaches", fn := fun _ => fun
  | [d1, d2, d3, d4, d5, d6, d7] => { results := [.lit (.bool true)], args := [d1, d2, d3, d4, d5, d6, d7] }
  | _ => none }
def lifeReachesRow : OpenClaim := { program := "ytiajlglnefiemaadoor", sum := "b35c8daa726416881af70a8b938895b825a6ffae6998497120bd1a7b15673c73", func := "diorama/dioramalaw11.LifeReaches", spec := "lifeReaches", unfollowed := true, recurses := true, named := ["diorama/hash.constants"], apart := false, laid := [("diorama/hash.constants", laid_diorama_hash_constants)] }
def LifeReachesSaid : Prop := lifeReachesRow.holds Tryd.pinned (OpenSpec.ofChange lifeReachesSpec)

/-- ITS FALSE NEIGHBOUR: 'it returns false'. Refute it at one input. -/
def lifeReachesWrong : ChangeSpec := { name := "lifeReaches", fn := fun _ => fun
  | [d1, d2, d3, d4, d5, d6, d7] => { results := [.lit (.bool false)], args := [d1, d2, d3, d4, d5, d6, d7] }
  | _ => none }
def LifeReachesWrongFalsely : Prop := lifeReachesRow.holds Tryd.pinned (OpenSpec.ofChange lifeReachesWrong)

/-- 'dioramalaw11.LifeUnion': WHATEVER THE INPUT: true; the input reads as it did. -/
def lifeUnionSpec : ChangeSpec := { name := "lifeUnion", fn := fun _ => fun
  | [d1, d2, d3] => { results := [.lit (.bool true)], args := [d1, d2, d3] }
  | _ => none }
def lifeUnionRow : OpenClaim := { program := "ytiajlglnefiemaadoor", sum := "b35c8daa726416881af70a8b938895b825a6ffae6998497120bd1a7b15673c73", func := "diorama/dioramalaw11.LifeUnion", spec := "lifeUnion", unfollowed := true, recurses := true, named := ["diorama/hash.constants"], apart := false, laid := [("diorama/hash.constants", laid_diorama_hash_constants)] }
def LifeUnionSaid : Prop := lifeUnionRow.holds Tryd.pinned (OpenSpec.ofChange lifeUnionSpec)

/-- ITS FALSE NEIGHBOUR: 'it returns false'. Refute it at one input. -/
def lifeUnionWrong : ChangeSpec := { name := "lifeUnion", fn := fun _ => fun
  | [d1, d2, d3] => { results := [.lit (.bool false)], args := [d1, d2, d3] }
  | _ => none }
def LifeUnionWrongFalsely : Prop := lifeUnionRow.holds Tryd.pinned (OpenSpec.ofChange lifeUnionWrong)

/-- 'dioramalaw11.LifeFewest': WHATEVER THE INPUT: true; the input reads as it did. -/
def lifeFewestSpec : ChangeSpec := { name := "lifeFewest", fn := fun _ => fun
  | [d] => { results := [.lit (.bool true)], args := [d] }
  | _ => none }
def lifeFewestRow : OpenClaim := { program := "ytiajlglnefiemaadoor", sum := "b35c8daa726416881af70a8b938895b825a6ffae6998497120bd1a7b15673c73", func := "diorama/dioramalaw11.LifeFewest", spec := "lifeFewest", unfollowed := true, recurses := true, named := ["diorama/hash.constants"], apart := false, laid := [("diorama/hash.constants", laid_diorama_hash_constants)] }
def LifeFewestSaid : Prop := lifeFewestRow.holds Tryd.pinned (OpenSpec.ofChange lifeFewestSpec)

/-- ITS FALSE NEIGHBOUR: 'it returns false'. Refute it at one input. -/
def lifeFewestWrong : ChangeSpec := { name := "lifeFewest", fn := fun _ => fun
  | [d] => { results := [.lit (.bool false)], args := [d] }
  | _ => none }
def LifeFewestWrongFalsely : Prop := lifeFewestRow.holds Tryd.pinned (OpenSpec.ofChange lifeFewestWrong)

/- THE SECOND FORM. 'bulk': how many values and letters a reading holds, each counted each time it is reached (what is shared counts as often as it is met; a slice's spare places count too). A statement '..UptoSaid' is the law's where the arguments, and the package variables that the reading takes, are together of bulk at most 1048576: NARROWER than '..Said'. Prove '..Said' where nothing that the law and all that it calls make is longer than what came in: it says more and counts as full. Else prove '..UptoSaid'. A law counts once. -/
mutual
def uptoBulk {H : Type} : DataW H → Nat
  | .lit (.string bytes) => bytes.length + 1
  | .lit _ => 1
  | .nil => 1
  | .ptr d => uptoBulk d + 1
  | .slice elems spare => uptoBulkAll elems + uptoBulkAll spare + 1
  | .agg parts => uptoBulkAll parts + 1
  | .iface _ d => uptoBulk d + 1
  | .map entries => uptoBulkEntries entries + 1
  | .held _ => 1
def uptoBulkAll {H : Type} : List (DataW H) → Nat
  | [] => 0
  | d :: r => uptoBulk d + uptoBulkAll r
def uptoBulkEntries {H : Type} : List (Lit × DataW H) → Nat
  | [] => 0
  | x :: r => uptoBulkEntry x + uptoBulkEntries r
def uptoBulkEntry {H : Type} : Lit × DataW H → Nat
  | (.string bytes, d) => bytes.length + uptoBulk d + 1
  | (_, d) => uptoBulk d + 1
 end
def uptoSmall : (H : Type) → List (DataW H) → Bool := fun _ ds => decide (uptoBulkAll ds ≤ 1048576)
def OpenSpec.upto (s : _root_.Go.ChangeSpec) : _root_.Go.OpenSpec := { _root_.Go.OpenSpec.ofChange s with cond := some uptoSmall }

/-- 'dioramalaw06.PermAll', WHERE WHAT IT READS IS OF BULK AT MOST 1048576: true; the input reads as it did. -/
def permAllUptoRow : OpenClaim := { program := "ytiajlglnefiemaadoor", sum := "b35c8daa726416881af70a8b938895b825a6ffae6998497120bd1a7b15673c73", func := "diorama/dioramalaw06.PermAll", spec := "permAll", unfollowed := true, recurses := true, named := ["diorama/hash.constants", "diorama/dioramaref02.constants"], apart := false, laid := [("diorama/dioramaref02.constants", laid_diorama_dioramaref02_constants), ("diorama/hash.constants", laid_diorama_hash_constants)], narrowed := true }
def PermAllUptoSaid : Prop := permAllUptoRow.holds Tryd.pinned (OpenSpec.upto permAllSpec)

/-- 'dioramalaw06.PermDraws', WHERE WHAT IT READS IS OF BULK AT MOST 1048576: true; the input reads as it did. -/
def permDrawsUptoRow : OpenClaim := { program := "ytiajlglnefiemaadoor", sum := "b35c8daa726416881af70a8b938895b825a6ffae6998497120bd1a7b15673c73", func := "diorama/dioramalaw06.PermDraws", spec := "permDraws", unfollowed := true, recurses := true, named := ["diorama/hash.constants"], apart := false, laid := [("diorama/hash.constants", laid_diorama_hash_constants)], narrowed := true }
def PermDrawsUptoSaid : Prop := permDrawsUptoRow.holds Tryd.pinned (OpenSpec.upto permDrawsSpec)

/-- 'dioramalaw06.PermSizes', WHERE WHAT IT READS IS OF BULK AT MOST 1048576: true; the input reads as it did. -/
def permSizesUptoRow : OpenClaim := { program := "ytiajlglnefiemaadoor", sum := "b35c8daa726416881af70a8b938895b825a6ffae6998497120bd1a7b15673c73", func := "diorama/dioramalaw06.PermSizes", spec := "permSizes", unfollowed := true, recurses := true, named := ["diorama/hash.constants"], apart := false, laid := [("diorama/hash.constants", laid_diorama_hash_constants)], narrowed := true }
def PermSizesUptoSaid : Prop := permSizesUptoRow.holds Tryd.pinned (OpenSpec.upto permSizesSpec)

/-- 'dioramalaw06.PermPlaces', WHERE WHAT IT READS IS OF BULK AT MOST 1048576: true; the input reads as it did. -/
def permPlacesUptoRow : OpenClaim := { program := "ytiajlglnefiemaadoor", sum := "b35c8daa726416881af70a8b938895b825a6ffae6998497120bd1a7b15673c73", func := "diorama/dioramalaw06.PermPlaces", spec := "permPlaces", unfollowed := true, recurses := true, named := ["diorama/hash.constants", "diorama/dioramaref02.constants"], apart := false, laid := [("diorama/dioramaref02.constants", laid_diorama_dioramaref02_constants), ("diorama/hash.constants", laid_diorama_hash_constants)], narrowed := true }
def PermPlacesUptoSaid : Prop := permPlacesUptoRow.holds Tryd.pinned (OpenSpec.upto permPlacesSpec)

/-- 'dioramalaw06.PermOnce', WHERE WHAT IT READS IS OF BULK AT MOST 1048576: true; the input reads as it did. -/
def permOnceUptoRow : OpenClaim := { program := "ytiajlglnefiemaadoor", sum := "b35c8daa726416881af70a8b938895b825a6ffae6998497120bd1a7b15673c73", func := "diorama/dioramalaw06.PermOnce", spec := "permOnce", unfollowed := true, recurses := true, named := ["diorama/hash.constants"], apart := false, laid := [("diorama/hash.constants", laid_diorama_hash_constants)], narrowed := true }
def PermOnceUptoSaid : Prop := permOnceUptoRow.holds Tryd.pinned (OpenSpec.upto permOnceSpec)

/-- 'dioramalaw06.PermAlone', WHERE WHAT IT READS IS OF BULK AT MOST 1048576: true; the input reads as it did. -/
def permAloneUptoRow : OpenClaim := { program := "ytiajlglnefiemaadoor", sum := "b35c8daa726416881af70a8b938895b825a6ffae6998497120bd1a7b15673c73", func := "diorama/dioramalaw06.PermAlone", spec := "permAlone", unfollowed := true, recurses := true, named := ["diorama/hash.constants"], apart := false, laid := [("diorama/hash.constants", laid_diorama_hash_constants)], narrowed := true }
def PermAloneUptoSaid : Prop := permAloneUptoRow.holds Tryd.pinned (OpenSpec.upto permAloneSpec)

/-- 'dioramalaw05.DrawWords', WHERE WHAT IT READS IS OF BULK AT MOST 1048576: true; the input reads as it did. -/
def drawWordsUptoRow : OpenClaim := { program := "ytiajlglnefiemaadoor", sum := "b35c8daa726416881af70a8b938895b825a6ffae6998497120bd1a7b15673c73", func := "diorama/dioramalaw05.DrawWords", spec := "drawWords", unfollowed := true, recurses := true, named := ["diorama/hash.constants", "diorama/dioramaref02.constants"], apart := false, laid := [("diorama/dioramaref02.constants", laid_diorama_dioramaref02_constants), ("diorama/hash.constants", laid_diorama_hash_constants)], narrowed := true }
def DrawWordsUptoSaid : Prop := drawWordsUptoRow.holds Tryd.pinned (OpenSpec.upto drawWordsSpec)

/-- 'dioramalaw11.LifeReaches', WHERE WHAT IT READS IS OF BULK AT MOST 1048576: true; the input reads as it did. -/
def lifeReachesUptoRow : OpenClaim := { program := "ytiajlglnefiemaadoor", sum := "b35c8daa726416881af70a8b938895b825a6ffae6998497120bd1a7b15673c73", func := "diorama/dioramalaw11.LifeReaches", spec := "lifeReaches", unfollowed := true, recurses := true, named := ["diorama/hash.constants"], apart := false, laid := [("diorama/hash.constants", laid_diorama_hash_constants)], narrowed := true }
def LifeReachesUptoSaid : Prop := lifeReachesUptoRow.holds Tryd.pinned (OpenSpec.upto lifeReachesSpec)

/-- 'dioramalaw11.LifeUnion', WHERE WHAT IT READS IS OF BULK AT MOST 1048576: true; the input reads as it did. -/
def lifeUnionUptoRow : OpenClaim := { program := "ytiajlglnefiemaadoor", sum := "b35c8daa726416881af70a8b938895b825a6ffae6998497120bd1a7b15673c73", func := "diorama/dioramalaw11.LifeUnion", spec := "lifeUnion", unfollowed := true, recurses := true, named := ["diorama/hash.constants"], apart := false, laid := [("diorama/hash.constants", laid_diorama_hash_constants)], narrowed := true }
def LifeUnionUptoSaid : Prop := lifeUnionUptoRow.holds Tryd.pinned (OpenSpec.upto lifeUnionSpec)

/-- 'dioramalaw11.LifeFewest', WHERE WHAT IT READS IS OF BULK AT MOST 1048576: true; the input reads as it did. -/
def lifeFewestUptoRow : OpenClaim := { program := "ytiajlglnefiemaadoor", sum := "b35c8daa726416881af70a8b938895b825a6ffae6998497120bd1a7b15673c73", func := "diorama/dioramalaw11.LifeFewest", spec := "lifeFewest", unfollowed := true, recurses := true, named := ["diorama/hash.constants"], apart := false, laid := [("diorama/hash.constants", laid_diorama_hash_constants)], narrowed := true }
def LifeFewestUptoSaid : Prop := lifeFewestUptoRow.holds Tryd.pinned (OpenSpec.upto lifeFewestSpec)

end Rows
end Go.Proofs.YtiajlglnefiemaaDoor
