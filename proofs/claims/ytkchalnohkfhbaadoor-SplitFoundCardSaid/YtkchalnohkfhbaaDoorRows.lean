/-
  NARROWER THAN 'FOR EVERY INPUT', by the rows' own cells (each row's printed sentence says how): SplitSums: laid · SplitFound: laid · SplitHalves: laid · SplitMoved: laid.
  DERIVED. THE GIVEN ROWS OF THIS SEAT. 4 by the template 'for every input the law returns true; each argument reads behind the call as it read before'; 0 by the template 'total and deterministic' (their statements: YtkchalnohkfhbaaDoorTotals.lean).
  GIVEN WITH THE SEED: the statements are not yours to turn. If you find one false, say at which input.
  Laid BY PROGRAM, IN A SANDBOX (cutbox-rows.mjs): the forced cells as the released guide's own fill.sh prints them over the translation 86d7a8a38b5faa7c… (all of the seat's roots in one cut). By AI agents, Wed Nov 11 2026. No macro, syntax, notation, axiom, sorry.
-/
import Derived.Test.YtkchalnohkfhbaaDoorChecked
import GoSem.Claim
import GoSem.ClaimJoined
import GoSem.ClaimMapViews
import Derived.JoinedTies
import Derived.KernelRfl
namespace Go.Proofs.YtkchalnohkfhbaaDoor
/- THE CELL 'sum', in the pinned program and in every row, IS THE sha256 OF THE DUMP (.gsa) THAT YtkchalnohkfhbaaDoorProg.lean LOADS. Nothing in Lean hashes anything: it is a label: what it is worth is what the hold of that sum in a sandbox is worth. -/
noncomputable def Tryd.pinned : Pinned := { name := "ytkchalnohkfhbaadoor", sum := "86d7a8a38b5faa7c0b6cafd7ae48cc919ccab4bdb8d51ed9dd3bfde6a57d9193", checked := Tryd.checked }
namespace Rows
def none {H : Type} : Left H := { results := [], args := [] }

/- WHAT THE LISTED PACKAGE-LEVEL VARIABLES READ AS WHEN THE CALL BEGINS. Each datum BY PROGRAM (the guide's laid-datum.mjs) off the statement by which the dump's own 'gosem.cut.vars' lays the variable. In a bare row this is a premise. The card (YtkchalnohkfhbaaDoorCards.lean) ties it to the program's text. -/
def laid_diorama_hash_constants {H : Type} : DataW H := .agg [.lit (.int .u32 1116352408), .lit (.int .u32 1899447441), .lit (.int .u32 3049323471), .lit (.int .u32 3921009573), .lit (.int .u32 961987163), .lit (.int .u32 1508970993), .lit (.int .u32 2453635748), .lit (.int .u32 2870763221), .lit (.int .u32 3624381080), .lit (.int .u32 310598401), .lit (.int .u32 607225278), .lit (.int .u32 1426881987), .lit (.int .u32 1925078388), .lit (.int .u32 2162078206), .lit (.int .u32 2614888103), .lit (.int .u32 3248222580), .lit (.int .u32 3835390401), .lit (.int .u32 4022224774), .lit (.int .u32 264347078), .lit (.int .u32 604807628), .lit (.int .u32 770255983), .lit (.int .u32 1249150122), .lit (.int .u32 1555081692), .lit (.int .u32 1996064986), .lit (.int .u32 2554220882), .lit (.int .u32 2821834349), .lit (.int .u32 2952996808), .lit (.int .u32 3210313671), .lit (.int .u32 3336571891), .lit (.int .u32 3584528711), .lit (.int .u32 113926993), .lit (.int .u32 338241895), .lit (.int .u32 666307205), .lit (.int .u32 773529912), .lit (.int .u32 1294757372), .lit (.int .u32 1396182291), .lit (.int .u32 1695183700), .lit (.int .u32 1986661051), .lit (.int .u32 2177026350), .lit (.int .u32 2456956037), .lit (.int .u32 2730485921), .lit (.int .u32 2820302411), .lit (.int .u32 3259730800), .lit (.int .u32 3345764771), .lit (.int .u32 3516065817), .lit (.int .u32 3600352804), .lit (.int .u32 4094571909), .lit (.int .u32 275423344), .lit (.int .u32 430227734), .lit (.int .u32 506948616), .lit (.int .u32 659060556), .lit (.int .u32 883997877), .lit (.int .u32 958139571), .lit (.int .u32 1322822218), .lit (.int .u32 1537002063), .lit (.int .u32 1747873779), .lit (.int .u32 1955562222), .lit (.int .u32 2024104815), .lit (.int .u32 2227730452), .lit (.int .u32 2361852424), .lit (.int .u32 2428436474), .lit (.int .u32 2756734187), .lit (.int .u32 3204031479), .lit (.int .u32 3329325298)]

/-- 'dioramalaw07.SplitSums': WHATEVER THE INPUT: true; the input reads as it did. -/
def splitSumsSpec : ChangeSpec := { name := "splitSums", fn := fun _ => fun
  | [d1, d2] => { results := [.lit (.bool true)], args := [d1, d2] }
  | _ => none }
def splitSumsRow : OpenClaim := { program := "ytkchalnohkfhbaadoor", sum := "86d7a8a38b5faa7c0b6cafd7ae48cc919ccab4bdb8d51ed9dd3bfde6a57d9193", func := "diorama/dioramalaw07.SplitSums", spec := "splitSums", unfollowed := true, recurses := true, named := ["diorama/hash.constants"], apart := false, laid := [("diorama/hash.constants", laid_diorama_hash_constants)] }
def SplitSumsSaid : Prop := splitSumsRow.holds Tryd.pinned (OpenSpec.ofChange splitSumsSpec)

/-- ITS FALSE NEIGHBOUR: 'it returns false'. Refute it at one input. -/
def splitSumsWrong : ChangeSpec := { name := "splitSums", fn := fun _ => fun
  | [d1, d2] => { results := [.lit (.bool false)], args := [d1, d2] }
  | _ => none }
def SplitSumsWrongFalsely : Prop := splitSumsRow.holds Tryd.pinned (OpenSpec.ofChange splitSumsWrong)

/-- 'dioramalaw07.SplitFound': WHATEVER THE INPUT: true; the input reads as it did. -/
def splitFoundSpec : ChangeSpec := { name := "splitFound", fn := fun _ => fun
  | [d1, d2] => { results := [.lit (.bool true)], args := [d1, d2] }
  | _ => none }
def splitFoundRow : OpenClaim := { program := "ytkchalnohkfhbaadoor", sum := "86d7a8a38b5faa7c0b6cafd7ae48cc919ccab4bdb8d51ed9dd3bfde6a57d9193", func := "diorama/dioramalaw07.SplitFound", spec := "splitFound", unfollowed := true, recurses := true, named := ["diorama/hash.constants"], apart := false, laid := [("diorama/hash.constants", laid_diorama_hash_constants)] }
def SplitFoundSaid : Prop := splitFoundRow.holds Tryd.pinned (OpenSpec.ofChange splitFoundSpec)

/-- ITS FALSE NEIGHBOUR: 'it returns false'. Refute it at one input. -/
def splitFoundWrong : ChangeSpec := { name := "splitFound", fn := fun _ => fun
  | [d1, d2] => { results := [.lit (.bool false)], args := [d1, d2] }
  | _ => none }
def SplitFoundWrongFalsely : Prop := splitFoundRow.holds Tryd.pinned (OpenSpec.ofChange splitFoundWrong)

/-- 'dioramalaw07.SplitHalves': WHATEVER THE INPUT: true; the input reads as it did. -/
def splitHalvesSpec : ChangeSpec := { name := "splitHalves", fn := fun _ => fun
  | [d] => { results := [.lit (.bool true)], args := [d] }
  | _ => none }
def splitHalvesRow : OpenClaim := { program := "ytkchalnohkfhbaadoor", sum := "86d7a8a38b5faa7c0b6cafd7ae48cc919ccab4bdb8d51ed9dd3bfde6a57d9193", func := "diorama/dioramalaw07.SplitHalves", spec := "splitHalves", unfollowed := true, recurses := true, named := ["diorama/hash.constants"], apart := false, laid := [("diorama/hash.constants", laid_diorama_hash_constants)] }
def SplitHalvesSaid : Prop := splitHalvesRow.holds Tryd.pinned (OpenSpec.ofChange splitHalvesSpec)

/-- ITS FALSE NEIGHBOUR: 'it returns false'. Refute it at one input. -/
def splitHalvesWrong : ChangeSpec := { name := "splitHalves", fn := fun _ => fun
  | [d] => { results := [.lit (.bool false)], args := [d] }
  | _ => none }
def SplitHalvesWrongFalsely : Prop := splitHalvesRow.holds Tryd.pinned (OpenSpec.ofChange splitHalvesWrong)

/-- 'dioramalaw07.SplitMoved': WHATEVER THE INPUT: true; the input reads as it did. -/
def splitMovedSpec : ChangeSpec := { name := "splitMoved", fn := fun _ => fun
  | [d1, d2] => { results := [.lit (.bool true)], args := [d1, d2] }
  | _ => none }
def splitMovedRow : OpenClaim := { program := "ytkchalnohkfhbaadoor", sum := "86d7a8a38b5faa7c0b6cafd7ae48cc919ccab4bdb8d51ed9dd3bfde6a57d9193", func := "diorama/dioramalaw07.SplitMoved", spec := "splitMoved", unfollowed := true, recurses := true, named := ["diorama/hash.constants"], apart := false, laid := [("diorama/hash.constants", laid_diorama_hash_constants)] }
def SplitMovedSaid : Prop := splitMovedRow.holds Tryd.pinned (OpenSpec.ofChange splitMovedSpec)

/-- ITS FALSE NEIGHBOUR: 'it returns false'. Refute it at one input. -/
def splitMovedWrong : ChangeSpec := { name := "splitMoved", fn := fun _ => fun
  | [d1, d2] => { results := [.lit (.bool false)], args := [d1, d2] }
  | _ => none }
def SplitMovedWrongFalsely : Prop := splitMovedRow.holds Tryd.pinned (OpenSpec.ofChange splitMovedWrong)

/- THE SECOND FORM. 'bulk': how many values and letters a reading holds, each counted each time it is reached (what is shared counts as often as it is met; a slice's spare places count too). A statement '..UptoSaid' is the law's where the arguments, and the package variables that the reading takes, are together of bulk at most 1048576: NARROWER than '..Said'. Prove '..Said' where nothing that the law and all that it calls make is longer than what came in: it says more and counts as full. Else prove '..UptoSaid'. A law counts once. -/
mutual
def uptoBulk {H : Type} : DataW H → Nat
  | .lit (.string bytes) => bytes.length + 1
  | .lit _ => 1
  | .nil => 1
  | .ptr d => uptoBulk d + 1
  | .slice elems spare => uptoBulkAll elems + uptoBulkAll spare + 1
  | .agg parts => uptoBulkAll parts + 1
  | .iface _ d => uptoBulk d + 1
  | .map entries => uptoBulkEntries entries + 1
  | .held _ => 1
def uptoBulkAll {H : Type} : List (DataW H) → Nat
  | [] => 0
  | d :: r => uptoBulk d + uptoBulkAll r
def uptoBulkEntries {H : Type} : List (Lit × DataW H) → Nat
  | [] => 0
  | x :: r => uptoBulkEntry x + uptoBulkEntries r
def uptoBulkEntry {H : Type} : Lit × DataW H → Nat
  | (.string bytes, d) => bytes.length + uptoBulk d + 1
  | (_, d) => uptoBulk d + 1
 end
def uptoSmall : (H : Type) → List (DataW H) → Bool := fun _ ds => decide (uptoBulkAll ds ≤ 1048576)
def OpenSpec.upto (s : _root_.Go.ChangeSpec) : _root_.Go.OpenSpec := { _root_.Go.OpenSpec.ofChange s with cond := some uptoSmall }

/-- 'dioramalaw07.SplitSums', WHERE WHAT IT READS IS OF BULK AT MOST 1048576: true; the input reads as it did. -/
def splitSumsUptoRow : OpenClaim := { program := "ytkchalnohkfhbaadoor", sum := "86d7a8a38b5faa7c0b6cafd7ae48cc919ccab4bdb8d51ed9dd3bfde6a57d9193", func := "diorama/dioramalaw07.SplitSums", spec := "splitSums", unfollowed := true, recurses := true, named := ["diorama/hash.constants"], apart := false, laid := [("diorama/hash.constants", laid_diorama_hash_constants)], narrowed := true }
def SplitSumsUptoSaid : Prop := splitSumsUptoRow.holds Tryd.pinned (OpenSpec.upto splitSumsSpec)

/-- 'dioramalaw07.SplitFound', WHERE WHAT IT READS IS OF BULK AT MOST 1048576: true; the input reads as it did. -/
def splitFoundUptoRow : OpenClaim := { program := "ytkchalnohkfhbaadoor", sum := "86d7a8a38b5faa7c0b6cafd7ae48cc919ccab4bdb8d51ed9dd3bfde6a57d9193", func := "diorama/dioramalaw07.SplitFound", spec := "splitFound", unfollowed := true, recurses := true, named := ["diorama/hash.constants"], apart := false, laid := [("diorama/hash.constants", laid_diorama_hash_constants)], narrowed := true }
def SplitFoundUptoSaid : Prop := splitFoundUptoRow.holds Tryd.pinned (OpenSpec.upto splitFoundSpec)

/-- 'dioramalaw07.SplitHalves', WHERE WHAT IT READS IS OF BULK AT MOST 1048576: true; the input reads as it did. -/
def splitHalvesUptoRow : OpenClaim := { program := "ytkchalnohkfhbaadoor", sum := "86d7a8a38b5faa7c0b6cafd7ae48cc919ccab4bdb8d51ed9dd3bfde6a57d9193", func := "diorama/dioramalaw07.SplitHalves", spec := "splitHalves", unfollowed := true, recurses := true, named := ["diorama/hash.constants"], apart := false, laid := [("diorama/hash.constants", laid_diorama_hash_constants)], narrowed := true }
def SplitHalvesUptoSaid : Prop := splitHalvesUptoRow.holds Tryd.pinned (OpenSpec.upto splitHalvesSpec)

/-- 'dioramalaw07.SplitMoved', WHERE WHAT IT READS IS OF BULK AT MOST 1048576: true; the input reads as it did. -/
def splitMovedUptoRow : OpenClaim := { program := "ytkchalnohkfhbaadoor", sum := "86d7a8a38b5faa7c0b6cafd7ae48cc919ccab4bdb8d51ed9dd3bfde6a57d9193", func := "diorama/dioramalaw07.SplitMoved", spec := "splitMoved", unfollowed := true, recurses := true, named := ["diorama/hash.constants"], apart := false, laid := [("diorama/hash.constants", laid_diorama_hash_constants)], narrowed := true }
def SplitMovedUptoSaid : Prop := splitMovedUptoRow.holds Tryd.pinned (OpenSpec.upto splitMovedSpec)

end Rows
end Go.Proofs.YtkchalnohkfhbaaDoor
