/-
  NARROWER THAN 'FOR EVERY INPUT', by the rows' own cells (each row's printed sentence says how): ShowsTexts: loops, laid · ShowsBack: loops, laid · ShowsLeast: loops, laid · ShowsParts: loops, laid · ShowsBlocks: loops, laid.
  DERIVED. THE GIVEN ROWS OF THIS SEAT. 5 by the template 'for every input the law returns true; each argument reads behind the call as it read before'; 0 by the template 'total and deterministic' (their statements: YtobpnjnfpgcpaaaGreatDoorTotals.lean).
  GIVEN WITH THE SEED: the statements are not yours to turn. If you find one false, say at which input.
  Laid BY PROGRAM, IN A SANDBOX (cutbox-rows.mjs): the forced cells as the released guide's own fill.sh prints them over the translation 46cdaebb80a7b477… (all of the seat's roots in one cut). By AI agents, Wed Nov 11 2026. No macro, syntax, notation, axiom, sorry.
-/
import Derived.Test.YtobpnjnfpgcpaaaGreatDoorChecked
import GoSem.PinnedTables
import GoSem.Claim
import GoSem.ClaimJoined
import GoSem.ClaimMapViews
import Derived.JoinedTies
import Derived.KernelRfl
namespace Go.Proofs.YtobpnjnfpgcpaaaGreatDoor
/- THE CELL 'sum', in the pinned program and in every row, IS THE sha256 OF THE DUMP (.gsa) THAT YtobpnjnfpgcpaaaGreatDoorProg.lean LOADS. Nothing in Lean hashes anything: it is a label: what it is worth is what the hold of that sum in a sandbox is worth. -/
noncomputable def Tryz.pinned : Pinned := { name := "ytobpnjnfpgcpaaagreatdoor", sum := "46cdaebb80a7b4772bf97168c9142cd8283d115b40bd6c16f5dd869ba3e58cd5", checked := Tryz.checked }
namespace Rows
def none {H : Type} : Left H := { results := [], args := [] }

/- WHAT THE LISTED PACKAGE-LEVEL VARIABLES READ AS WHEN THE CALL BEGINS. Each datum BY PROGRAM (the guide's laid-datum.mjs) off the statement by which the dump's own 'gosem.cut.vars' lays the variable. In a bare row this is a premise. The card (YtobpnjnfpgcpaaaGreatDoorCards.lean) ties it to the program's text. -/
def laid_unicode_utf8_acceptRanges {H : Type} : DataW H := .agg [.agg [.lit (.int .u8 128), .lit (.int .u8 191)], .agg [.lit (.int .u8 160), .lit (.int .u8 191)], .agg [.lit (.int .u8 128), .lit (.int .u8 159)], .agg [.lit (.int .u8 144), .lit (.int .u8 191)], .agg [.lit (.int .u8 128), .lit (.int .u8 143)], .agg [.lit (.int .u8 0), .lit (.int .u8 0)], .agg [.lit (.int .u8 0), .lit (.int .u8 0)], .agg [.lit (.int .u8 0), .lit (.int .u8 0)], .agg [.lit (.int .u8 0), .lit (.int .u8 0)], .agg [.lit (.int .u8 0), .lit (.int .u8 0)], .agg [.lit (.int .u8 0), .lit (.int .u8 0)], .agg [.lit (.int .u8 0), .lit (.int .u8 0)], .agg [.lit (.int .u8 0), .lit (.int .u8 0)], .agg [.lit (.int .u8 0), .lit (.int .u8 0)], .agg [.lit (.int .u8 0), .lit (.int .u8 0)], .agg [.lit (.int .u8 0), .lit (.int .u8 0)]]
/-- One of Go's own tables, pinned by name: the form's constant. -/
def laid_unicode_utf8_first : DataW Unit := Go.Pinned.utf8First

/-- 'reckonerlaw10.ShowsTexts': WHATEVER THE INPUT: true; the input reads as it did. -/
def showsTextsSpec : ChangeSpec := { name := "showsTexts", fn := fun _ => fun
  | [d] => { results := [.lit (.bool true)], args := [d] }
  | _ => none }
def showsTextsRow : OpenClaim := { program := "ytobpnjnfpgcpaaagreatdoor", sum := "46cdaebb80a7b4772bf97168c9142cd8283d115b40bd6c16f5dd869ba3e58cd5", func := "reckoner/reckonerlaw10.ShowsTexts", spec := "showsTexts", inPlace := ["internal/bytealg.IndexByteString", "internal/bytealg.IndexString", "internal/abi.NoEscape", "internal/bytealg.MakeNoZero"], unfollowed := true, recurses := true, named := ["unicode/utf8.first", "unicode/utf8.acceptRanges", "internal/bytealg.MaxLen"], loops := true, apart := false, laid := [("unicode/utf8.acceptRanges", laid_unicode_utf8_acceptRanges), ("unicode/utf8.first", laid_unicode_utf8_first)] }
def ShowsTextsSaid : Prop := showsTextsRow.holds Tryz.pinned (OpenSpec.ofChange showsTextsSpec)

/-- ITS FALSE NEIGHBOUR: 'it returns false'. Refute it at one input. -/
def showsTextsWrong : ChangeSpec := { name := "showsTexts", fn := fun _ => fun
  | [d] => { results := [.lit (.bool false)], args := [d] }
  | _ => none }
def ShowsTextsWrongFalsely : Prop := showsTextsRow.holds Tryz.pinned (OpenSpec.ofChange showsTextsWrong)

/-- 'reckonerlaw10.ShowsBack': WHATEVER THE INPUT: true; the input reads as it did. -/
def showsBackSpec : ChangeSpec := { name := "showsBack", fn := fun _ => fun
  | [d1, d2] => { results := [.lit (.bool true)], args := [d1, d2] }
  | _ => none }
def showsBackRow : OpenClaim := { program := "ytobpnjnfpgcpaaagreatdoor", sum := "46cdaebb80a7b4772bf97168c9142cd8283d115b40bd6c16f5dd869ba3e58cd5", func := "reckoner/reckonerlaw10.ShowsBack", spec := "showsBack", inPlace := ["internal/bytealg.IndexByteString", "internal/bytealg.IndexString", "internal/abi.NoEscape", "internal/bytealg.MakeNoZero"], unfollowed := true, recurses := true, named := ["unicode/utf8.first", "unicode/utf8.acceptRanges", "internal/bytealg.MaxLen"], loops := true, apart := false, laid := [("unicode/utf8.acceptRanges", laid_unicode_utf8_acceptRanges), ("unicode/utf8.first", laid_unicode_utf8_first)] }
def ShowsBackSaid : Prop := showsBackRow.holds Tryz.pinned (OpenSpec.ofChange showsBackSpec)

/-- ITS FALSE NEIGHBOUR: 'it returns false'. Refute it at one input. -/
def showsBackWrong : ChangeSpec := { name := "showsBack", fn := fun _ => fun
  | [d1, d2] => { results := [.lit (.bool false)], args := [d1, d2] }
  | _ => none }
def ShowsBackWrongFalsely : Prop := showsBackRow.holds Tryz.pinned (OpenSpec.ofChange showsBackWrong)

/-- 'reckonerlaw10.ShowsLeast': WHATEVER THE INPUT: true; the input reads as it did. -/
def showsLeastSpec : ChangeSpec := { name := "showsLeast", fn := fun _ => fun
  | [d] => { results := [.lit (.bool true)], args := [d] }
  | _ => none }
def showsLeastRow : OpenClaim := { program := "ytobpnjnfpgcpaaagreatdoor", sum := "46cdaebb80a7b4772bf97168c9142cd8283d115b40bd6c16f5dd869ba3e58cd5", func := "reckoner/reckonerlaw10.ShowsLeast", spec := "showsLeast", inPlace := ["internal/bytealg.IndexByteString", "internal/bytealg.IndexString", "internal/abi.NoEscape", "internal/bytealg.MakeNoZero"], unfollowed := true, recurses := true, named := ["unicode/utf8.first", "unicode/utf8.acceptRanges", "internal/bytealg.MaxLen"], loops := true, apart := false, laid := [("unicode/utf8.acceptRanges", laid_unicode_utf8_acceptRanges), ("unicode/utf8.first", laid_unicode_utf8_first)] }
def ShowsLeastSaid : Prop := showsLeastRow.holds Tryz.pinned (OpenSpec.ofChange showsLeastSpec)

/-- ITS FALSE NEIGHBOUR: 'it returns false'. Refute it at one input. -/
def showsLeastWrong : ChangeSpec := { name := "showsLeast", fn := fun _ => fun
  | [d] => { results := [.lit (.bool false)], args := [d] }
  | _ => none }
def ShowsLeastWrongFalsely : Prop := showsLeastRow.holds Tryz.pinned (OpenSpec.ofChange showsLeastWrong)

/-- 'reckonerlaw10.ShowsParts': WHATEVER THE INPUT: true; the input reads as it did. -/
def showsPartsSpec : ChangeSpec := { name := "showsParts", fn := fun _ => fun
  | [d] => { results := [.lit (.bool true)], args := [d] }
  | _ => none }
def showsPartsRow : OpenClaim := { program := "ytobpnjnfpgcpaaagreatdoor", sum := "46cdaebb80a7b4772bf97168c9142cd8283d115b40bd6c16f5dd869ba3e58cd5", func := "reckoner/reckonerlaw10.ShowsParts", spec := "showsParts", inPlace := ["internal/bytealg.IndexByteString", "internal/bytealg.IndexString", "internal/abi.NoEscape", "internal/bytealg.MakeNoZero"], unfollowed := true, recurses := true, named := ["unicode/utf8.first", "unicode/utf8.acceptRanges", "internal/bytealg.MaxLen"], loops := true, apart := false, laid := [("unicode/utf8.acceptRanges", laid_unicode_utf8_acceptRanges), ("unicode/utf8.first", laid_unicode_utf8_first)] }
def ShowsPartsSaid : Prop := showsPartsRow.holds Tryz.pinned (OpenSpec.ofChange showsPartsSpec)

/-- ITS FALSE NEIGHBOUR: 'it returns false'. Refute it at one input. -/
def showsPartsWrong : ChangeSpec := { name := "showsParts", fn := fun _ => fun
  | [d] => { results := [.lit (.bool false)], args := [d] }
  | _ => none }
def ShowsPartsWrongFalsely : Prop := showsPartsRow.holds Tryz.pinned (OpenSpec.ofChange showsPartsWrong)

/-- 'reckonerlaw10.ShowsBlocks': WHATEVER THE INPUT: true; the input reads as it did. -/
def showsBlocksSpec : ChangeSpec := { name := "showsBlocks", fn := fun _ => fun
  | [d] => { results := [.lit (.bool true)], args := [d] }
  | _ => none }
def showsBlocksRow : OpenClaim := { program := "ytobpnjnfpgcpaaagreatdoor", sum := "46cdaebb80a7b4772bf97168c9142cd8283d115b40bd6c16f5dd869ba3e58cd5", func := "reckoner/reckonerlaw10.ShowsBlocks", spec := "showsBlocks", inPlace := ["internal/bytealg.IndexByteString", "internal/bytealg.IndexString", "internal/abi.NoEscape", "internal/bytealg.MakeNoZero"], unfollowed := true, recurses := true, named := ["unicode/utf8.first", "unicode/utf8.acceptRanges", "internal/bytealg.MaxLen"], loops := true, apart := false, laid := [("unicode/utf8.acceptRanges", laid_unicode_utf8_acceptRanges), ("unicode/utf8.first", laid_unicode_utf8_first)] }
def ShowsBlocksSaid : Prop := showsBlocksRow.holds Tryz.pinned (OpenSpec.ofChange showsBlocksSpec)

/-- ITS FALSE NEIGHBOUR: 'it returns false'. Refute it at one input. -/
def showsBlocksWrong : ChangeSpec := { name := "showsBlocks", fn := fun _ => fun
  | [d] => { results := [.lit (.bool false)], args := [d] }
  | _ => none }
def ShowsBlocksWrongFalsely : Prop := showsBlocksRow.holds Tryz.pinned (OpenSpec.ofChange showsBlocksWrong)

/- THE SECOND FORM. 'bulk': how many values and letters a reading holds, each counted each time it is reached (what is shared counts as often as it is met; a slice's spare places count too). A statement '..UptoSaid' is the law's where the arguments, and the package variables that the reading takes, are together of bulk at most 1048576: NARROWER than '..Said'. Prove '..Said' where nothing that the law and all that it calls make is longer than what came in: it says more and counts as full. Else prove '..UptoSaid'. A law counts once. -/
mutual
def uptoBulk {H : Type} : DataW H → Nat
  | .lit (.string bytes) => bytes.length + 1
  | .lit _ => 1
  | .nil => 1
  | .ptr d => uptoBulk d + 1
  | .slice elems spare => uptoBulkAll elems + uptoBulkAll spare + 1
  | .agg parts => uptoBulkAll parts + 1
  | .iface _ d => uptoBulk d + 1
  | .map entries => uptoBulkEntries entries + 1
  | .held _ => 1
def uptoBulkAll {H : Type} : List (DataW H) → Nat
  | [] => 0
  | d :: r => uptoBulk d + uptoBulkAll r
def uptoBulkEntries {H : Type} : List (Lit × DataW H) → Nat
  | [] => 0
  | x :: r => uptoBulkEntry x + uptoBulkEntries r
def uptoBulkEntry {H : Type} : Lit × DataW H → Nat
  | (.string bytes, d) => bytes.length + uptoBulk d + 1
  | (_, d) => uptoBulk d + 1
 end
def uptoSmall : (H : Type) → List (DataW H) → Bool := fun _ ds => decide (uptoBulkAll ds ≤ 1048576)
def OpenSpec.upto (s : _root_.Go.ChangeSpec) : _root_.Go.OpenSpec := { _root_.Go.OpenSpec.ofChange s with cond := some uptoSmall }

/-- 'reckonerlaw10.ShowsTexts', WHERE WHAT IT READS IS OF BULK AT MOST 1048576: true; the input reads as it did. -/
def showsTextsUptoRow : OpenClaim := { program := "ytobpnjnfpgcpaaagreatdoor", sum := "46cdaebb80a7b4772bf97168c9142cd8283d115b40bd6c16f5dd869ba3e58cd5", func := "reckoner/reckonerlaw10.ShowsTexts", spec := "showsTexts", inPlace := ["internal/bytealg.IndexByteString", "internal/bytealg.IndexString", "internal/abi.NoEscape", "internal/bytealg.MakeNoZero"], unfollowed := true, recurses := true, named := ["unicode/utf8.first", "unicode/utf8.acceptRanges", "internal/bytealg.MaxLen"], loops := true, apart := false, laid := [("unicode/utf8.acceptRanges", laid_unicode_utf8_acceptRanges), ("unicode/utf8.first", laid_unicode_utf8_first)], narrowed := true }
def ShowsTextsUptoSaid : Prop := showsTextsUptoRow.holds Tryz.pinned (OpenSpec.upto showsTextsSpec)

/-- 'reckonerlaw10.ShowsBack', WHERE WHAT IT READS IS OF BULK AT MOST 1048576: true; the input reads as it did. -/
def showsBackUptoRow : OpenClaim := { program := "ytobpnjnfpgcpaaagreatdoor", sum := "46cdaebb80a7b4772bf97168c9142cd8283d115b40bd6c16f5dd869ba3e58cd5", func := "reckoner/reckonerlaw10.ShowsBack", spec := "showsBack", inPlace := ["internal/bytealg.IndexByteString", "internal/bytealg.IndexString", "internal/abi.NoEscape", "internal/bytealg.MakeNoZero"], unfollowed := true, recurses := true, named := ["unicode/utf8.first", "unicode/utf8.acceptRanges", "internal/bytealg.MaxLen"], loops := true, apart := false, laid := [("unicode/utf8.acceptRanges", laid_unicode_utf8_acceptRanges), ("unicode/utf8.first", laid_unicode_utf8_first)], narrowed := true }
def ShowsBackUptoSaid : Prop := showsBackUptoRow.holds Tryz.pinned (OpenSpec.upto showsBackSpec)

/-- 'reckonerlaw10.ShowsLeast', WHERE WHAT IT READS IS OF BULK AT MOST 1048576: true; the input reads as it did. -/
def showsLeastUptoRow : OpenClaim := { program := "ytobpnjnfpgcpaaagreatdoor", sum := "46cdaebb80a7b4772bf97168c9142cd8283d115b40bd6c16f5dd869ba3e58cd5", func := "reckoner/reckonerlaw10.ShowsLeast", spec := "showsLeast", inPlace := ["internal/bytealg.IndexByteString", "internal/bytealg.IndexString", "internal/abi.NoEscape", "internal/bytealg.MakeNoZero"], unfollowed := true, recurses := true, named := ["unicode/utf8.first", "unicode/utf8.acceptRanges", "internal/bytealg.MaxLen"], loops := true, apart := false, laid := [("unicode/utf8.acceptRanges", laid_unicode_utf8_acceptRanges), ("unicode/utf8.first", laid_unicode_utf8_first)], narrowed := true }
def ShowsLeastUptoSaid : Prop := showsLeastUptoRow.holds Tryz.pinned (OpenSpec.upto showsLeastSpec)

/-- 'reckonerlaw10.ShowsParts', WHERE WHAT IT READS IS OF BULK AT MOST 1048576: true; the input reads as it did. -/
def showsPartsUptoRow : OpenClaim := { program := "ytobpnjnfpgcpaaagreatdoor", sum := "46cdaebb80a7b4772bf97168c9142cd8283d115b40bd6c16f5dd869ba3e58cd5", func := "reckoner/reckonerlaw10.ShowsParts", spec := "showsParts", inPlace := ["internal/bytealg.IndexByteString", "internal/bytealg.IndexString", "internal/abi.NoEscape", "internal/bytealg.MakeNoZero"], unfollowed := true, recurses := true, named := ["unicode/utf8.first", "unicode/utf8.acceptRanges", "internal/bytealg.MaxLen"], loops := true, apart := false, laid := [("unicode/utf8.acceptRanges", laid_unicode_utf8_acceptRanges), ("unicode/utf8.first", laid_unicode_utf8_first)], narrowed := true }
def ShowsPartsUptoSaid : Prop := showsPartsUptoRow.holds Tryz.pinned (OpenSpec.upto showsPartsSpec)

/-- 'reckonerlaw10.ShowsBlocks', WHERE WHAT IT READS IS OF BULK AT MOST 1048576: true; the input reads as it did. -/
def showsBlocksUptoRow : OpenClaim := { program := "ytobpnjnfpgcpaaagreatdoor", sum := "46cdaebb80a7b4772bf97168c9142cd8283d115b40bd6c16f5dd869ba3e58cd5", func := "reckoner/reckonerlaw10.ShowsBlocks", spec := "showsBlocks", inPlace := ["internal/bytealg.IndexByteString", "internal/bytealg.IndexString", "internal/abi.NoEscape", "internal/bytealg.MakeNoZero"], unfollowed := true, recurses := true, named := ["unicode/utf8.first", "unicode/utf8.acceptRanges", "internal/bytealg.MaxLen"], loops := true, apart := false, laid := [("unicode/utf8.acceptRanges", laid_unicode_utf8_acceptRanges), ("unicode/utf8.first", laid_unicode_utf8_first)], narrowed := true }
def ShowsBlocksUptoSaid : Prop := showsBlocksUptoRow.holds Tryz.pinned (OpenSpec.upto showsBlocksSpec)

end Rows
end Go.Proofs.YtobpnjnfpgcpaaaGreatDoor
