/-
  NARROWER THAN 'FOR EVERY INPUT', by the rows' own cells (each row's printed sentence says how): TreesChecks: loops, laid · TreesSilent: laid · TreesRanks: laid · TreesMay: laid · TreesDeep: laid · TreesInner: laid.
  DERIVED. THE GIVEN ROWS OF THIS SEAT. 6 by the template 'for every input the law returns true; each argument reads behind the call as it read before'; 0 by the template 'total and deterministic' (their statements: YtiefpffccmdcoaaDoorTotals.lean).
  GIVEN WITH THE SEED: the statements are not yours to turn. If you find one false, say at which input.
  Laid BY PROGRAM, IN A SANDBOX (cutbox-rows.mjs): the forced cells as the released guide's own fill.sh prints them over the translation c17c81a9a61274fc… (all of the seat's roots in one cut). By AI agents, Wed Nov 11 2026. No macro, syntax, notation, axiom, sorry.
-/
import Derived.Test.YtiefpffccmdcoaaDoorChecked
import GoSem.PinnedTables
import GoSem.Claim
import GoSem.ClaimJoined
import GoSem.ClaimMapViews
import Derived.JoinedTies
import Derived.KernelRfl
namespace Go.Proofs.YtiefpffccmdcoaaDoor
/- THE CELL 'sum', in the pinned program and in every row, IS THE sha256 OF THE DUMP (.gsa) THAT YtiefpffccmdcoaaDoorProg.lean LOADS. Nothing in Lean hashes anything: it is a label: what it is worth is what the hold of that sum in a sandbox is worth. -/
noncomputable def Tryd.pinned : Pinned := { name := "ytiefpffccmdcoaadoor", sum := "c17c81a9a61274fc8dac061aff3776010659c5e358af0007ad95ef27680b1121", checked := Tryd.checked }
namespace Rows
def none {H : Type} : Left H := { results := [], args := [] }

/- WHAT THE LISTED PACKAGE-LEVEL VARIABLES READ AS WHEN THE CALL BEGINS. Each datum BY PROGRAM (the guide's laid-datum.mjs) off the statement by which the dump's own 'gosem.cut.vars' lays the variable. In a bare row this is a premise. The card (YtiefpffccmdcoaaDoorCards.lean) ties it to the program's text. -/
def laid_unicode_utf8_acceptRanges {H : Type} : DataW H := .agg [.agg [.lit (.int .u8 128), .lit (.int .u8 191)], .agg [.lit (.int .u8 160), .lit (.int .u8 191)], .agg [.lit (.int .u8 128), .lit (.int .u8 159)], .agg [.lit (.int .u8 144), .lit (.int .u8 191)], .agg [.lit (.int .u8 128), .lit (.int .u8 143)], .agg [.lit (.int .u8 0), .lit (.int .u8 0)], .agg [.lit (.int .u8 0), .lit (.int .u8 0)], .agg [.lit (.int .u8 0), .lit (.int .u8 0)], .agg [.lit (.int .u8 0), .lit (.int .u8 0)], .agg [.lit (.int .u8 0), .lit (.int .u8 0)], .agg [.lit (.int .u8 0), .lit (.int .u8 0)], .agg [.lit (.int .u8 0), .lit (.int .u8 0)], .agg [.lit (.int .u8 0), .lit (.int .u8 0)], .agg [.lit (.int .u8 0), .lit (.int .u8 0)], .agg [.lit (.int .u8 0), .lit (.int .u8 0)], .agg [.lit (.int .u8 0), .lit (.int .u8 0)]]
/-- One of Go's own tables, pinned by name: the form's constant. -/
def laid_unicode_utf8_first : DataW Unit := Go.Pinned.utf8First

/-- 'reckonerlaw09.TreesChecks': WHATEVER THE INPUT: true; the input reads as it did. -/
def treesChecksSpec : ChangeSpec := { name := "treesChecks", fn := fun _ => fun
  | [d] => { results := [.lit (.bool true)], args := [d] }
  | _ => none }
def treesChecksRow : OpenClaim := { program := "ytiefpffccmdcoaadoor", sum := "c17c81a9a61274fc8dac061aff3776010659c5e358af0007ad95ef27680b1121", func := "reckoner/reckonerlaw09.TreesChecks", spec := "treesChecks", inPlace := ["internal/bytealg.IndexByteString", "internal/bytealg.IndexString"], unfollowed := true, recurses := true, named := ["unicode/utf8.first", "unicode/utf8.acceptRanges", "internal/bytealg.MaxLen"], loops := true, apart := false, laid := [("unicode/utf8.acceptRanges", laid_unicode_utf8_acceptRanges), ("unicode/utf8.first", laid_unicode_utf8_first)] }
def TreesChecksSaid : Prop := treesChecksRow.holds Tryd.pinned (OpenSpec.ofChange treesChecksSpec)

/-- ITS FALSE NEIGHBOUR: 'it returns false'. Refute it at one input. -/
def treesChecksWrong : ChangeSpec := { name := "treesChecks", fn := fun _ => fun
  | [d] => { results := [.lit (.bool false)], args := [d] }
  | _ => none }
def TreesChecksWrongFalsely : Prop := treesChecksRow.holds Tryd.pinned (OpenSpec.ofChange treesChecksWrong)

/-- 'reckonerlaw09.TreesSilent': WHATEVER THE INPUT: true; the input reads as it did. -/
def treesSilentSpec : ChangeSpec := { name := "treesSilent", fn := fun _ => fun
  | [d1, d2] => { results := [.lit (.bool true)], args := [d1, d2] }
  | _ => none }
def treesSilentRow : OpenClaim := { program := "ytiefpffccmdcoaadoor", sum := "c17c81a9a61274fc8dac061aff3776010659c5e358af0007ad95ef27680b1121", func := "reckoner/reckonerlaw09.TreesSilent", spec := "treesSilent", inPlace := ["internal/bytealg.IndexByteString", "internal/bytealg.IndexString"], unfollowed := true, recurses := true, named := ["unicode/utf8.first", "unicode/utf8.acceptRanges", "internal/bytealg.MaxLen"], apart := false, laid := [("unicode/utf8.acceptRanges", laid_unicode_utf8_acceptRanges), ("unicode/utf8.first", laid_unicode_utf8_first)] }
def TreesSilentSaid : Prop := treesSilentRow.holds Tryd.pinned (OpenSpec.ofChange treesSilentSpec)

/-- ITS FALSE NEIGHBOUR: 'it returns false'. Refute it at one input. -/
def treesSilentWrong : ChangeSpec := { name := "treesSilent", fn := fun _ => fun
  | [d1, d2] => { results := [.lit (.bool false)], args := [d1, d2] }
  | _ => none }
def TreesSilentWrongFalsely : Prop := treesSilentRow.holds Tryd.pinned (OpenSpec.ofChange treesSilentWrong)

/-- 'reckonerlaw09.TreesRanks': WHATEVER THE INPUT: true; the input reads as it did. -/
def treesRanksSpec : ChangeSpec := { name := "treesRanks", fn := fun _ => fun
  | [d1, d2] => { results := [.lit (.bool true)], args := [d1, d2] }
  | _ => none }
def treesRanksRow : OpenClaim := { program := "ytiefpffccmdcoaadoor", sum := "c17c81a9a61274fc8dac061aff3776010659c5e358af0007ad95ef27680b1121", func := "reckoner/reckonerlaw09.TreesRanks", spec := "treesRanks", inPlace := ["internal/bytealg.IndexByteString", "internal/bytealg.IndexString"], unfollowed := true, recurses := true, named := ["unicode/utf8.first", "unicode/utf8.acceptRanges", "internal/bytealg.MaxLen"], apart := false, laid := [("unicode/utf8.acceptRanges", laid_unicode_utf8_acceptRanges), ("unicode/utf8.first", laid_unicode_utf8_first)] }
def TreesRanksSaid : Prop := treesRanksRow.holds Tryd.pinned (OpenSpec.ofChange treesRanksSpec)

/-- ITS FALSE NEIGHBOUR: 'it returns false'. Refute it at one input. -/
def treesRanksWrong : ChangeSpec := { name := "treesRanks", fn := fun _ => fun
  | [d1, d2] => { results := [.lit (.bool false)], args := [d1, d2] }
  | _ => none }
def TreesRanksWrongFalsely : Prop := treesRanksRow.holds Tryd.pinned (OpenSpec.ofChange treesRanksWrong)

/-- 'reckonerlaw09.TreesMay': WHATEVER THE INPUT: true; the input reads as it did. -/
def treesMaySpec : ChangeSpec := { name := "treesMay", fn := fun _ => fun
  | [d] => { results := [.lit (.bool true)], args := [d] }
  | _ => none }
def treesMayRow : OpenClaim := { program := "ytiefpffccmdcoaadoor", sum := "c17c81a9a61274fc8dac061aff3776010659c5e358af0007ad95ef27680b1121", func := "reckoner/reckonerlaw09.TreesMay", spec := "treesMay", inPlace := ["internal/bytealg.IndexByteString", "internal/bytealg.IndexString"], unfollowed := true, recurses := true, named := ["unicode/utf8.first", "unicode/utf8.acceptRanges", "internal/bytealg.MaxLen"], apart := false, laid := [("unicode/utf8.acceptRanges", laid_unicode_utf8_acceptRanges), ("unicode/utf8.first", laid_unicode_utf8_first)] }
def TreesMaySaid : Prop := treesMayRow.holds Tryd.pinned (OpenSpec.ofChange treesMaySpec)

/-- ITS FALSE NEIGHBOUR: 'it returns false'. Refute it at one input. -/
def treesMayWrong : ChangeSpec := { name := "treesMay", fn := fun _ => fun
  | [d] => { results := [.lit (.bool false)], args := [d] }
  | _ => none }
def TreesMayWrongFalsely : Prop := treesMayRow.holds Tryd.pinned (OpenSpec.ofChange treesMayWrong)

/-- 'reckonerlaw09.TreesDeep': WHATEVER THE INPUT: true; the input reads as it did. -/
def treesDeepSpec : ChangeSpec := { name := "treesDeep", fn := fun _ => fun
  | [d1, d2] => { results := [.lit (.bool true)], args := [d1, d2] }
  | _ => none }
def treesDeepRow : OpenClaim := { program := "ytiefpffccmdcoaadoor", sum := "c17c81a9a61274fc8dac061aff3776010659c5e358af0007ad95ef27680b1121", func := "reckoner/reckonerlaw09.TreesDeep", spec := "treesDeep", inPlace := ["internal/bytealg.IndexByteString", "internal/bytealg.IndexString"], unfollowed := true, recurses := true, named := ["unicode/utf8.first", "unicode/utf8.acceptRanges", "internal/bytealg.MaxLen"], apart := false, laid := [("unicode/utf8.acceptRanges", laid_unicode_utf8_acceptRanges), ("unicode/utf8.first", laid_unicode_utf8_first)] }
def TreesDeepSaid : Prop := treesDeepRow.holds Tryd.pinned (OpenSpec.ofChange treesDeepSpec)

/-- ITS FALSE NEIGHBOUR: 'it returns false'. Refute it at one input. -/
def treesDeepWrong : ChangeSpec := { name := "treesDeep", fn := fun _ => fun
  | [d1, d2] => { results := [.lit (.bool false)], args := [d1, d2] }
  | _ => none }
def TreesDeepWrongFalsely : Prop := treesDeepRow.holds Tryd.pinned (OpenSpec.ofChange treesDeepWrong)

/-- 'reckonerlaw09.TreesInner': WHATEVER THE INPUT: true; the input reads as it did. -/
def treesInnerSpec : ChangeSpec := { name := "treesInner", fn := fun _ => fun
  | [d1, d2] => { results := [.lit (.bool true)], args := [d1, d2] }
  | _ => none }
def treesInnerRow : OpenClaim := { program := "ytiefpffccmdcoaadoor", sum := "c17c81a9a61274fc8dac061aff3776010659c5e358af0007ad95ef27680b1121", func := "reckoner/reckonerlaw09.TreesInner", spec := "treesInner", inPlace := ["internal/bytealg.IndexByteString", "internal/bytealg.IndexString"], unfollowed := true, recurses := true, named := ["unicode/utf8.first", "unicode/utf8.acceptRanges", "internal/bytealg.MaxLen"], apart := false, laid := [("unicode/utf8.acceptRanges", laid_unicode_utf8_acceptRanges), ("unicode/utf8.first", laid_unicode_utf8_first)] }
def TreesInnerSaid : Prop := treesInnerRow.holds Tryd.pinned (OpenSpec.ofChange treesInnerSpec)

/-- ITS FALSE NEIGHBOUR: 'it returns false'. Refute it at one input. -/
def treesInnerWrong : ChangeSpec := { name := "treesInner", fn := fun _ => fun
  | [d1, d2] => { results := [.lit (.bool false)], args := [d1, d2] }
  | _ => none }
def TreesInnerWrongFalsely : Prop := treesInnerRow.holds Tryd.pinned (OpenSpec.ofChange treesInnerWrong)

/- THE SECOND FORM. 'bulk': how many values and letters a reading holds, each counted each time it is reached (what is shared counts as often as it is met; a slice's spare places count too). A statement '..UptoSaid' is the law's where the arguments, and the package variables that the reading takes, are together of bulk at most 1048576: NARROWER than '..Said'. Prove '..Said' where nothing that the law and all that it calls make is longer than what came in: it says more and counts as full. Else prove '..UptoSaid'. A law counts once. -/
mutual
def uptoBulk {H : Type} : DataW H → Nat
  | .lit (.string bytes) => bytes.length + 1
  | .lit _ => 1
  | .nil => 1
  | .ptr d => uptoBulk d + 1
  | .slice elems spare => uptoBulkAll elems + uptoBulkAll spare + 1
  | .agg parts => uptoBulkAll parts + 1
  | .iface _ d => uptoBulk d + 1
  | .map entries => uptoBulkEntries entries + 1
  | .held _ => 1
def uptoBulkAll {H : Type} : List (DataW H) → Nat
  | [] => 0
  | d :: r => uptoBulk d + uptoBulkAll r
def uptoBulkEntries {H : Type} : List (Lit × DataW H) → Nat
  | [] => 0
  | x :: r => uptoBulkEntry x + uptoBulkEntries r
def uptoBulkEntry {H : Type} : Lit × DataW H → Nat
  | (.string bytes, d) => bytes.length + uptoBulk d + 1
  | (_, d) => uptoBulk d + 1
 end
def uptoSmall : (H : Type) → List (DataW H) → Bool := fun _ ds => decide (uptoBulkAll ds ≤ 1048576)
def OpenSpec.upto (s : _root_.Go.ChangeSpec) : _root_.Go.OpenSpec := { _root_.Go.OpenSpec.ofChange s with cond := some uptoSmall }

/-- 'reckonerlaw09.TreesChecks', WHERE WHAT IT READS IS OF BULK AT MOST 1048576: true; the input reads as it did. -/
def treesChecksUptoRow : OpenClaim := { program := "ytiefpffccmdcoaadoor", sum := "c17c81a9a61274fc8dac061aff3776010659c5e358af0007ad95ef27680b1121", func := "reckoner/reckonerlaw09.TreesChecks", spec := "treesChecks", inPlace := ["internal/bytealg.IndexByteString", "internal/bytealg.IndexString"], unfollowed := true, recurses := true, named := ["unicode/utf8.first", "unicode/utf8.acceptRanges", "internal/bytealg.MaxLen"], loops := true, apart := false, laid := [("unicode/utf8.acceptRanges", laid_unicode_utf8_acceptRanges), ("unicode/utf8.first", laid_unicode_utf8_first)], narrowed := true }
def TreesChecksUptoSaid : Prop := treesChecksUptoRow.holds Tryd.pinned (OpenSpec.upto treesChecksSpec)

/-- 'reckonerlaw09.TreesSilent', WHERE WHAT IT READS IS OF BULK AT MOST 1048576: true; the input reads as it did. -/
def treesSilentUptoRow : OpenClaim := { program := "ytiefpffccmdcoaadoor", sum := "c17c81a9a61274fc8dac061aff3776010659c5e358af0007ad95ef27680b1121", func := "reckoner/reckonerlaw09.TreesSilent", spec := "treesSilent", inPlace := ["internal/bytealg.IndexByteString", "internal/bytealg.IndexString"], unfollowed := true, recurses := true, named := ["unicode/utf8.first", "unicode/utf8.acceptRanges", "internal/bytealg.MaxLen"], apart := false, laid := [("unicode/utf8.acceptRanges", laid_unicode_utf8_acceptRanges), ("unicode/utf8.first", laid_unicode_utf8_first)], narrowed := true }
def TreesSilentUptoSaid : Prop := treesSilentUptoRow.holds Tryd.pinned (OpenSpec.upto treesSilentSpec)

/-- 'reckonerlaw09.TreesRanks', WHERE WHAT IT READS IS OF BULK AT MOST 1048576: true; the input reads as it did. -/
def treesRanksUptoRow : OpenClaim := { program := "ytiefpffccmdcoaadoor", sum := "c17c81a9a61274fc8dac061aff3776010659c5e358af0007ad95ef27680b1121", func := "reckoner/reckonerlaw09.TreesRanks", spec := "treesRanks", inPlace := ["internal/bytealg.IndexByteString", "internal/bytealg.IndexString"], unfollowed := true, recurses := true, named := ["unicode/utf8.first", "unicode/utf8.acceptRanges", "internal/bytealg.MaxLen"], apart := false, laid := [("unicode/utf8.acceptRanges", laid_unicode_utf8_acceptRanges), ("unicode/utf8.first", laid_unicode_utf8_first)], narrowed := true }
def TreesRanksUptoSaid : Prop := treesRanksUptoRow.holds Tryd.pinned (OpenSpec.upto treesRanksSpec)

/-- 'reckonerlaw09.TreesMay', WHERE WHAT IT READS IS OF BULK AT MOST 1048576: true; the input reads as it did. -/
def treesMayUptoRow : OpenClaim := { program := "ytiefpffccmdcoaadoor", sum := "c17c81a9a61274fc8dac061aff3776010659c5e358af0007ad95ef27680b1121", func := "reckoner/reckonerlaw09.TreesMay", spec := "treesMay", inPlace := ["internal/bytealg.IndexByteString", "internal/bytealg.IndexString"], unfollowed := true, recurses := true, named := ["unicode/utf8.first", "unicode/utf8.acceptRanges", "internal/bytealg.MaxLen"], apart := false, laid := [("unicode/utf8.acceptRanges", laid_unicode_utf8_acceptRanges), ("unicode/utf8.first", laid_unicode_utf8_first)], narrowed := true }
def TreesMayUptoSaid : Prop := treesMayUptoRow.holds Tryd.pinned (OpenSpec.upto treesMaySpec)

/-- 'reckonerlaw09.TreesDeep', WHERE WHAT IT READS IS OF BULK AT MOST 1048576: true; the input reads as it did. -/
def treesDeepUptoRow : OpenClaim := { program := "ytiefpffccmdcoaadoor", sum := "c17c81a9a61274fc8dac061aff3776010659c5e358af0007ad95ef27680b1121", func := "reckoner/reckonerlaw09.TreesDeep", spec := "treesDeep", inPlace := ["internal/bytealg.IndexByteString", "internal/bytealg.IndexString"], unfollowed := true, recurses := true, named := ["unicode/utf8.first", "unicode/utf8.acceptRanges", "internal/bytealg.MaxLen"], apart := false, laid := [("unicode/utf8.acceptRanges", laid_unicode_utf8_acceptRanges), ("unicode/utf8.first", laid_unicode_utf8_first)], narrowed := true }
def TreesDeepUptoSaid : Prop := treesDeepUptoRow.holds Tryd.pinned (OpenSpec.upto treesDeepSpec)

/-- 'reckonerlaw09.TreesInner', WHERE WHAT IT READS IS OF BULK AT MOST 1048576: true; the input reads as it did. -/
def treesInnerUptoRow : OpenClaim := { program := "ytiefpffccmdcoaadoor", sum := "c17c81a9a61274fc8dac061aff3776010659c5e358af0007ad95ef27680b1121", func := "reckoner/reckonerlaw09.TreesInner", spec := "treesInner", inPlace := ["internal/bytealg.IndexByteString", "internal/bytealg.IndexString"], unfollowed := true, recurses := true, named := ["unicode/utf8.first", "unicode/utf8.acceptRanges", "internal/bytealg.MaxLen"], apart := false, laid := [("unicode/utf8.acceptRanges", laid_unicode_utf8_acceptRanges), ("unicode/utf8.first", laid_unicode_utf8_first)], narrowed := true }
def TreesInnerUptoSaid : Prop := treesInnerUptoRow.holds Tryd.pinned (OpenSpec.upto treesInnerSpec)

end Rows
end Go.Proofs.YtiefpffccmdcoaaDoor
