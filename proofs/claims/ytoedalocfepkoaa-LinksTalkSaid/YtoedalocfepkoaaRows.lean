/-
  No cell of these rows narrows 'for every input' (looked for: loops, veiled, ifaces, maps, wideKeys, modest, calm, conditions, laid).
  DERIVED. THE GIVEN ROWS OF THIS SEAT. 6 by the template 'for every input the law returns true; each argument reads behind the call as it read before'; 0 by the template 'total and deterministic' (their statements: YtoedalocfepkoaaTotals.lean).
  GIVEN WITH THE SEED: the statements are not yours to turn. If you find one false, say at which input.
  Laid BY PROGRAM, IN A SANDBOX (cutbox-rows.mjs): the forced cells as the released guide's own fill.sh prints them over the translation a5bdff4d3250a604… (all of the seat's roots in one cut). By AI agents, Wed Nov 11 2026. No macro, syntax, notation, axiom, sorry.
-/
import Derived.Test.YtoedalocfepkoaaChecked
import GoSem.Claim
import GoSem.ClaimJoined
import GoSem.ClaimMapViews
import Derived.JoinedTies
import Derived.KernelRfl
namespace Go.Proofs.Ytoedalocfepkoaa
/- THE CELL 'sum', in the pinned program and in every row, IS THE sha256 OF THE DUMP (.gsa) THAT YtoedalocfepkoaaProg.lean LOADS. Nothing in Lean hashes anything: it is a label: what it is worth is what the hold of that sum in a sandbox is worth. -/
noncomputable def Try.pinned : Pinned := { name := "ytoedalocfepkoaa", sum := "a5bdff4d3250a604fc360bedcb08674ce5a686c3d23b733d7344597889903ee6", checked := Try.checked }
namespace Rows
def none {H : Type} : Left H := { results := [], args := [] }

/-- 'reckonerlaw13.LinksNone': WHATEVER THE INPUT: true; the input reads as it did. -/
def linksNoneSpec : ChangeSpec := { name := "linksNone", fn := fun _ => fun
  | [d] => { results := [.lit (.bool true)], args := [d] }
  | _ => none }
def linksNoneRow : OpenClaim := { program := "ytoedalocfepkoaa", sum := "a5bdff4d3250a604fc360bedcb08674ce5a686c3d23b733d7344597889903ee6", func := "reckoner/reckonerlaw13.LinksNone", spec := "linksNone", unfollowed := true, recurses := true, apart := false }
def LinksNoneSaid : Prop := linksNoneRow.holds Try.pinned (OpenSpec.ofChange linksNoneSpec)

/-- ITS FALSE NEIGHBOUR: 'it returns false'. Refute it at one input. -/
def linksNoneWrong : ChangeSpec := { name := "linksNone", fn := fun _ => fun
  | [d] => { results := [.lit (.bool false)], args := [d] }
  | _ => none }
def LinksNoneWrongFalsely : Prop := linksNoneRow.holds Try.pinned (OpenSpec.ofChange linksNoneWrong)

/-- 'reckonerlaw13.LinksTalk': WHATEVER THE INPUT: true; the input reads as it did. -/
def linksTalkSpec : ChangeSpec := { name := "linksTalk", fn := fun _ => fun
  | [d] => { results := [.lit (.bool true)], args := [d] }
  | _ => none }
def linksTalkRow : OpenClaim := { program := "ytoedalocfepkoaa", sum := "a5bdff4d3250a604fc360bedcb08674ce5a686c3d23b733d7344597889903ee6", func := "reckoner/reckonerlaw13.LinksTalk", spec := "linksTalk", unfollowed := true, recurses := true, apart := false }
def LinksTalkSaid : Prop := linksTalkRow.holds Try.pinned (OpenSpec.ofChange linksTalkSpec)

/-- ITS FALSE NEIGHBOUR: 'it returns false'. Refute it at one input. -/
def linksTalkWrong : ChangeSpec := { name := "linksTalk", fn := fun _ => fun
  | [d] => { results := [.lit (.bool false)], args := [d] }
  | _ => none }
def LinksTalkWrongFalsely : Prop := linksTalkRow.holds Try.pinned (OpenSpec.ofChange linksTalkWrong)

/-- 'reckonerlaw13.LinksWindow': WHATEVER THE INPUT: true; the input reads as it did. -/
def linksWindowSpec : ChangeSpec := { name := "linksWindow", fn := fun _ => fun
  | [d1, d2, d3] => { results := [.lit (.bool true)], args := [d1, d2, d3] }
  | _ => none }
def linksWindowRow : OpenClaim := { program := "ytoedalocfepkoaa", sum := "a5bdff4d3250a604fc360bedcb08674ce5a686c3d23b733d7344597889903ee6", func := "reckoner/reckonerlaw13.LinksWindow", spec := "linksWindow", unfollowed := true, recurses := true, apart := false }
def LinksWindowSaid : Prop := linksWindowRow.holds Try.pinned (OpenSpec.ofChange linksWindowSpec)

/-- ITS FALSE NEIGHBOUR: 'it returns false'. Refute it at one input. -/
def linksWindowWrong : ChangeSpec := { name := "linksWindow", fn := fun _ => fun
  | [d1, d2, d3] => { results := [.lit (.bool false)], args := [d1, d2, d3] }
  | _ => none }
def LinksWindowWrongFalsely : Prop := linksWindowRow.holds Try.pinned (OpenSpec.ofChange linksWindowWrong)

/-- 'reckonerlaw13.LinksOrder': WHATEVER THE INPUT: true; the input reads as it did. -/
def linksOrderSpec : ChangeSpec := { name := "linksOrder", fn := fun _ => fun
  | [d] => { results := [.lit (.bool true)], args := [d] }
  | _ => none }
def linksOrderRow : OpenClaim := { program := "ytoedalocfepkoaa", sum := "a5bdff4d3250a604fc360bedcb08674ce5a686c3d23b733d7344597889903ee6", func := "reckoner/reckonerlaw13.LinksOrder", spec := "linksOrder", unfollowed := true, recurses := true, apart := false }
def LinksOrderSaid : Prop := linksOrderRow.holds Try.pinned (OpenSpec.ofChange linksOrderSpec)

/-- ITS FALSE NEIGHBOUR: 'it returns false'. Refute it at one input. -/
def linksOrderWrong : ChangeSpec := { name := "linksOrder", fn := fun _ => fun
  | [d] => { results := [.lit (.bool false)], args := [d] }
  | _ => none }
def LinksOrderWrongFalsely : Prop := linksOrderRow.holds Try.pinned (OpenSpec.ofChange linksOrderWrong)

/-- 'reckonerlaw13.LinksForm': WHATEVER THE INPUT: true; the input reads as it did. -/
def linksFormSpec : ChangeSpec := { name := "linksForm", fn := fun _ => fun
  | [d] => { results := [.lit (.bool true)], args := [d] }
  | _ => none }
def linksFormRow : OpenClaim := { program := "ytoedalocfepkoaa", sum := "a5bdff4d3250a604fc360bedcb08674ce5a686c3d23b733d7344597889903ee6", func := "reckoner/reckonerlaw13.LinksForm", spec := "linksForm", unfollowed := true, recurses := true, apart := false }
def LinksFormSaid : Prop := linksFormRow.holds Try.pinned (OpenSpec.ofChange linksFormSpec)

/-- ITS FALSE NEIGHBOUR: 'it returns false'. Refute it at one input. -/
def linksFormWrong : ChangeSpec := { name := "linksForm", fn := fun _ => fun
  | [d] => { results := [.lit (.bool false)], args := [d] }
  | _ => none }
def LinksFormWrongFalsely : Prop := linksFormRow.holds Try.pinned (OpenSpec.ofChange linksFormWrong)

/-- 'reckonerlaw13.LinksBoth': WHATEVER THE INPUT: true; the input reads as it did. -/
def linksBothSpec : ChangeSpec := { name := "linksBoth", fn := fun _ => fun
  | [d1, d2] => { results := [.lit (.bool true)], args := [d1, d2] }
  | _ => none }
def linksBothRow : OpenClaim := { program := "ytoedalocfepkoaa", sum := "a5bdff4d3250a604fc360bedcb08674ce5a686c3d23b733d7344597889903ee6", func := "reckoner/reckonerlaw13.LinksBoth", spec := "linksBoth", unfollowed := true, recurses := true, apart := false }
def LinksBothSaid : Prop := linksBothRow.holds Try.pinned (OpenSpec.ofChange linksBothSpec)

/-- ITS FALSE NEIGHBOUR: 'it returns false'. Refute it at one input. -/
def linksBothWrong : ChangeSpec := { name := "linksBoth", fn := fun _ => fun
  | [d1, d2] => { results := [.lit (.bool false)], args := [d1, d2] }
  | _ => none }
def LinksBothWrongFalsely : Prop := linksBothRow.holds Try.pinned (OpenSpec.ofChange linksBothWrong)

/- THE SECOND FORM. 'bulk': how many values and letters a reading holds, each counted each time it is reached (what is shared counts as often as it is met; a slice's spare places count too). A statement '..UptoSaid' is the law's where the arguments, and the package variables that the reading takes, are together of bulk at most 1048576: NARROWER than '..Said'. Prove '..Said' where nothing that the law and all that it calls make is longer than what came in: it says more and counts as full. Else prove '..UptoSaid'. A law counts once. -/
mutual
def uptoBulk {H : Type} : DataW H → Nat
  | .lit (.string bytes) => bytes.length + 1
  | .lit _ => 1
  | .nil => 1
  | .ptr d => uptoBulk d + 1
  | .slice elems spare => uptoBulkAll elems + uptoBulkAll spare + 1
  | .agg parts => uptoBulkAll parts + 1
  | .iface _ d => uptoBulk d + 1
  | .map entries => uptoBulkEntries entries + 1
  | .held _ => 1
def uptoBulkAll {H : Type} : List (DataW H) → Nat
  | [] => 0
  | d :: r => uptoBulk d + uptoBulkAll r
def uptoBulkEntries {H : Type} : List (Lit × DataW H) → Nat
  | [] => 0
  | x :: r => uptoBulkEntry x + uptoBulkEntries r
def uptoBulkEntry {H : Type} : Lit × DataW H → Nat
  | (.string bytes, d) => bytes.length + uptoBulk d + 1
  | (_, d) => uptoBulk d + 1
 end
def uptoSmall : (H : Type) → List (DataW H) → Bool := fun _ ds => decide (uptoBulkAll ds ≤ 1048576)
def OpenSpec.upto (s : _root_.Go.ChangeSpec) : _root_.Go.OpenSpec := { _root_.Go.OpenSpec.ofChange s with cond := some uptoSmall }

/-- 'reckonerlaw13.LinksNone', WHERE WHAT IT READS IS OF BULK AT MOST 1048576: true; the input reads as it did. -/
def linksNoneUptoRow : OpenClaim := { program := "ytoedalocfepkoaa", sum := "a5bdff4d3250a604fc360bedcb08674ce5a686c3d23b733d7344597889903ee6", func := "reckoner/reckonerlaw13.LinksNone", spec := "linksNone", unfollowed := true, recurses := true, apart := false, narrowed := true }
def LinksNoneUptoSaid : Prop := linksNoneUptoRow.holds Try.pinned (OpenSpec.upto linksNoneSpec)

/-- 'reckonerlaw13.LinksTalk', WHERE WHAT IT READS IS OF BULK AT MOST 1048576: true; the input reads as it did. -/
def linksTalkUptoRow : OpenClaim := { program := "ytoedalocfepkoaa", sum := "a5bdff4d3250a604fc360bedcb08674ce5a686c3d23b733d7344597889903ee6", func := "reckoner/reckonerlaw13.LinksTalk", spec := "linksTalk", unfollowed := true, recurses := true, apart := false, narrowed := true }
def LinksTalkUptoSaid : Prop := linksTalkUptoRow.holds Try.pinned (OpenSpec.upto linksTalkSpec)

/-- 'reckonerlaw13.LinksWindow', WHERE WHAT IT READS IS OF BULK AT MOST 1048576: true; the input reads as it did. -/
def linksWindowUptoRow : OpenClaim := { program := "ytoedalocfepkoaa", sum := "a5bdff4d3250a604fc360bedcb08674ce5a686c3d23b733d7344597889903ee6", func := "reckoner/reckonerlaw13.LinksWindow", spec := "linksWindow", unfollowed := true, recurses := true, apart := false, narrowed := true }
def LinksWindowUptoSaid : Prop := linksWindowUptoRow.holds Try.pinned (OpenSpec.upto linksWindowSpec)

/-- 'reckonerlaw13.LinksOrder', WHERE WHAT IT READS IS OF BULK AT MOST 1048576: true; the input reads as it did. -/
def linksOrderUptoRow : OpenClaim := { program := "ytoedalocfepkoaa", sum := "a5bdff4d3250a604fc360bedcb08674ce5a686c3d23b733d7344597889903ee6", func := "reckoner/reckonerlaw13.LinksOrder", spec := "linksOrder", unfollowed := true, recurses := true, apart := false, narrowed := true }
def LinksOrderUptoSaid : Prop := linksOrderUptoRow.holds Try.pinned (OpenSpec.upto linksOrderSpec)

/-- 'reckonerlaw13.LinksForm', WHERE WHAT IT READS IS OF BULK AT MOST 1048576: true; the input reads as it did. -/
def linksFormUptoRow : OpenClaim := { program := "ytoedalocfepkoaa", sum := "a5bdff4d3250a604fc360bedcb08674ce5a686c3d23b733d7344597889903ee6", func := "reckoner/reckonerlaw13.LinksForm", spec := "linksForm", unfollowed := true, recurses := true, apart := false, narrowed := true }
def LinksFormUptoSaid : Prop := linksFormUptoRow.holds Try.pinned (OpenSpec.upto linksFormSpec)

/-- 'reckonerlaw13.LinksBoth', WHERE WHAT IT READS IS OF BULK AT MOST 1048576: true; the input reads as it did. -/
def linksBothUptoRow : OpenClaim := { program := "ytoedalocfepkoaa", sum := "a5bdff4d3250a604fc360bedcb08674ce5a686c3d23b733d7344597889903ee6", func := "reckoner/reckonerlaw13.LinksBoth", spec := "linksBoth", unfollowed := true, recurses := true, apart := false, narrowed := true }
def LinksBothUptoSaid : Prop := linksBothUptoRow.holds Try.pinned (OpenSpec.upto linksBothSpec)

end Rows
end Go.Proofs.Ytoedalocfepkoaa
