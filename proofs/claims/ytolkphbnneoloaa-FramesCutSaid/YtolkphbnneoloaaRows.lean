/-
  No cell of these rows narrows 'for every input' (looked for: loops, veiled, ifaces, maps, wideKeys, modest, calm, conditions, laid).
  DERIVED. THE GIVEN ROWS OF THIS SEAT. 6 by the template 'for every input the law returns true; each argument reads behind the call as it read before'; 0 by the template 'total and deterministic' (their statements: YtolkphbnneoloaaTotals.lean).
  GIVEN WITH THE SEED: the statements are not yours to turn. If you find one false, say at which input.
  Laid BY PROGRAM, IN A SANDBOX (cutbox-rows.mjs): the forced cells as the released guide's own fill.sh prints them over the translation 7fb759965bbe7a82… (all of the seat's roots in one cut). By AI agents, Wed Nov 11 2026. No macro, syntax, notation, axiom, sorry.
-/
import Derived.Test.YtolkphbnneoloaaChecked
import GoSem.Claim
import GoSem.ClaimJoined
import GoSem.ClaimMapViews
import Derived.JoinedTies
import Derived.KernelRfl
namespace Go.Proofs.Ytolkphbnneoloaa
/- THE CELL 'sum', in the pinned program and in every row, IS THE sha256 OF THE DUMP (.gsa) THAT YtolkphbnneoloaaProg.lean LOADS. Nothing in Lean hashes anything: it is a label: what it is worth is what the hold of that sum in a sandbox is worth. -/
noncomputable def Try.pinned : Pinned := { name := "ytolkphbnneoloaa", sum := "7fb759965bbe7a82d2745abd9686ee4eb9a622ab6e7913cf4a1dd646e1b9b56e", checked := Try.checked }
namespace Rows
def none {H : Type} : Left H := { results := [], args := [] }

/-- 'reckonerlaw12.FramesNone': WHATEVER THE INPUT: true; the input reads as it did. -/
def framesNoneSpec : ChangeSpec := { name := "framesNone", fn := fun _ => fun
  | [d] => { results := [.lit (.bool true)], args := [d] }
  | _ => none }
def framesNoneRow : OpenClaim := { program := "ytolkphbnneoloaa", sum := "7fb759965bbe7a82d2745abd9686ee4eb9a622ab6e7913cf4a1dd646e1b9b56e", func := "reckoner/reckonerlaw12.FramesNone", spec := "framesNone", apart := false }
def FramesNoneSaid : Prop := framesNoneRow.holds Try.pinned (OpenSpec.ofChange framesNoneSpec)

/-- ITS FALSE NEIGHBOUR: 'it returns false'. Refute it at one input. -/
def framesNoneWrong : ChangeSpec := { name := "framesNone", fn := fun _ => fun
  | [d] => { results := [.lit (.bool false)], args := [d] }
  | _ => none }
def FramesNoneWrongFalsely : Prop := framesNoneRow.holds Try.pinned (OpenSpec.ofChange framesNoneWrong)

/-- 'reckonerlaw12.FramesBack': WHATEVER THE INPUT: true; the input reads as it did. -/
def framesBackSpec : ChangeSpec := { name := "framesBack", fn := fun _ => fun
  | [d1, d2] => { results := [.lit (.bool true)], args := [d1, d2] }
  | _ => none }
def framesBackRow : OpenClaim := { program := "ytolkphbnneoloaa", sum := "7fb759965bbe7a82d2745abd9686ee4eb9a622ab6e7913cf4a1dd646e1b9b56e", func := "reckoner/reckonerlaw12.FramesBack", spec := "framesBack", apart := false }
def FramesBackSaid : Prop := framesBackRow.holds Try.pinned (OpenSpec.ofChange framesBackSpec)

/-- ITS FALSE NEIGHBOUR: 'it returns false'. Refute it at one input. -/
def framesBackWrong : ChangeSpec := { name := "framesBack", fn := fun _ => fun
  | [d1, d2] => { results := [.lit (.bool false)], args := [d1, d2] }
  | _ => none }
def FramesBackWrongFalsely : Prop := framesBackRow.holds Try.pinned (OpenSpec.ofChange framesBackWrong)

/-- 'reckonerlaw12.FramesCut': WHATEVER THE INPUT: true; the input reads as it did. -/
def framesCutSpec : ChangeSpec := { name := "framesCut", fn := fun _ => fun
  | [d1, d2] => { results := [.lit (.bool true)], args := [d1, d2] }
  | _ => none }
def framesCutRow : OpenClaim := { program := "ytolkphbnneoloaa", sum := "7fb759965bbe7a82d2745abd9686ee4eb9a622ab6e7913cf4a1dd646e1b9b56e", func := "reckoner/reckonerlaw12.FramesCut", spec := "framesCut", apart := false }
def FramesCutSaid : Prop := framesCutRow.holds Try.pinned (OpenSpec.ofChange framesCutSpec)

/-- ITS FALSE NEIGHBOUR: 'it returns false'. Refute it at one input. -/
def framesCutWrong : ChangeSpec := { name := "framesCut", fn := fun _ => fun
  | [d1, d2] => { results := [.lit (.bool false)], args := [d1, d2] }
  | _ => none }
def FramesCutWrongFalsely : Prop := framesCutRow.holds Try.pinned (OpenSpec.ofChange framesCutWrong)

/-- 'reckonerlaw12.FramesLeft': WHATEVER THE INPUT: true; the input reads as it did. -/
def framesLeftSpec : ChangeSpec := { name := "framesLeft", fn := fun _ => fun
  | [d1, d2] => { results := [.lit (.bool true)], args := [d1, d2] }
  | _ => none }
def framesLeftRow : OpenClaim := { program := "ytolkphbnneoloaa", sum := "7fb759965bbe7a82d2745abd9686ee4eb9a622ab6e7913cf4a1dd646e1b9b56e", func := "reckoner/reckonerlaw12.FramesLeft", spec := "framesLeft", apart := false }
def FramesLeftSaid : Prop := framesLeftRow.holds Try.pinned (OpenSpec.ofChange framesLeftSpec)

/-- ITS FALSE NEIGHBOUR: 'it returns false'. Refute it at one input. -/
def framesLeftWrong : ChangeSpec := { name := "framesLeft", fn := fun _ => fun
  | [d1, d2] => { results := [.lit (.bool false)], args := [d1, d2] }
  | _ => none }
def FramesLeftWrongFalsely : Prop := framesLeftRow.holds Try.pinned (OpenSpec.ofChange framesLeftWrong)

/-- 'reckonerlaw12.FramesLimit': WHATEVER THE INPUT: true; the input reads as it did. -/
def framesLimitSpec : ChangeSpec := { name := "framesLimit", fn := fun _ => fun
  | [d1, d2] => { results := [.lit (.bool true)], args := [d1, d2] }
  | _ => none }
def framesLimitRow : OpenClaim := { program := "ytolkphbnneoloaa", sum := "7fb759965bbe7a82d2745abd9686ee4eb9a622ab6e7913cf4a1dd646e1b9b56e", func := "reckoner/reckonerlaw12.FramesLimit", spec := "framesLimit", apart := false }
def FramesLimitSaid : Prop := framesLimitRow.holds Try.pinned (OpenSpec.ofChange framesLimitSpec)

/-- ITS FALSE NEIGHBOUR: 'it returns false'. Refute it at one input. -/
def framesLimitWrong : ChangeSpec := { name := "framesLimit", fn := fun _ => fun
  | [d1, d2] => { results := [.lit (.bool false)], args := [d1, d2] }
  | _ => none }
def FramesLimitWrongFalsely : Prop := framesLimitRow.holds Try.pinned (OpenSpec.ofChange framesLimitWrong)

/-- 'reckonerlaw12.FramesTwo': WHATEVER THE INPUT: true; the input reads as it did. -/
def framesTwoSpec : ChangeSpec := { name := "framesTwo", fn := fun _ => fun
  | [d1, d2] => { results := [.lit (.bool true)], args := [d1, d2] }
  | _ => none }
def framesTwoRow : OpenClaim := { program := "ytolkphbnneoloaa", sum := "7fb759965bbe7a82d2745abd9686ee4eb9a622ab6e7913cf4a1dd646e1b9b56e", func := "reckoner/reckonerlaw12.FramesTwo", spec := "framesTwo", apart := false }
def FramesTwoSaid : Prop := framesTwoRow.holds Try.pinned (OpenSpec.ofChange framesTwoSpec)

/-- ITS FALSE NEIGHBOUR: 'it returns false'. Refute it at one input. -/
def framesTwoWrong : ChangeSpec := { name := "framesTwo", fn := fun _ => fun
  | [d1, d2] => { results := [.lit (.bool false)], args := [d1, d2] }
  | _ => none }
def FramesTwoWrongFalsely : Prop := framesTwoRow.holds Try.pinned (OpenSpec.ofChange framesTwoWrong)

/- THE SECOND FORM. 'bulk': how many values and letters a reading holds, each counted each time it is reached (what is shared counts as often as it is met; a slice's spare places count too). A statement '..UptoSaid' is the law's where the arguments, and the package variables that the reading takes, are together of bulk at most 1048576: NARROWER than '..Said'. Prove '..Said' where nothing that the law and all that it calls make is longer than what came in: it says more and counts as full. Else prove '..UptoSaid'. A law counts once. -/
mutual
def uptoBulk {H : Type} : DataW H → Nat
  | .lit (.string bytes) => bytes.length + 1
  | .lit _ => 1
  | .nil => 1
  | .ptr d => uptoBulk d + 1
  | .slice elems spare => uptoBulkAll elems + uptoBulkAll spare + 1
  | .agg parts => uptoBulkAll parts + 1
  | .iface _ d => uptoBulk d + 1
  | .map entries => uptoBulkEntries entries + 1
  | .held _ => 1
def uptoBulkAll {H : Type} : List (DataW H) → Nat
  | [] => 0
  | d :: r => uptoBulk d + uptoBulkAll r
def uptoBulkEntries {H : Type} : List (Lit × DataW H) → Nat
  | [] => 0
  | x :: r => uptoBulkEntry x + uptoBulkEntries r
def uptoBulkEntry {H : Type} : Lit × DataW H → Nat
  | (.string bytes, d) => bytes.length + uptoBulk d + 1
  | (_, d) => uptoBulk d + 1
 end
def uptoSmall : (H : Type) → List (DataW H) → Bool := fun _ ds => decide (uptoBulkAll ds ≤ 1048576)
def OpenSpec.upto (s : _root_.Go.ChangeSpec) : _root_.Go.OpenSpec := { _root_.Go.OpenSpec.ofChange s with cond := some uptoSmall }

/-- 'reckonerlaw12.FramesNone', WHERE WHAT IT READS IS OF BULK AT MOST 1048576: true; the input reads as it did. -/
def framesNoneUptoRow : OpenClaim := { program := "ytolkphbnneoloaa", sum := "7fb759965bbe7a82d2745abd9686ee4eb9a622ab6e7913cf4a1dd646e1b9b56e", func := "reckoner/reckonerlaw12.FramesNone", spec := "framesNone", apart := false, narrowed := true }
def FramesNoneUptoSaid : Prop := framesNoneUptoRow.holds Try.pinned (OpenSpec.upto framesNoneSpec)

/-- 'reckonerlaw12.FramesBack', WHERE WHAT IT READS IS OF BULK AT MOST 1048576: true; the input reads as it did. -/
def framesBackUptoRow : OpenClaim := { program := "ytolkphbnneoloaa", sum := "7fb759965bbe7a82d2745abd9686ee4eb9a622ab6e7913cf4a1dd646e1b9b56e", func := "reckoner/reckonerlaw12.FramesBack", spec := "framesBack", apart := false, narrowed := true }
def FramesBackUptoSaid : Prop := framesBackUptoRow.holds Try.pinned (OpenSpec.upto framesBackSpec)

/-- 'reckonerlaw12.FramesCut', WHERE WHAT IT READS IS OF BULK AT MOST 1048576: true; the input reads as it did. -/
def framesCutUptoRow : OpenClaim := { program := "ytolkphbnneoloaa", sum := "7fb759965bbe7a82d2745abd9686ee4eb9a622ab6e7913cf4a1dd646e1b9b56e", func := "reckoner/reckonerlaw12.FramesCut", spec := "framesCut", apart := false, narrowed := true }
def FramesCutUptoSaid : Prop := framesCutUptoRow.holds Try.pinned (OpenSpec.upto framesCutSpec)

/-- 'reckonerlaw12.FramesLeft', WHERE WHAT IT READS IS OF BULK AT MOST 1048576: true; the input reads as it did. -/
def framesLeftUptoRow : OpenClaim := { program := "ytolkphbnneoloaa", sum := "7fb759965bbe7a82d2745abd9686ee4eb9a622ab6e7913cf4a1dd646e1b9b56e", func := "reckoner/reckonerlaw12.FramesLeft", spec := "framesLeft", apart := false, narrowed := true }
def FramesLeftUptoSaid : Prop := framesLeftUptoRow.holds Try.pinned (OpenSpec.upto framesLeftSpec)

/-- 'reckonerlaw12.FramesLimit', WHERE WHAT IT READS IS OF BULK AT MOST 1048576: true; the input reads as it did. -/
def framesLimitUptoRow : OpenClaim := { program := "ytolkphbnneoloaa", sum := "7fb759965bbe7a82d2745abd9686ee4eb9a622ab6e7913cf4a1dd646e1b9b56e", func := "reckoner/reckonerlaw12.FramesLimit", spec := "framesLimit", apart := false, narrowed := true }
def FramesLimitUptoSaid : Prop := framesLimitUptoRow.holds Try.pinned (OpenSpec.upto framesLimitSpec)

/-- 'reckonerlaw12.FramesTwo', WHERE WHAT IT READS IS OF BULK AT MOST 1048576: true; the input reads as it did. -/
def framesTwoUptoRow : OpenClaim := { program := "ytolkphbnneoloaa", sum := "7fb759965bbe7a82d2745abd9686ee4eb9a622ab6e7913cf4a1dd646e1b9b56e", func := "reckoner/reckonerlaw12.FramesTwo", spec := "framesTwo", apart := false, narrowed := true }
def FramesTwoUptoSaid : Prop := framesTwoUptoRow.holds Try.pinned (OpenSpec.upto framesTwoSpec)

end Rows
end Go.Proofs.Ytolkphbnneoloaa
