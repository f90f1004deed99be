/-
  DERIVED. GIVEN WITH THE SEED: THE CARDS: each row of YtcldcigopkfmmaaGreatDoorRows.lean that lists a variable, with what it lists TIED to the program's text (the seventh form; the later family's looks); each row that meets fmt, with fmt's text TOLD by the authors' own Lean function (tested against real Go, not proved from fmt's source: count such statements apart). THE CARD IS WHAT COUNTS. Prove the row's statement (the work); the ties are given (YtcldcigopkfmmaaGreatDoorTie.lean); close each card by the builder's one call (the guide's Derived/Test/ToyasCard.lean, 'card_holds'). Laid BY PROGRAM, IN A SANDBOX (cutbox-door.mjs). By AI agents, Wed Nov 11 2026. No macro, syntax, notation, axiom, sorry.
-/
import Derived.Test.YtcldcigopkfmmaaGreatDoorRows
import GoSem.ClaimSeven
namespace Go.Proofs.YtcldcigopkfmmaaGreatDoor
namespace Rows

/-- THE TIED CARD OF 'reckonerlaw08.TokensReads'. -/
def tokensReadsCard : Claim7 := { stood := { row := tokensReadsRow, standIns := [], harness := (true, "b58e6e1ea2618a4779c2d4c5c1b8eb9cc95e662b4ba0814b82d05c518d7d2d4b"), looks := true }, kinds := [], alts := [], laidByText := true, laidKinds := [.data, .data, .data, .data, .pinned], laidTests := true, laidLooks := .later }
def TokensReadsCardSaid : Prop := Claim7.holds Tryz.pinned (.plain (OpenSpec.ofChange tokensReadsSpec)) tokensReadsCard

/-- THE TIED CARD OF 'reckonerlaw09.TreesParses'. -/
def treesParsesCard : Claim7 := { stood := { row := treesParsesRow, standIns := [], harness := (true, "b58e6e1ea2618a4779c2d4c5c1b8eb9cc95e662b4ba0814b82d05c518d7d2d4b"), looks := true }, kinds := [], alts := [], laidByText := true, laidKinds := [.data, .data, .data, .data, .pinned], laidTests := true, laidLooks := .later }
def TreesParsesCardSaid : Prop := Claim7.holds Tryz.pinned (.plain (OpenSpec.ofChange treesParsesSpec)) treesParsesCard

/-- THE SECOND FORM's CARD OF 'reckonerlaw08.TokensReads'. -/
def tokensReadsUptoCard : Claim7 := { stood := { row := tokensReadsUptoRow, standIns := [], harness := (true, "b58e6e1ea2618a4779c2d4c5c1b8eb9cc95e662b4ba0814b82d05c518d7d2d4b"), looks := true }, kinds := [], alts := [], laidByText := true, laidKinds := [.data, .data, .data, .data, .pinned], laidTests := true, laidLooks := .later }
def TokensReadsUptoCardSaid : Prop := Claim7.holds Tryz.pinned (.plain (OpenSpec.upto tokensReadsSpec)) tokensReadsUptoCard

/-- THE SECOND FORM's CARD OF 'reckonerlaw09.TreesParses'. -/
def treesParsesUptoCard : Claim7 := { stood := { row := treesParsesUptoRow, standIns := [], harness := (true, "b58e6e1ea2618a4779c2d4c5c1b8eb9cc95e662b4ba0814b82d05c518d7d2d4b"), looks := true }, kinds := [], alts := [], laidByText := true, laidKinds := [.data, .data, .data, .data, .pinned], laidTests := true, laidLooks := .later }
def TreesParsesUptoCardSaid : Prop := Claim7.holds Tryz.pinned (.plain (OpenSpec.upto treesParsesSpec)) treesParsesUptoCard
end Rows
end Go.Proofs.YtcldcigopkfmmaaGreatDoor
