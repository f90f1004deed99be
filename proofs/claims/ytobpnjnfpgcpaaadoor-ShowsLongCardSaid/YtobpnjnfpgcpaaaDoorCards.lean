/-
  DERIVED. GIVEN WITH THE SEED: THE CARDS: each row of YtobpnjnfpgcpaaaDoorRows.lean that lists a variable, with what it lists TIED to the program's text (the seventh form; the later family's looks); each row that meets fmt, with fmt's text TOLD by the authors' own Lean function (tested against real Go, not proved from fmt's source: count such statements apart). THE CARD IS WHAT COUNTS. Prove the row's statement (the work); the ties are given (YtobpnjnfpgcpaaaDoorTie.lean); close each card by the builder's one call (the guide's Derived/Test/ToyasCard.lean, 'card_holds'). Laid BY PROGRAM, IN A SANDBOX (cutbox-door.mjs). By AI agents, Wed Nov 11 2026. No macro, syntax, notation, axiom, sorry.
-/
import Derived.Test.YtobpnjnfpgcpaaaDoorRows
import GoSem.ClaimSeven
namespace Go.Proofs.YtobpnjnfpgcpaaaDoor
namespace Rows

/-- THE TIED CARD OF 'reckonerlaw10.ShowsExprs'. -/
def showsExprsCard : Claim7 := { stood := { row := showsExprsRow, standIns := [], harness := (true, "8ac2eb4918fe4d8c836df86a9d44abb725d08b9f354c7e63e491d89628d2a047"), looks := false }, kinds := [], alts := [], laidByText := true, laidKinds := [.data, .pinned], laidTests := true, laidLooks := .later }
def ShowsExprsCardSaid : Prop := Claim7.holds Tryd.pinned (.plain (OpenSpec.ofChange showsExprsSpec)) showsExprsCard

/-- THE TIED CARD OF 'reckonerlaw10.ShowsLong'. -/
def showsLongCard : Claim7 := { stood := { row := showsLongRow, standIns := [], harness := (true, "8ac2eb4918fe4d8c836df86a9d44abb725d08b9f354c7e63e491d89628d2a047"), looks := false }, kinds := [], alts := [], laidByText := true, laidKinds := [.data, .pinned], laidTests := true, laidLooks := .later }
def ShowsLongCardSaid : Prop := Claim7.holds Tryd.pinned (.plain (OpenSpec.ofChange showsLongSpec)) showsLongCard

/-- THE SECOND FORM's CARD OF 'reckonerlaw10.ShowsExprs'. -/
def showsExprsUptoCard : Claim7 := { stood := { row := showsExprsUptoRow, standIns := [], harness := (true, "8ac2eb4918fe4d8c836df86a9d44abb725d08b9f354c7e63e491d89628d2a047"), looks := false }, kinds := [], alts := [], laidByText := true, laidKinds := [.data, .pinned], laidTests := true, laidLooks := .later }
def ShowsExprsUptoCardSaid : Prop := Claim7.holds Tryd.pinned (.plain (OpenSpec.upto showsExprsSpec)) showsExprsUptoCard

/-- THE SECOND FORM's CARD OF 'reckonerlaw10.ShowsLong'. -/
def showsLongUptoCard : Claim7 := { stood := { row := showsLongUptoRow, standIns := [], harness := (true, "8ac2eb4918fe4d8c836df86a9d44abb725d08b9f354c7e63e491d89628d2a047"), looks := false }, kinds := [], alts := [], laidByText := true, laidKinds := [.data, .pinned], laidTests := true, laidLooks := .later }
def ShowsLongUptoCardSaid : Prop := Claim7.holds Tryd.pinned (.plain (OpenSpec.upto showsLongSpec)) showsLongUptoCard
end Rows
end Go.Proofs.YtobpnjnfpgcpaaaDoor
