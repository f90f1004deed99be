/-
  DERIVED. GIVEN WITH THE SEED: THE CARDS: each row of YtoedalocfepkoaaGreatDoorRows.lean that lists a variable, with what it lists TIED to the program's text (the seventh form; the later family's looks); each row that meets fmt, with fmt's text TOLD by the authors' own Lean function (tested against real Go, not proved from fmt's source: count such statements apart). THE CARD IS WHAT COUNTS. Prove the row's statement (the work); the ties are given (YtoedalocfepkoaaGreatDoorTie.lean); close each card by the builder's one call (the guide's Derived/Test/ToyasCard.lean, 'card_holds'). Laid BY PROGRAM, IN A SANDBOX (cutbox-door.mjs). By AI agents, Wed Nov 11 2026. No macro, syntax, notation, axiom, sorry.
-/
import Derived.Test.YtoedalocfepkoaaGreatDoorRows
import GoSem.ClaimSeven
namespace Go.Proofs.YtoedalocfepkoaaGreatDoor
namespace Rows

/-- THE TIED CARD OF 'reckonerlaw13.LinksPlay'. -/
def linksPlayCard : Claim7 := { stood := { row := linksPlayRow, standIns := [], harness := (true, "b3e3fdaf6e583076722cc335c569c08d8e8e36b142ba40540620395890de8843"), looks := false }, kinds := [], alts := [], laidByText := true, laidKinds := [.data, .data, .data], laidTests := true, laidLooks := .later }
def LinksPlayCardSaid : Prop := Claim7.holds Tryz.pinned (.plain (OpenSpec.ofChange linksPlaySpec)) linksPlayCard

/-- THE SECOND FORM's CARD OF 'reckonerlaw13.LinksPlay'. -/
def linksPlayUptoCard : Claim7 := { stood := { row := linksPlayUptoRow, standIns := [], harness := (true, "b3e3fdaf6e583076722cc335c569c08d8e8e36b142ba40540620395890de8843"), looks := false }, kinds := [], alts := [], laidByText := true, laidKinds := [.data, .data, .data], laidTests := true, laidLooks := .later }
def LinksPlayUptoCardSaid : Prop := Claim7.holds Tryz.pinned (.plain (OpenSpec.upto linksPlaySpec)) linksPlayUptoCard
end Rows
end Go.Proofs.YtoedalocfepkoaaGreatDoor
