/-
  DERIVED. GIVEN WITH THE SEED: THE CARDS: each row of YtolkphbnneoloaaDoorRows.lean that lists a variable, with what it lists TIED to the program's text (the seventh form; the later family's looks); each row that meets fmt, with fmt's text TOLD by the authors' own Lean function (tested against real Go, not proved from fmt's source: count such statements apart). THE CARD IS WHAT COUNTS. Prove the row's statement (the work); the ties are given (YtolkphbnneoloaaDoorTie.lean); close each card by the builder's one call (the guide's Derived/Test/ToyasCard.lean, 'card_holds'). Laid BY PROGRAM, IN A SANDBOX (cutbox-door.mjs). By AI agents, Wed Nov 11 2026. No macro, syntax, notation, axiom, sorry.
-/
import Derived.Test.YtolkphbnneoloaaDoorRows
import GoSem.ClaimSeven
namespace Go.Proofs.YtolkphbnneoloaaDoor
namespace Rows

/-- THE TIED CARD OF 'reckonerlaw12.FramesPut'. -/
def framesPutCard : Claim7 := { stood := { row := framesPutRow, standIns := [], harness := (true, "95ccff8d98d7a3e2d7b4422120c25a7b426a554b20f0a9c77cd7197a633f0df8"), looks := false }, kinds := [], alts := [], laidByText := true, laidKinds := [.data, .data, .data], laidTests := true, laidLooks := .later }
def FramesPutCardSaid : Prop := Claim7.holds Tryd.pinned (.plain (OpenSpec.ofChange framesPutSpec)) framesPutCard

/-- THE TIED CARD OF 'reckonerlaw12.FramesCame'. -/
def framesCameCard : Claim7 := { stood := { row := framesCameRow, standIns := [], harness := (true, "95ccff8d98d7a3e2d7b4422120c25a7b426a554b20f0a9c77cd7197a633f0df8"), looks := false }, kinds := [], alts := [], laidByText := true, laidKinds := [.data, .data, .data], laidTests := true, laidLooks := .later }
def FramesCameCardSaid : Prop := Claim7.holds Tryd.pinned (.plain (OpenSpec.ofChange framesCameSpec)) framesCameCard

/-- THE SECOND FORM's CARD OF 'reckonerlaw12.FramesPut'. -/
def framesPutUptoCard : Claim7 := { stood := { row := framesPutUptoRow, standIns := [], harness := (true, "95ccff8d98d7a3e2d7b4422120c25a7b426a554b20f0a9c77cd7197a633f0df8"), looks := false }, kinds := [], alts := [], laidByText := true, laidKinds := [.data, .data, .data], laidTests := true, laidLooks := .later }
def FramesPutUptoCardSaid : Prop := Claim7.holds Tryd.pinned (.plain (OpenSpec.upto framesPutSpec)) framesPutUptoCard

/-- THE SECOND FORM's CARD OF 'reckonerlaw12.FramesCame'. -/
def framesCameUptoCard : Claim7 := { stood := { row := framesCameUptoRow, standIns := [], harness := (true, "95ccff8d98d7a3e2d7b4422120c25a7b426a554b20f0a9c77cd7197a633f0df8"), looks := false }, kinds := [], alts := [], laidByText := true, laidKinds := [.data, .data, .data], laidTests := true, laidLooks := .later }
def FramesCameUptoCardSaid : Prop := Claim7.holds Tryd.pinned (.plain (OpenSpec.upto framesCameSpec)) framesCameUptoCard
end Rows
end Go.Proofs.YtolkphbnneoloaaDoor
