/-
  DERIVED. GIVEN WITH THE SEED: THE CARDS: each row of YtobpnjnfpgcpaaaGreatDoorRows.lean that lists a variable, with what it lists TIED to the program's text (the seventh form; the later family's looks); each row that meets fmt, with fmt's text TOLD by the authors' own Lean function (tested against real Go, not proved from fmt's source: count such statements apart). THE CARD IS WHAT COUNTS. Prove the row's statement (the work); the ties are given (YtobpnjnfpgcpaaaGreatDoorTie.lean); close each card by the builder's one call (the guide's Derived/Test/ToyasCard.lean, 'card_holds'). Laid BY PROGRAM, IN A SANDBOX (cutbox-door.mjs). By AI agents, Wed Nov 11 2026. No macro, syntax, notation, axiom, sorry.
-/
import Derived.Test.YtobpnjnfpgcpaaaGreatDoorRows
import GoSem.ClaimSeven
namespace Go.Proofs.YtobpnjnfpgcpaaaGreatDoor
namespace Rows

/-- THE TIED CARD OF 'reckonerlaw10.ShowsTexts'. -/
def showsTextsCard : Claim7 := { stood := { row := showsTextsRow, standIns := [], harness := (true, "de64e04d71e94082377b6bb8a54734e52bcdf49eef8ad624466fa7b31e71171d"), looks := true }, kinds := [], alts := [], laidByText := true, laidKinds := [.data, .pinned], laidTests := true, laidLooks := .later }
def ShowsTextsCardSaid : Prop := Claim7.holds Tryz.pinned (.plain (OpenSpec.ofChange showsTextsSpec)) showsTextsCard

/-- THE TIED CARD OF 'reckonerlaw10.ShowsBack'. -/
def showsBackCard : Claim7 := { stood := { row := showsBackRow, standIns := [], harness := (true, "de64e04d71e94082377b6bb8a54734e52bcdf49eef8ad624466fa7b31e71171d"), looks := true }, kinds := [], alts := [], laidByText := true, laidKinds := [.data, .pinned], laidTests := true, laidLooks := .later }
def ShowsBackCardSaid : Prop := Claim7.holds Tryz.pinned (.plain (OpenSpec.ofChange showsBackSpec)) showsBackCard

/-- THE TIED CARD OF 'reckonerlaw10.ShowsLeast'. -/
def showsLeastCard : Claim7 := { stood := { row := showsLeastRow, standIns := [], harness := (true, "de64e04d71e94082377b6bb8a54734e52bcdf49eef8ad624466fa7b31e71171d"), looks := true }, kinds := [], alts := [], laidByText := true, laidKinds := [.data, .pinned], laidTests := true, laidLooks := .later }
def ShowsLeastCardSaid : Prop := Claim7.holds Tryz.pinned (.plain (OpenSpec.ofChange showsLeastSpec)) showsLeastCard

/-- THE TIED CARD OF 'reckonerlaw10.ShowsParts'. -/
def showsPartsCard : Claim7 := { stood := { row := showsPartsRow, standIns := [], harness := (true, "de64e04d71e94082377b6bb8a54734e52bcdf49eef8ad624466fa7b31e71171d"), looks := true }, kinds := [], alts := [], laidByText := true, laidKinds := [.data, .pinned], laidTests := true, laidLooks := .later }
def ShowsPartsCardSaid : Prop := Claim7.holds Tryz.pinned (.plain (OpenSpec.ofChange showsPartsSpec)) showsPartsCard

/-- THE TIED CARD OF 'reckonerlaw10.ShowsBlocks'. -/
def showsBlocksCard : Claim7 := { stood := { row := showsBlocksRow, standIns := [], harness := (true, "de64e04d71e94082377b6bb8a54734e52bcdf49eef8ad624466fa7b31e71171d"), looks := true }, kinds := [], alts := [], laidByText := true, laidKinds := [.data, .pinned], laidTests := true, laidLooks := .later }
def ShowsBlocksCardSaid : Prop := Claim7.holds Tryz.pinned (.plain (OpenSpec.ofChange showsBlocksSpec)) showsBlocksCard

/-- THE SECOND FORM's CARD OF 'reckonerlaw10.ShowsTexts'. -/
def showsTextsUptoCard : Claim7 := { stood := { row := showsTextsUptoRow, standIns := [], harness := (true, "de64e04d71e94082377b6bb8a54734e52bcdf49eef8ad624466fa7b31e71171d"), looks := true }, kinds := [], alts := [], laidByText := true, laidKinds := [.data, .pinned], laidTests := true, laidLooks := .later }
def ShowsTextsUptoCardSaid : Prop := Claim7.holds Tryz.pinned (.plain (OpenSpec.upto showsTextsSpec)) showsTextsUptoCard

/-- THE SECOND FORM's CARD OF 'reckonerlaw10.ShowsBack'. -/
def showsBackUptoCard : Claim7 := { stood := { row := showsBackUptoRow, standIns := [], harness := (true, "de64e04d71e94082377b6bb8a54734e52bcdf49eef8ad624466fa7b31e71171d"), looks := true }, kinds := [], alts := [], laidByText := true, laidKinds := [.data, .pinned], laidTests := true, laidLooks := .later }
def ShowsBackUptoCardSaid : Prop := Claim7.holds Tryz.pinned (.plain (OpenSpec.upto showsBackSpec)) showsBackUptoCard

/-- THE SECOND FORM's CARD OF 'reckonerlaw10.ShowsLeast'. -/
def showsLeastUptoCard : Claim7 := { stood := { row := showsLeastUptoRow, standIns := [], harness := (true, "de64e04d71e94082377b6bb8a54734e52bcdf49eef8ad624466fa7b31e71171d"), looks := true }, kinds := [], alts := [], laidByText := true, laidKinds := [.data, .pinned], laidTests := true, laidLooks := .later }
def ShowsLeastUptoCardSaid : Prop := Claim7.holds Tryz.pinned (.plain (OpenSpec.upto showsLeastSpec)) showsLeastUptoCard

/-- THE SECOND FORM's CARD OF 'reckonerlaw10.ShowsParts'. -/
def showsPartsUptoCard : Claim7 := { stood := { row := showsPartsUptoRow, standIns := [], harness := (true, "de64e04d71e94082377b6bb8a54734e52bcdf49eef8ad624466fa7b31e71171d"), looks := true }, kinds := [], alts := [], laidByText := true, laidKinds := [.data, .pinned], laidTests := true, laidLooks := .later }
def ShowsPartsUptoCardSaid : Prop := Claim7.holds Tryz.pinned (.plain (OpenSpec.upto showsPartsSpec)) showsPartsUptoCard

/-- THE SECOND FORM's CARD OF 'reckonerlaw10.ShowsBlocks'. -/
def showsBlocksUptoCard : Claim7 := { stood := { row := showsBlocksUptoRow, standIns := [], harness := (true, "de64e04d71e94082377b6bb8a54734e52bcdf49eef8ad624466fa7b31e71171d"), looks := true }, kinds := [], alts := [], laidByText := true, laidKinds := [.data, .pinned], laidTests := true, laidLooks := .later }
def ShowsBlocksUptoCardSaid : Prop := Claim7.holds Tryz.pinned (.plain (OpenSpec.upto showsBlocksSpec)) showsBlocksUptoCard
end Rows
end Go.Proofs.YtobpnjnfpgcpaaaGreatDoor
