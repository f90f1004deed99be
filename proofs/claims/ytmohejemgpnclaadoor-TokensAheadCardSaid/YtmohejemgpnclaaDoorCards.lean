/-
  DERIVED. GIVEN WITH THE SEED: THE CARDS: each row of YtmohejemgpnclaaDoorRows.lean that lists a variable, with what it lists TIED to the program's text (the seventh form; the later family's looks); each row that meets fmt, with fmt's text TOLD by the authors' own Lean function (tested against real Go, not proved from fmt's source: count such statements apart). THE CARD IS WHAT COUNTS. Prove the row's statement (the work); the ties are given (YtmohejemgpnclaaDoorTie.lean); close each card by the builder's one call (the guide's Derived/Test/ToyasCard.lean, 'card_holds'). Laid BY PROGRAM, IN A SANDBOX (cutbox-door.mjs). By AI agents, Wed Nov 11 2026. No macro, syntax, notation, axiom, sorry.
-/
import Derived.Test.YtmohejemgpnclaaDoorRows
import GoSem.ClaimSeven
namespace Go.Proofs.YtmohejemgpnclaaDoor
namespace Rows

/-- THE TIED CARD OF 'reckonerlaw08.TokensNames'. -/
def tokensNamesCard : Claim7 := { stood := { row := tokensNamesRow, standIns := [], harness := (true, "c370d8f93dc616953f45d6fc0decf2468911f09089fba92bc3adbee56548ddef"), looks := false }, kinds := [], alts := [], laidByText := true, laidKinds := [.data, .pinned], laidTests := true, laidLooks := .later }
def TokensNamesCardSaid : Prop := Claim7.holds Tryd.pinned (.plain (OpenSpec.ofChange tokensNamesSpec)) tokensNamesCard

/-- THE TIED CARD OF 'reckonerlaw08.TokensPlaces'. -/
def tokensPlacesCard : Claim7 := { stood := { row := tokensPlacesRow, standIns := [], harness := (true, "c370d8f93dc616953f45d6fc0decf2468911f09089fba92bc3adbee56548ddef"), looks := false }, kinds := [], alts := [], laidByText := true, laidKinds := [.data, .pinned], laidTests := true, laidLooks := .later }
def TokensPlacesCardSaid : Prop := Claim7.holds Tryd.pinned (.plain (OpenSpec.ofChange tokensPlacesSpec)) tokensPlacesCard

/-- THE TIED CARD OF 'reckonerlaw08.TokensAgain'. -/
def tokensAgainCard : Claim7 := { stood := { row := tokensAgainRow, standIns := [], harness := (true, "c370d8f93dc616953f45d6fc0decf2468911f09089fba92bc3adbee56548ddef"), looks := false }, kinds := [], alts := [], laidByText := true, laidKinds := [.data, .pinned], laidTests := true, laidLooks := .later }
def TokensAgainCardSaid : Prop := Claim7.holds Tryd.pinned (.plain (OpenSpec.ofChange tokensAgainSpec)) tokensAgainCard

/-- THE TIED CARD OF 'reckonerlaw08.TokensWords'. -/
def tokensWordsCard : Claim7 := { stood := { row := tokensWordsRow, standIns := [], harness := (true, "c370d8f93dc616953f45d6fc0decf2468911f09089fba92bc3adbee56548ddef"), looks := false }, kinds := [], alts := [], laidByText := true, laidKinds := [.data, .pinned], laidTests := true, laidLooks := .later }
def TokensWordsCardSaid : Prop := Claim7.holds Tryd.pinned (.plain (OpenSpec.ofChange tokensWordsSpec)) tokensWordsCard

/-- THE TIED CARD OF 'reckonerlaw08.TokensAhead'. -/
def tokensAheadCard : Claim7 := { stood := { row := tokensAheadRow, standIns := [], harness := (true, "c370d8f93dc616953f45d6fc0decf2468911f09089fba92bc3adbee56548ddef"), looks := false }, kinds := [], alts := [], laidByText := true, laidKinds := [.data, .pinned], laidTests := true, laidLooks := .later }
def TokensAheadCardSaid : Prop := Claim7.holds Tryd.pinned (.plain (OpenSpec.ofChange tokensAheadSpec)) tokensAheadCard

/-- THE TIED CARD OF 'reckonerlaw08.TokensSigns'. -/
def tokensSignsCard : Claim7 := { stood := { row := tokensSignsRow, standIns := [], harness := (true, "c370d8f93dc616953f45d6fc0decf2468911f09089fba92bc3adbee56548ddef"), looks := false }, kinds := [], alts := [], laidByText := true, laidKinds := [.data, .pinned], laidTests := true, laidLooks := .later }
def TokensSignsCardSaid : Prop := Claim7.holds Tryd.pinned (.plain (OpenSpec.ofChange tokensSignsSpec)) tokensSignsCard

/-- THE SECOND FORM's CARD OF 'reckonerlaw08.TokensNames'. -/
def tokensNamesUptoCard : Claim7 := { stood := { row := tokensNamesUptoRow, standIns := [], harness := (true, "c370d8f93dc616953f45d6fc0decf2468911f09089fba92bc3adbee56548ddef"), looks := false }, kinds := [], alts := [], laidByText := true, laidKinds := [.data, .pinned], laidTests := true, laidLooks := .later }
def TokensNamesUptoCardSaid : Prop := Claim7.holds Tryd.pinned (.plain (OpenSpec.upto tokensNamesSpec)) tokensNamesUptoCard

/-- THE SECOND FORM's CARD OF 'reckonerlaw08.TokensPlaces'. -/
def tokensPlacesUptoCard : Claim7 := { stood := { row := tokensPlacesUptoRow, standIns := [], harness := (true, "c370d8f93dc616953f45d6fc0decf2468911f09089fba92bc3adbee56548ddef"), looks := false }, kinds := [], alts := [], laidByText := true, laidKinds := [.data, .pinned], laidTests := true, laidLooks := .later }
def TokensPlacesUptoCardSaid : Prop := Claim7.holds Tryd.pinned (.plain (OpenSpec.upto tokensPlacesSpec)) tokensPlacesUptoCard

/-- THE SECOND FORM's CARD OF 'reckonerlaw08.TokensAgain'. -/
def tokensAgainUptoCard : Claim7 := { stood := { row := tokensAgainUptoRow, standIns := [], harness := (true, "c370d8f93dc616953f45d6fc0decf2468911f09089fba92bc3adbee56548ddef"), looks := false }, kinds := [], alts := [], laidByText := true, laidKinds := [.data, .pinned], laidTests := true, laidLooks := .later }
def TokensAgainUptoCardSaid : Prop := Claim7.holds Tryd.pinned (.plain (OpenSpec.upto tokensAgainSpec)) tokensAgainUptoCard

/-- THE SECOND FORM's CARD OF 'reckonerlaw08.TokensWords'. -/
def tokensWordsUptoCard : Claim7 := { stood := { row := tokensWordsUptoRow, standIns := [], harness := (true, "c370d8f93dc616953f45d6fc0decf2468911f09089fba92bc3adbee56548ddef"), looks := false }, kinds := [], alts := [], laidByText := true, laidKinds := [.data, .pinned], laidTests := true, laidLooks := .later }
def TokensWordsUptoCardSaid : Prop := Claim7.holds Tryd.pinned (.plain (OpenSpec.upto tokensWordsSpec)) tokensWordsUptoCard

/-- THE SECOND FORM's CARD OF 'reckonerlaw08.TokensAhead'. -/
def tokensAheadUptoCard : Claim7 := { stood := { row := tokensAheadUptoRow, standIns := [], harness := (true, "c370d8f93dc616953f45d6fc0decf2468911f09089fba92bc3adbee56548ddef"), looks := false }, kinds := [], alts := [], laidByText := true, laidKinds := [.data, .pinned], laidTests := true, laidLooks := .later }
def TokensAheadUptoCardSaid : Prop := Claim7.holds Tryd.pinned (.plain (OpenSpec.upto tokensAheadSpec)) tokensAheadUptoCard

/-- THE SECOND FORM's CARD OF 'reckonerlaw08.TokensSigns'. -/
def tokensSignsUptoCard : Claim7 := { stood := { row := tokensSignsUptoRow, standIns := [], harness := (true, "c370d8f93dc616953f45d6fc0decf2468911f09089fba92bc3adbee56548ddef"), looks := false }, kinds := [], alts := [], laidByText := true, laidKinds := [.data, .pinned], laidTests := true, laidLooks := .later }
def TokensSignsUptoCardSaid : Prop := Claim7.holds Tryd.pinned (.plain (OpenSpec.upto tokensSignsSpec)) tokensSignsUptoCard
end Rows
end Go.Proofs.YtmohejemgpnclaaDoor
