/-
  DERIVED. GIVEN WITH THE SEED: THE CARDS: each row of YtmkhfonafcikdaaGreatDoorRows.lean that lists a variable, with what it lists TIED to the program's text (the seventh form; the later family's looks); each row that meets fmt, with fmt's text TOLD by the authors' own Lean function (tested against real Go, not proved from fmt's source: count such statements apart). THE CARD IS WHAT COUNTS. Prove the row's statement (the work); the ties are given (YtmkhfonafcikdaaGreatDoorTie.lean); close each card by the builder's one call (the guide's Derived/Test/ToyasCard.lean, 'card_holds'). Laid BY PROGRAM, IN A SANDBOX (cutbox-door.mjs). By AI agents, Wed Nov 11 2026. No macro, syntax, notation, axiom, sorry.
-/
import Derived.Test.YtmkhfonafcikdaaGreatDoorRows
import GoSem.ClaimSeven
namespace Go.Proofs.YtmkhfonafcikdaaGreatDoor
namespace Rows

/-- THE TIED CARD OF 'reckonerlaw11.ScopesChecks'. -/
def scopesChecksCard : Claim7 := { stood := { row := scopesChecksRow, standIns := [], harness := (true, "87deca4d6e787c5109abdeec2038a5d4896d9b159d17586b4d7ddc630279b48b"), looks := true }, kinds := [], alts := [], laidByText := true, laidKinds := [.data, .pinned], laidTests := true, laidLooks := .later }
def ScopesChecksCardSaid : Prop := Claim7.holds Tryz.pinned (.plain (OpenSpec.ofChange scopesChecksSpec)) scopesChecksCard

/-- THE TIED CARD OF 'reckonerlaw11.ScopesNames'. -/
def scopesNamesCard : Claim7 := { stood := { row := scopesNamesRow, standIns := [], harness := (true, "87deca4d6e787c5109abdeec2038a5d4896d9b159d17586b4d7ddc630279b48b"), looks := true }, kinds := [], alts := [], laidByText := true, laidKinds := [.data, .data, .data, .data, .pinned], laidTests := true, laidLooks := .later }
def ScopesNamesCardSaid : Prop := Claim7.holds Tryz.pinned (.plain (OpenSpec.ofChange scopesNamesSpec)) scopesNamesCard

/-- THE TIED CARD OF 'reckonerlaw11.ScopesUsed'. -/
def scopesUsedCard : Claim7 := { stood := { row := scopesUsedRow, standIns := [], harness := (true, "87deca4d6e787c5109abdeec2038a5d4896d9b159d17586b4d7ddc630279b48b"), looks := true }, kinds := [], alts := [], laidByText := true, laidKinds := [.data, .pinned], laidTests := true, laidLooks := .later }
def ScopesUsedCardSaid : Prop := Claim7.holds Tryz.pinned (.plain (OpenSpec.ofChange scopesUsedSpec)) scopesUsedCard

/-- THE TIED CARD OF 'reckonerlaw11.ScopesApart'. -/
def scopesApartCard : Claim7 := { stood := { row := scopesApartRow, standIns := [], harness := (true, "87deca4d6e787c5109abdeec2038a5d4896d9b159d17586b4d7ddc630279b48b"), looks := true }, kinds := [], alts := [], laidByText := true, laidKinds := [.data, .pinned], laidTests := true, laidLooks := .later }
def ScopesApartCardSaid : Prop := Claim7.holds Tryz.pinned (.plain (OpenSpec.ofChange scopesApartSpec)) scopesApartCard

/-- THE TIED CARD OF 'reckonerlaw11.ScopesCalls'. -/
def scopesCallsCard : Claim7 := { stood := { row := scopesCallsRow, standIns := [], harness := (true, "87deca4d6e787c5109abdeec2038a5d4896d9b159d17586b4d7ddc630279b48b"), looks := true }, kinds := [], alts := [], laidByText := true, laidKinds := [.data, .pinned], laidTests := true, laidLooks := .later }
def ScopesCallsCardSaid : Prop := Claim7.holds Tryz.pinned (.plain (OpenSpec.ofChange scopesCallsSpec)) scopesCallsCard

/-- THE TIED CARD OF 'reckonerlaw11.ScopesTwice'. -/
def scopesTwiceCard : Claim7 := { stood := { row := scopesTwiceRow, standIns := [], harness := (true, "87deca4d6e787c5109abdeec2038a5d4896d9b159d17586b4d7ddc630279b48b"), looks := true }, kinds := [], alts := [], laidByText := true, laidKinds := [.data, .pinned], laidTests := true, laidLooks := .later }
def ScopesTwiceCardSaid : Prop := Claim7.holds Tryz.pinned (.plain (OpenSpec.ofChange scopesTwiceSpec)) scopesTwiceCard

/-- THE TIED CARD OF 'reckonerlaw11.ScopesOrder'. -/
def scopesOrderCard : Claim7 := { stood := { row := scopesOrderRow, standIns := [], harness := (true, "87deca4d6e787c5109abdeec2038a5d4896d9b159d17586b4d7ddc630279b48b"), looks := true }, kinds := [], alts := [], laidByText := true, laidKinds := [.data, .pinned], laidTests := true, laidLooks := .later }
def ScopesOrderCardSaid : Prop := Claim7.holds Tryz.pinned (.plain (OpenSpec.ofChange scopesOrderSpec)) scopesOrderCard

/-- THE SECOND FORM's CARD OF 'reckonerlaw11.ScopesChecks'. -/
def scopesChecksUptoCard : Claim7 := { stood := { row := scopesChecksUptoRow, standIns := [], harness := (true, "87deca4d6e787c5109abdeec2038a5d4896d9b159d17586b4d7ddc630279b48b"), looks := true }, kinds := [], alts := [], laidByText := true, laidKinds := [.data, .pinned], laidTests := true, laidLooks := .later }
def ScopesChecksUptoCardSaid : Prop := Claim7.holds Tryz.pinned (.plain (OpenSpec.upto scopesChecksSpec)) scopesChecksUptoCard

/-- THE SECOND FORM's CARD OF 'reckonerlaw11.ScopesNames'. -/
def scopesNamesUptoCard : Claim7 := { stood := { row := scopesNamesUptoRow, standIns := [], harness := (true, "87deca4d6e787c5109abdeec2038a5d4896d9b159d17586b4d7ddc630279b48b"), looks := true }, kinds := [], alts := [], laidByText := true, laidKinds := [.data, .data, .data, .data, .pinned], laidTests := true, laidLooks := .later }
def ScopesNamesUptoCardSaid : Prop := Claim7.holds Tryz.pinned (.plain (OpenSpec.upto scopesNamesSpec)) scopesNamesUptoCard

/-- THE SECOND FORM's CARD OF 'reckonerlaw11.ScopesUsed'. -/
def scopesUsedUptoCard : Claim7 := { stood := { row := scopesUsedUptoRow, standIns := [], harness := (true, "87deca4d6e787c5109abdeec2038a5d4896d9b159d17586b4d7ddc630279b48b"), looks := true }, kinds := [], alts := [], laidByText := true, laidKinds := [.data, .pinned], laidTests := true, laidLooks := .later }
def ScopesUsedUptoCardSaid : Prop := Claim7.holds Tryz.pinned (.plain (OpenSpec.upto scopesUsedSpec)) scopesUsedUptoCard

/-- THE SECOND FORM's CARD OF 'reckonerlaw11.ScopesApart'. -/
def scopesApartUptoCard : Claim7 := { stood := { row := scopesApartUptoRow, standIns := [], harness := (true, "87deca4d6e787c5109abdeec2038a5d4896d9b159d17586b4d7ddc630279b48b"), looks := true }, kinds := [], alts := [], laidByText := true, laidKinds := [.data, .pinned], laidTests := true, laidLooks := .later }
def ScopesApartUptoCardSaid : Prop := Claim7.holds Tryz.pinned (.plain (OpenSpec.upto scopesApartSpec)) scopesApartUptoCard

/-- THE SECOND FORM's CARD OF 'reckonerlaw11.ScopesCalls'. -/
def scopesCallsUptoCard : Claim7 := { stood := { row := scopesCallsUptoRow, standIns := [], harness := (true, "87deca4d6e787c5109abdeec2038a5d4896d9b159d17586b4d7ddc630279b48b"), looks := true }, kinds := [], alts := [], laidByText := true, laidKinds := [.data, .pinned], laidTests := true, laidLooks := .later }
def ScopesCallsUptoCardSaid : Prop := Claim7.holds Tryz.pinned (.plain (OpenSpec.upto scopesCallsSpec)) scopesCallsUptoCard

/-- THE SECOND FORM's CARD OF 'reckonerlaw11.ScopesTwice'. -/
def scopesTwiceUptoCard : Claim7 := { stood := { row := scopesTwiceUptoRow, standIns := [], harness := (true, "87deca4d6e787c5109abdeec2038a5d4896d9b159d17586b4d7ddc630279b48b"), looks := true }, kinds := [], alts := [], laidByText := true, laidKinds := [.data, .pinned], laidTests := true, laidLooks := .later }
def ScopesTwiceUptoCardSaid : Prop := Claim7.holds Tryz.pinned (.plain (OpenSpec.upto scopesTwiceSpec)) scopesTwiceUptoCard

/-- THE SECOND FORM's CARD OF 'reckonerlaw11.ScopesOrder'. -/
def scopesOrderUptoCard : Claim7 := { stood := { row := scopesOrderUptoRow, standIns := [], harness := (true, "87deca4d6e787c5109abdeec2038a5d4896d9b159d17586b4d7ddc630279b48b"), looks := true }, kinds := [], alts := [], laidByText := true, laidKinds := [.data, .pinned], laidTests := true, laidLooks := .later }
def ScopesOrderUptoCardSaid : Prop := Claim7.holds Tryz.pinned (.plain (OpenSpec.upto scopesOrderSpec)) scopesOrderUptoCard
end Rows
end Go.Proofs.YtmkhfonafcikdaaGreatDoor
