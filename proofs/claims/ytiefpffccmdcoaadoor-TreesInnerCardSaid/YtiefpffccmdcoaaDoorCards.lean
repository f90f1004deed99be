/-
  DERIVED. GIVEN WITH THE SEED: THE CARDS: each row of YtiefpffccmdcoaaDoorRows.lean that lists a variable, with what it lists TIED to the program's text (the seventh form; the later family's looks); each row that meets fmt, with fmt's text TOLD by the authors' own Lean function (tested against real Go, not proved from fmt's source: count such statements apart). THE CARD IS WHAT COUNTS. Prove the row's statement (the work); the ties are given (YtiefpffccmdcoaaDoorTie.lean); close each card by the builder's one call (the guide's Derived/Test/ToyasCard.lean, 'card_holds'). Laid BY PROGRAM, IN A SANDBOX (cutbox-door.mjs). By AI agents, Wed Nov 11 2026. No macro, syntax, notation, axiom, sorry.
-/
import Derived.Test.YtiefpffccmdcoaaDoorRows
import GoSem.ClaimSeven
namespace Go.Proofs.YtiefpffccmdcoaaDoor
namespace Rows

/-- THE TIED CARD OF 'reckonerlaw09.TreesChecks'. -/
def treesChecksCard : Claim7 := { stood := { row := treesChecksRow, standIns := [], harness := (true, "4c89484f9dec182d2d51272b1caa8667451e5598b62b715d25118ae1c0cc2e56"), looks := true }, kinds := [], alts := [], laidByText := true, laidKinds := [.data, .pinned], laidTests := true, laidLooks := .later }
def TreesChecksCardSaid : Prop := Claim7.holds Tryd.pinned (.plain (OpenSpec.ofChange treesChecksSpec)) treesChecksCard

/-- THE TIED CARD OF 'reckonerlaw09.TreesSilent'. -/
def treesSilentCard : Claim7 := { stood := { row := treesSilentRow, standIns := [], harness := (true, "4c89484f9dec182d2d51272b1caa8667451e5598b62b715d25118ae1c0cc2e56"), looks := true }, kinds := [], alts := [], laidByText := true, laidKinds := [.data, .pinned], laidTests := true, laidLooks := .later }
def TreesSilentCardSaid : Prop := Claim7.holds Tryd.pinned (.plain (OpenSpec.ofChange treesSilentSpec)) treesSilentCard

/-- THE TIED CARD OF 'reckonerlaw09.TreesRanks'. -/
def treesRanksCard : Claim7 := { stood := { row := treesRanksRow, standIns := [], harness := (true, "4c89484f9dec182d2d51272b1caa8667451e5598b62b715d25118ae1c0cc2e56"), looks := true }, kinds := [], alts := [], laidByText := true, laidKinds := [.data, .pinned], laidTests := true, laidLooks := .later }
def TreesRanksCardSaid : Prop := Claim7.holds Tryd.pinned (.plain (OpenSpec.ofChange treesRanksSpec)) treesRanksCard

/-- THE TIED CARD OF 'reckonerlaw09.TreesMay'. -/
def treesMayCard : Claim7 := { stood := { row := treesMayRow, standIns := [], harness := (true, "4c89484f9dec182d2d51272b1caa8667451e5598b62b715d25118ae1c0cc2e56"), looks := true }, kinds := [], alts := [], laidByText := true, laidKinds := [.data, .pinned], laidTests := true, laidLooks := .later }
def TreesMayCardSaid : Prop := Claim7.holds Tryd.pinned (.plain (OpenSpec.ofChange treesMaySpec)) treesMayCard

/-- THE TIED CARD OF 'reckonerlaw09.TreesDeep'. -/
def treesDeepCard : Claim7 := { stood := { row := treesDeepRow, standIns := [], harness := (true, "4c89484f9dec182d2d51272b1caa8667451e5598b62b715d25118ae1c0cc2e56"), looks := true }, kinds := [], alts := [], laidByText := true, laidKinds := [.data, .pinned], laidTests := true, laidLooks := .later }
def TreesDeepCardSaid : Prop := Claim7.holds Tryd.pinned (.plain (OpenSpec.ofChange treesDeepSpec)) treesDeepCard

/-- THE TIED CARD OF 'reckonerlaw09.TreesInner'. -/
def treesInnerCard : Claim7 := { stood := { row := treesInnerRow, standIns := [], harness := (true, "4c89484f9dec182d2d51272b1caa8667451e5598b62b715d25118ae1c0cc2e56"), looks := true }, kinds := [], alts := [], laidByText := true, laidKinds := [.data, .pinned], laidTests := true, laidLooks := .later }
def TreesInnerCardSaid : Prop := Claim7.holds Tryd.pinned (.plain (OpenSpec.ofChange treesInnerSpec)) treesInnerCard

/-- THE SECOND FORM's CARD OF 'reckonerlaw09.TreesChecks'. -/
def treesChecksUptoCard : Claim7 := { stood := { row := treesChecksUptoRow, standIns := [], harness := (true, "4c89484f9dec182d2d51272b1caa8667451e5598b62b715d25118ae1c0cc2e56"), looks := true }, kinds := [], alts := [], laidByText := true, laidKinds := [.data, .pinned], laidTests := true, laidLooks := .later }
def TreesChecksUptoCardSaid : Prop := Claim7.holds Tryd.pinned (.plain (OpenSpec.upto treesChecksSpec)) treesChecksUptoCard

/-- THE SECOND FORM's CARD OF 'reckonerlaw09.TreesSilent'. -/
def treesSilentUptoCard : Claim7 := { stood := { row := treesSilentUptoRow, standIns := [], harness := (true, "4c89484f9dec182d2d51272b1caa8667451e5598b62b715d25118ae1c0cc2e56"), looks := true }, kinds := [], alts := [], laidByText := true, laidKinds := [.data, .pinned], laidTests := true, laidLooks := .later }
def TreesSilentUptoCardSaid : Prop := Claim7.holds Tryd.pinned (.plain (OpenSpec.upto treesSilentSpec)) treesSilentUptoCard

/-- THE SECOND FORM's CARD OF 'reckonerlaw09.TreesRanks'. -/
def treesRanksUptoCard : Claim7 := { stood := { row := treesRanksUptoRow, standIns := [], harness := (true, "4c89484f9dec182d2d51272b1caa8667451e5598b62b715d25118ae1c0cc2e56"), looks := true }, kinds := [], alts := [], laidByText := true, laidKinds := [.data, .pinned], laidTests := true, laidLooks := .later }
def TreesRanksUptoCardSaid : Prop := Claim7.holds Tryd.pinned (.plain (OpenSpec.upto treesRanksSpec)) treesRanksUptoCard

/-- THE SECOND FORM's CARD OF 'reckonerlaw09.TreesMay'. -/
def treesMayUptoCard : Claim7 := { stood := { row := treesMayUptoRow, standIns := [], harness := (true, "4c89484f9dec182d2d51272b1caa8667451e5598b62b715d25118ae1c0cc2e56"), looks := true }, kinds := [], alts := [], laidByText := true, laidKinds := [.data, .pinned], laidTests := true, laidLooks := .later }
def TreesMayUptoCardSaid : Prop := Claim7.holds Tryd.pinned (.plain (OpenSpec.upto treesMaySpec)) treesMayUptoCard

/-- THE SECOND FORM's CARD OF 'reckonerlaw09.TreesDeep'. -/
def treesDeepUptoCard : Claim7 := { stood := { row := treesDeepUptoRow, standIns := [], harness := (true, "4c89484f9dec182d2d51272b1caa8667451e5598b62b715d25118ae1c0cc2e56"), looks := true }, kinds := [], alts := [], laidByText := true, laidKinds := [.data, .pinned], laidTests := true, laidLooks := .later }
def TreesDeepUptoCardSaid : Prop := Claim7.holds Tryd.pinned (.plain (OpenSpec.upto treesDeepSpec)) treesDeepUptoCard

/-- THE SECOND FORM's CARD OF 'reckonerlaw09.TreesInner'. -/
def treesInnerUptoCard : Claim7 := { stood := { row := treesInnerUptoRow, standIns := [], harness := (true, "4c89484f9dec182d2d51272b1caa8667451e5598b62b715d25118ae1c0cc2e56"), looks := true }, kinds := [], alts := [], laidByText := true, laidKinds := [.data, .pinned], laidTests := true, laidLooks := .later }
def TreesInnerUptoCardSaid : Prop := Claim7.holds Tryd.pinned (.plain (OpenSpec.upto treesInnerSpec)) treesInnerUptoCard
end Rows
end Go.Proofs.YtiefpffccmdcoaaDoor
