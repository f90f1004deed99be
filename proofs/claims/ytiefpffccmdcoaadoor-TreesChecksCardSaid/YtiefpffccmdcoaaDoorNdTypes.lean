/- The types of programs, as this program numbers them. -/
import Derived.Test.YtiefpffccmdcoaaDoorNdPArgs
import Derived.Test.YtiefpffccmdcoaaDoorRows
namespace Go.Proofs.YtiefpffccmdcoaaDoor
open Go.RowKit Go.My

theorem nodeTypes : NodeTypes Tryd.prog 23 49 47 9 :=
  ⟨Tryd.underlying23, ⟨_, _, _, _, _, Tryd.underlying49, rfl, rfl, rfl, rfl, rfl, rfl, rfl, rfl, rfl, rfl⟩, Tryd.underlying47, Tryd.underlying9, by kernel_rfl, by kernel_rfl, by kernel_rfl, by kernel_rfl, by kernel_rfl⟩
theorem textTypes : TextTypes Tryd.prog 37 9 := ⟨Tryd.underlying37, Tryd.underlying9, by kernel_rfl, by kernel_rfl⟩
theorem fnTypes : FnTypes Tryd.prog 22 46 37 23 49 47 9 :=
  ⟨nodeTypes, textTypes, Tryd.underlying22, ⟨_, _, _, Tryd.underlying46, rfl, rfl, rfl, rfl, rfl, rfl⟩, by kernel_rfl, by kernel_rfl, by kernel_rfl⟩
theorem cellsProg : Tryd.prog.cellsOf 25 = 2 := by kernel_rfl
end Go.Proofs.YtiefpffccmdcoaaDoor
