/- Programs as trees, plainly: some texts' programs. No program in sight. -/
import Derived.Test.YtiefpffccmdcoaaDoorTrB1
import Derived.Test.YtiefpffccmdcoaaDoorNdSameT
import Derived.Test.YtiefpffccmdcoaaDoorNdDeepT
namespace Go.Proofs.YtiefpffccmdcoaaDoor
open Go.Nd

/-- The expression of a text that is one statement. -/
def exOf (s : Tx) : Nd := match (parse wrapI s).1.body.items with
  | [st] => match st.l.items with
    | [x] => x
    | _ => ⟨0, [], .nil, .nil, .nil⟩
  | _ => ⟨0, [], .nil, .nil, .nil⟩
/-- It is one statement, an expression. -/
def IsOne (s : Tx) : Prop := parse wrapI s = (⟨[], Ns.of [⟨13, [], Ns.of [exOf s], .nil, .nil⟩]⟩, 0, 0)

def la : Tx := [45, 50, 94, 51, 32, 43, 32, 120, 32, 42, 32, 121, 59]
def lb : Tx := [40, 40, 45, 40, 50, 94, 51, 41, 41, 32, 43, 32, 40, 120, 32, 42, 32, 121, 41, 41, 59]
def lc : Tx := [49, 32, 45, 32, 50, 32, 45, 32, 51, 59]
def ld : Tx := [40, 49, 32, 45, 32, 50, 41, 32, 45, 32, 51, 59]
def le : Tx := [49, 32, 45, 32, 40, 50, 32, 45, 32, 51, 41, 59]
theorem la_one : IsOne la := by unfold IsOne; kernel_rfl
theorem lb_one : IsOne lb := by unfold IsOne; kernel_rfl
theorem lc_one : IsOne lc := by unfold IsOne; kernel_rfl
theorem ld_one : IsOne ld := by unfold IsOne; kernel_rfl
theorem le_one : IsOne le := by unfold IsOne; kernel_rfl
theorem same_ab : ndEq (exOf la) (exOf lb) = true := by kernel_rfl
theorem same_cd : ndEq (exOf lc) (exOf ld) = true := by kernel_rfl
theorem same_ce : ndEq (exOf lc) (exOf le) = false := by kernel_rfl
theorem lf_bad : parse wrapI [49, 32, 60, 32, 50, 32, 60, 32, 51, 59] = (⟨[], .nil⟩, 6, 4) := by kernel_rfl
theorem lg_bad : parse wrapI [114, 101, 116, 117, 114, 110, 32, 49, 59] = (⟨[], .nil⟩, 0, 4) := by kernel_rfl
theorem lh_bad : parse wrapI [120, 94, 50, 94, 51, 59] = (⟨[], .nil⟩, 3, 4) := by kernel_rfl
theorem li_bad : parse wrapI [116, 101, 108, 108, 32, 49] = (⟨[], .nil⟩, 6, 4) := by kernel_rfl
theorem lj_bad : parse wrapI [48, 49, 59] = (⟨[], .nil⟩, 0, 4) := by kernel_rfl
def lz : Tx := [105, 102, 32, 97, 32, 123, 32, 125, 32, 101, 108, 115, 101, 32, 123, 32, 98, 59, 32, 125]
theorem lz_is : parse wrapI lz = (⟨[], Ns.of [⟨9, [], Ns.of [leaf 2 [97]], .nil, Ns.of [⟨13, [], Ns.of [leaf 2 [98]], .nil, .nil⟩]⟩]⟩, 0, 0) := by kernel_rfl
end Go.Proofs.YtiefpffccmdcoaaDoor
