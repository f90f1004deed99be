/- Tokens: the table of kinds. -/
import Derived.Test.YtiefpffccmdcoaaDoorToSil
import Derived.Laws.EntriesVeiled
namespace Go.Proofs.YtiefpffccmdcoaaDoor
open Go.RowKit Go.My

theorem kinds_t {w : World} {Q : Ending → World → Prop} (h : ∀ w', Below w.heap.size w w' → Q (.returned (.agg #[.int .u8 1, .func (.func 70) #[] #[], .int .u8 2, .func (.func 72) #[] #[], .int .u8 3, .func (.func 73) #[] #[]])) w') :
    Calls Tryd.prog 46 #[] w Q := by
  have H := Lib.hid h
  clear h
  go_enter Tryd.func46, Tryd.ntmps46
  go_wp2_with fail
  exact bodyPost_ret (v := .agg #[.int .u8 1, .func (.func 70) #[] #[], .int .u8 2, .func (.func 72) #[] #[], .int .u8 3, .func (.func 73) #[] #[]]) (by simp [results, Tryd.results46, go_sem]) rfl (H.out _ ((Below.refl _ w).alloc (Nat.le_refl _) _))

theorem kix (wx : World) : (Instr.index 76 (.agg #[.int .u8 1, .func (.func 70) #[] #[], .int .u8 2, .func (.func 72) #[] #[], .int .u8 3, .func (.func 73) #[] #[]]) (.int .i64 0)).run Tryd.prog wx = .ok (.agg #[.int .u8 1, .func (.func 70) #[] #[]]) wx ∧
    (Instr.index 76 (.agg #[.int .u8 1, .func (.func 70) #[] #[], .int .u8 2, .func (.func 72) #[] #[], .int .u8 3, .func (.func 73) #[] #[]]) (.int .i64 1)).run Tryd.prog wx = .ok (.agg #[.int .u8 2, .func (.func 72) #[] #[]]) wx ∧
    (Instr.index 76 (.agg #[.int .u8 1, .func (.func 70) #[] #[], .int .u8 2, .func (.func 72) #[] #[], .int .u8 3, .func (.func 73) #[] #[]]) (.int .i64 2)).run Tryd.prog wx = .ok (.agg #[.int .u8 3, .func (.func 73) #[] #[]]) wx := ⟨by kernel_rfl, by kernel_rfl, by kernel_rfl⟩

theorem kfield (wx : World) : (Instr.field 75 (.agg #[.int .u8 1, .func (.func 70) #[] #[]]) 1).run Tryd.prog wx = .ok (.func (.func 70) #[] #[]) wx := by kernel_rfl

end Go.Proofs.YtiefpffccmdcoaaDoor
