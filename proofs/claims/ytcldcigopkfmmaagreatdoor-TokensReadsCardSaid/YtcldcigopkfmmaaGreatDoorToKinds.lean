/- Tokens: the table of kinds. -/
import Derived.Test.YtcldcigopkfmmaaGreatDoorToSign
import Derived.Laws.EntriesVeiled
namespace Go.Proofs.YtcldcigopkfmmaaGreatDoor
open Go.RowKit Go.My

theorem kinds_t {w : World} {Q : Ending → World → Prop} (h : ∀ w', Below w.heap.size w w' → Q (.returned (.agg #[.int .u8 1, .func (.func 122) #[] #[], .int .u8 2, .func (.func 123) #[] #[], .int .u8 3, .func (.func 124) #[] #[]])) w') :
    Calls Tryz.prog 68 #[] w Q := by
  have H := Lib.hid h
  clear h
  go_enter Tryz.func68, Tryz.ntmps68
  go_wp2_with fail
  exact bodyPost_ret (v := .agg #[.int .u8 1, .func (.func 122) #[] #[], .int .u8 2, .func (.func 123) #[] #[], .int .u8 3, .func (.func 124) #[] #[]]) (by simp [results, Tryz.results68, go_sem]) rfl (H.out _ ((Below.refl _ w).alloc (Nat.le_refl _) _))

theorem kix (wx : World) : (Instr.index 83 (.agg #[.int .u8 1, .func (.func 122) #[] #[], .int .u8 2, .func (.func 123) #[] #[], .int .u8 3, .func (.func 124) #[] #[]]) (.int .i64 0)).run Tryz.prog wx = .ok (.agg #[.int .u8 1, .func (.func 122) #[] #[]]) wx ∧
    (Instr.index 83 (.agg #[.int .u8 1, .func (.func 122) #[] #[], .int .u8 2, .func (.func 123) #[] #[], .int .u8 3, .func (.func 124) #[] #[]]) (.int .i64 1)).run Tryz.prog wx = .ok (.agg #[.int .u8 2, .func (.func 123) #[] #[]]) wx ∧
    (Instr.index 83 (.agg #[.int .u8 1, .func (.func 122) #[] #[], .int .u8 2, .func (.func 123) #[] #[], .int .u8 3, .func (.func 124) #[] #[]]) (.int .i64 2)).run Tryz.prog wx = .ok (.agg #[.int .u8 3, .func (.func 124) #[] #[]]) wx := ⟨by kernel_rfl, by kernel_rfl, by kernel_rfl⟩

theorem kfield (wx : World) : (Instr.field 82 (.agg #[.int .u8 1, .func (.func 122) #[] #[]]) 1).run Tryz.prog wx = .ok (.func (.func 122) #[] #[]) wx := by kernel_rfl

end Go.Proofs.YtcldcigopkfmmaaGreatDoor
