/- Trees: a string's beginning. -/
import Derived.Test.YtiefpffccmdcoaaDoorNdRankT
namespace Go.Proofs.YtiefpffccmdcoaaDoor
open Go.RowKit Go.My Go.Nd
theorem cut_s9 (l : List UInt8) (hl : l.length ≤ 1000000) (hne : l ≠ []) : ∀ wx, (Instr.slice 9 (.string (bs l)) none (some (.int .i64 ((l.length : Int) - 1))) none).run Tryd.prog wx = .ok (.string (bs l.dropLast)) wx := by
  intro wx
  have h1 : 0 < l.length := List.length_pos_iff.2 hne
  have h2 : (bs l).size = l.length := bs_size l
  have h3 : ((l.length : Int) - 1).toNat = l.length - 1 := by omega
  have h4 : (bs l).extract 0 (l.length - 1) = bs l.dropLast := by rw [bs_cut, List.drop_zero, Nat.sub_zero, List.dropLast_eq_take]
  rw [run_slice_string_h wx 9 (bs l) Tryd.underlying9 .i64 _ (by omega) (by omega), h3, h4]
theorem add2_9 (a b s : List UInt8) {r : List UInt8} (hr : a ++ s ++ b = r) (h : (a ++ s ++ b).length ≤ 1000000) : ∃ p1 : ByteArray, (∀ wx, (Op.stringOp .add (bs a) (bs s)).run Tryd.prog wx = .ok (.string p1) wx) ∧ ∀ wx, (Op.stringOp .add p1 (bs b)).run Tryd.prog wx = .ok (.string (bs r)) wx := by
  subst hr
  simp only [List.length_append] at h
  exact ⟨_, add_s9 a s (by omega), add_s9 (a ++ s) b (by simp only [List.length_append]; omega)⟩
end Go.Proofs.YtiefpffccmdcoaaDoor
