/- Trees: the law's rank of a sign. -/
import Derived.Test.YtiefpffccmdcoaaDoorNdAliveT
import Derived.Test.YtiefpffccmdcoaaDoorPsRanksT
namespace Go.Proofs.YtiefpffccmdcoaaDoor
open Go.RowKit Go.My Go.Nd

theorem bs_app9 (a b : List UInt8) : bs a ++ bs b = bs (a ++ b) := by
  apply ByteArray.ext
  simp [bs]
theorem add_s9 (a b : List UInt8) (h : a.length + b.length ≤ 1000000) : ∀ wx, (Op.stringOp .add (bs a) (bs b)).run Tryd.prog wx = .ok (.string (bs (a ++ b))) wx := fun wx => by
  rw [run_string_add_sum wx _ _ (by rw [bs_size, bs_size]; omega), bs_app9]

theorem rank_t {w : World} {s : Tx} (hs : s ∈ sg8) {Q : Ending → World → Prop} (hQ : ∀ w', Below w.heap.size w w' → Q (.returned (.int .i64 (rankOf s : Int))) w') : Calls Tryd.prog 18 #[.string (bs s)] w Q := by
  have q1 : ((bs s).toList == [42]) = (s == [42]) := by rw [bs_tlp]
  have q2 : ((bs s).toList == [47]) = (s == [47]) := by rw [bs_tlp]
  have q3 : ((bs s).toList == [43]) = (s == [43]) := by rw [bs_tlp]
  have q4 : ((bs s).toList == [45]) = (s == [45]) := by rw [bs_tlp]
  have HQ := Lib.hid hQ
  clear hQ
  simp only [sg8, List.mem_cons, List.not_mem_nil, or_false] at hs
  go_enter Tryd.func18, Tryd.ntmps18
  rcases hs with rfl | rfl | rfl | rfl | rfl | rfl | rfl | rfl
  all_goals
    conv at q1 => rhs; simp
    conv at q2 => rhs; simp
    conv at q3 => rhs; simp
    conv at q4 => rhs; simp
    go_wp2_with fail
    exact HQ.out _ (Below.refl _ _)
end Go.Proofs.YtiefpffccmdcoaaDoor
