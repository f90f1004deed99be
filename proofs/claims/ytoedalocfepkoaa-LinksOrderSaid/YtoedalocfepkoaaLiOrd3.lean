/- Links: the walk of LinksOrder, any bytes. -/
import Derived.Test.YtoedalocfepkoaaLiOrd2
namespace Go.Proofs.Ytoedalocfepkoaa
open Go.RowKit Go.My

set_option maxRecDepth 100000 in
set_option maxHeartbeats 4000000 in
theorem order_any (w : World) (v : Value) (b : List UInt8) (hv : BytesIn w (fun b => b < w.heap.size) v b) :
    Calls Try.prog 6 #[v] w fun e w' => e = .returned (.bool true) ∧ Below w.heap.size w w' := by
  by_cases hl : b.length ≤ 100
  · exact order_in w v b hv hl
  obtain ⟨ao, cap, e0, _, hm, _⟩ := hv.open_
  subst e0
  have h1 : (100 : Int) < (b.length : Int) := by omega
  have h2 : (b.length : Int) ≤ 9223372036854775807 := by unfold maxLen at hm; omega
  have C0 := Lib.hid (Since.start w)
  clear hv hm hl
  go_enter Try.func6, Try.ntmps6
  go_wp2_with fail
  refine alive_t _ (fun _ => 0) 9 fun w1 g1 T1 => ?_
  have C1 := Lib.hid (C0.out.turn T1 (by decide))
  clear T1
  go_wp2_with fail
  refine alive_t _ g1 9 fun w2 g2 T2 => ?_
  have C2 := Lib.hid (C1.out.turn T2 (by decide))
  clear T2
  go_wp2_with fail
  go_ret
  exact ⟨rfl, C2.out.below⟩
end Go.Proofs.Ytoedalocfepkoaa
