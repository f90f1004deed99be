/- Links: the walk of LinksWindow, any arguments. -/
import Derived.Test.YtoedalocfepkoaaLiWin
namespace Go.Proofs.Ytoedalocfepkoaa
open Go.RowKit Go.My

set_option maxRecDepth 100000 in
set_option maxHeartbeats 4000000 in
theorem window_great (w : World) (many n : Int) (v : Value) (b : List UInt8) (hv : BytesIn w (fun b => b < w.heap.size) v b) (hl : 1000 < b.length) :
    Calls Try.prog 5 #[.int .u8 many, .int .u32 n, v] w fun e w' => e = .returned (.bool true) ∧ Below w.heap.size w w' := by
  obtain ⟨ao, cap, e0, _, hm, _⟩ := hv.open_
  subst e0
  have h1 : (1000 : Int) < (b.length : Int) := by omega
  have h2 : (b.length : Int) ≤ 9223372036854775807 := by unfold maxLen at hm; omega
  have C0 := Lib.hid (Since.start w)
  clear hv hm hl
  go_enter Try.func5, Try.ntmps5
  go_wp2_with fail
  refine alive_t _ (fun _ => 0) 9 fun w1 g1 T1 => ?_
  have C1 := Lib.hid (C0.out.turn T1 (by decide))
  clear T1
  go_wp2_with fail
  refine alive_t _ g1 9 fun w2 g2 T2 => ?_
  have C2 := Lib.hid (C1.out.turn T2 (by decide))
  clear T2
  go_wp2_with fail
  go_ret
  exact ⟨rfl, C2.out.below⟩

theorem nat_u8 {n : Int} (h : (Lit.int .u8 n).wf = true) : ∃ k : Nat, n = (k : Int) ∧ k < 256 := by
  simp [Lit.wf, IntKind.min, IntKind.max, IntKind.signed, IntKind.bits] at h
  exact ⟨n.toNat, by omega, by omega⟩
theorem nat_u32 {n : Int} (h : (Lit.int .u32 n).wf = true) : ∃ k : Nat, n = (k : Int) ∧ k < 4294967296 := by
  simp [Lit.wf, IntKind.min, IntKind.max, IntKind.signed, IntKind.bits] at h
  exact ⟨n.toNat, by omega, by omega⟩

theorem window_any (w : World) (many : Int) (hmany : (Lit.int .u8 many).wf = true) (n : Int) (hn : (Lit.int .u32 n).wf = true) (v : Value) (b : List UInt8) (hv : BytesIn w (fun b => b < w.heap.size) v b) :
    Calls Try.prog 5 #[.int .u8 many, .int .u32 n, v] w fun e w' => e = .returned (.bool true) ∧ Below w.heap.size w w' := by
  by_cases hl : b.length ≤ 1000
  · obtain ⟨k, rfl, hk⟩ := nat_u8 hmany
    obtain ⟨m, rfl, hm⟩ := nat_u32 hn
    exact window_in w k m hk hm v b hv hl
  · exact window_great w many n v b hv (by omega)
end Go.Proofs.Ytoedalocfepkoaa
