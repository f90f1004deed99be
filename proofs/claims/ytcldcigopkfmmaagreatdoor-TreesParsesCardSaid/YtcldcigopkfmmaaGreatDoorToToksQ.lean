/- A slice of tokens. -/
import Derived.Test.YtcldcigopkfmmaaGreatDoorTrD4
namespace Go.Proofs.YtcldcigopkfmmaaGreatDoor
open Go.RowKit Go.My
set_option maxHeartbeats 2000000 in
theorem sameToks_eq (w : World) (g : Tags) {t t' : Nat} {v v' : Value} (xs : List To.T) (h : Toks w g t v xs) (h' : Toks w g t' v' xs) :
    Calls Tryz.prog 7 #[v, v'] w fun e w' => e = .returned (.bool true) ∧ ∃ n, w' = w.drewN n := by
  obtain ⟨ao, cap, rfl, hc1, hc2, hb⟩ := h
  obtain ⟨ao', cap', rfl, hc1', hc2', hb'⟩ := h'
  have HB := Lib.hid hb
  have HB' := Lib.hid hb'
  have hm : xs.length ≤ 9223372036854775807 := by unfold maxLen at hc2; omega
  clear hb hb' hc2 hc2'
  go_enter Tryz.func7, Tryz.ntmps7
  go_wp2
  go_loopw [5] (fun i wr => ∃ k n : Nat, k ≤ xs.length ∧ i = .int .i64 k ∧ wr = w.drewN n) (fun i _ => xs.length - (intOf i).toNat)
  case atStart => exact ⟨0, 0, Nat.zero_le _, rfl, rfl⟩
  case round =>
    obtain ⟨k, n, hk, rfl, rfl⟩ := hrel
    by_cases hlt : k < xs.length
    · obtain ⟨b, off, rfl, _, _, hc⟩ := HB.out (by omega)
      obtain ⟨b', off', rfl, _, _, hc'⟩ := HB'.out (by omega)
      obtain ⟨c1, c2, c3⟩ := hc k hlt
      obtain ⟨d1, d2, d3⟩ := hc' k hlt
      clear hc hc'
      generalize xs[k] = x at *
      have i0 : (0 : Int) ≤ (k : Int) := by omega
      have i1 : (k : Int) < (xs.length : Int) := by omega
      go_wp2_with fail
      go_quiet (fail)
      go_wp2
      go_roundw
      case rel => exact ⟨k + 1, n + nq, by omega, by go_num, rfl⟩
      case measure => simp [intOf]; omega
    · obtain rfl : k = xs.length := by omega
      go_wp2
      go_ret
      exact ⟨rfl, n, rfl⟩
end Go.Proofs.YtcldcigopkfmmaaGreatDoor
