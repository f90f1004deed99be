/- The statements' own helpers: whether two lists of bytes, two lists of such, are the same: where they are, the answer is true. -/
import Derived.Test.YtoedalocfepkoaaGreatDoorRows
import Derived.Test.YtoedalocfepkoaaGreatDoorMem
namespace Go.Proofs.YtoedalocfepkoaaGreatDoor
open Go.RowKit Go.My

set_option maxHeartbeats 1000000 in
theorem sameBytes_eq (w : World) (S S' : Nat → Prop) (v v' : Value) (l : List UInt8) (h : BytesIn w S v l) (h' : BytesIn w S' v' l) :
    Calls Tryz.prog 26 #[v, v'] w fun e w' => e = .returned (.bool true) ∧ ∃ n, w' = w.drewN n := by
  obtain ⟨ao, cap, rfl, hc1, hc2, _, hb⟩ := h.open_
  obtain ⟨ao', cap', rfl, hc1', hc2', _, hb'⟩ := h'.open_
  have HB := Lib.hid hb
  have HB' := Lib.hid hb'
  have hm : l.length ≤ 9223372036854775807 := by unfold maxLen at hc2; omega
  clear hb hb' h h' hc2 hc2'
  go_enter Tryz.func26, Tryz.ntmps26
  go_wp2
  go_loopw [5] (fun i wr => ∃ k n : Nat, k ≤ l.length ∧ i = .int .i64 k ∧ wr = w.drewN n) (fun i _ => l.length - (intOf i).toNat)
  case atStart => exact ⟨0, 0, Nat.zero_le _, rfl, rfl⟩
  case round =>
    obtain ⟨k, n, hk, rfl, rfl⟩ := hrel
    by_cases hlt : k < l.length
    · obtain ⟨b, off, rfl, _, hc⟩ := HB.out (by omega)
      obtain ⟨b', off', rfl, _, hc'⟩ := HB'.out (by omega)
      have c1 := hc k hlt
      have c2 := hc' k hlt
      clear hc hc'
      generalize l[k] = x at *
      have i0 : (0 : Int) ≤ (k : Int) := by omega
      have i1 : (k : Int) < (l.length : Int) := by omega
      go_wp2_with fail
      go_quiet (fail)
      go_wp2
      go_roundw
      case rel => exact ⟨k + 1, n + nq, by omega, by go_num, rfl⟩
      case measure => simp [intOf]; omega
    · obtain rfl : k = l.length := by omega
      go_wp2
      go_ret
      exact ⟨rfl, n, rfl⟩

theorem heap_drewN (w : World) : ∀ n, (w.drewN n).heap = w.heap := by
  intro n
  induction n with
  | zero => rfl
  | succ n ih => exact ih

theorem bytes_drewN {w : World} {S : Nat → Prop} {v : Value} {l : List UInt8} (h : BytesIn w S v l) (n : Nat) : BytesIn (w.drewN n) S v l := h.frame fun b _ _ => by rw [heap_drewN]

set_option maxHeartbeats 1000000 in
theorem sameFrames_eq (w : World) (S S' : Nat → Prop) (v v' : Value) (ls : List (List UInt8)) (h : FramesIn w S v ls) (h' : FramesIn w S' v' ls) :
    Calls Tryz.prog 11 #[v, v'] w fun e w' => e = .returned (.bool true) ∧ ∃ n, w' = w.drewN n := by
  obtain ⟨ao, cap, rfl, hc1, hc2, _, hb⟩ := h.open_
  obtain ⟨ao', cap', rfl, hc1', hc2', _, hb'⟩ := h'.open_
  have HB := Lib.hid hb
  have HB' := Lib.hid hb'
  have hm : ls.length ≤ 9223372036854775807 := by unfold maxLen at hc2; omega
  clear hb hb' h h' hc2 hc2'
  go_enter Tryz.func11, Tryz.ntmps11
  go_wp2
  go_loopw [5] (fun i wr => ∃ k n : Nat, k ≤ ls.length ∧ i = .int .i64 k ∧ wr = w.drewN n) (fun i _ => ls.length - (intOf i).toNat)
  case atStart => exact ⟨0, 0, Nat.zero_le _, rfl, rfl⟩
  case round =>
    obtain ⟨k, n, hk, rfl, rfl⟩ := hrel
    by_cases hlt : k < ls.length
    · obtain ⟨b, off, rfl, _, hc⟩ := HB.out (by omega)
      obtain ⟨b', off', rfl, _, hc'⟩ := HB'.out (by omega)
      obtain ⟨u, c1, hu⟩ := hc k hlt
      obtain ⟨u', c2, hu'⟩ := hc' k hlt
      have HU := Lib.hid hu
      have HU' := Lib.hid hu'
      clear hc hc' hu hu'
      have i0 : (0 : Int) ≤ (k : Int) := by omega
      have i1 : (k : Int) < (ls.length : Int) := by omega
      go_wp2_with fail
      go_quiet ((go_at_call 26; refine (sameBytes_eq _ _ _ _ _ _ (bytes_drewN HU.out _) (bytes_drewN HU'.out _)).mono ?_; rintro e w'' ⟨rfl, m, rfl⟩; refine ⟨rfl, ?_⟩; rw [World.drewN_drewN, Nat.add_assoc]; exact ⟨_, rfl⟩))
      go_wp2
      go_roundw
      case rel => exact ⟨k + 1, n + nq, by omega, by go_num, rfl⟩
      case measure => simp [intOf]; omega
    · obtain rfl : k = ls.length := by omega
      go_wp2
      go_ret
      exact ⟨rfl, n, rfl⟩
end Go.Proofs.YtoedalocfepkoaaGreatDoor
