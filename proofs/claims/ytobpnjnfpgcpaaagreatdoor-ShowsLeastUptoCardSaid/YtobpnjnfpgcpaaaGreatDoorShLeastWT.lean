/- The statement ShowsLeast: may a byte stand in a word; does a text stand right ahead of a place. What they answer is not wanted. -/
import Derived.Test.YtobpnjnfpgcpaaaGreatDoorTrA4
import Derived.IntWalk
namespace Go.Proofs.YtobpnjnfpgcpaaaGreatDoor
open Go.RowKit Go.My

/-- It answers, whatever it is. -/
def SomeB (w : World) (e : Ending) (w' : World) : Prop := ∃ β : Bool, e = .returned (.bool β) ∧ Below w.heap.size w w'

set_option maxRecDepth 100000 in
set_option maxHeartbeats 4000000 in
theorem word_any {w : World} (d : UInt8) : Calls Tryz.prog 19 #[.int .u8 (d.toNat : Int)] w (SomeB w) := by
  have hd := d.toNat_lt
  obtain ⟨n, hn⟩ : ∃ n : Int, n = (d.toNat : Int) := ⟨_, rfl⟩
  have n0 : 0 ≤ n := by omega
  have n1 : n < 256 := by omega
  rw [← hn]
  clear hn hd
  go_enter Tryz.func19, Tryz.ntmps19
  rcases (show n ≤ 47 ∨ (48 ≤ n ∧ n ≤ 57) ∨ (58 ≤ n ∧ n ≤ 64) ∨ (65 ≤ n ∧ n ≤ 90) ∨ (91 ≤ n ∧ n ≤ 94) ∨ n = 95 ∨ n = 96 ∨ (97 ≤ n ∧ n ≤ 122) ∨ 123 ≤ n by omega) with h | ⟨h, h'⟩ | ⟨h, h'⟩ | ⟨h, h'⟩ | ⟨h, h'⟩ | h | h | ⟨h, h'⟩ | h
  all_goals
    go_wp2_with fail
    go_ret
    exact ⟨_, rfl, Below.refl _ _⟩

set_option maxRecDepth 100000 in
set_option maxHeartbeats 4000000 in
theorem after_any {w : World} (s : List UInt8) (i : Nat) (hi : i ≤ s.length) (hl : s.length ≤ 1000000) : Calls Tryz.prog 20 #[.string (bs s), .int .i64 (i : Int), .string ⟨#[110, 111, 116, 32]⟩] w (SomeB w) := by
  have hs := bs_size s
  have i0 : (i : Int) ≤ (s.length : Int) := by omega
  have i2 : (s.length : Int) ≤ 1000000 := by omega
  go_enter Tryz.func20, Tryz.ntmps20
  by_cases h4 : 4 ≤ i
  · obtain ⟨j, rfl⟩ : ∃ j, i = j + 4 := ⟨i - 4, by omega⟩
    have h4' : (4 : Int) ≤ ((j + 4 : Nat) : Int) := by omega
    have e1 : (((j + 4 : Nat) : Int) - 4) = (j : Int) := by omega
    have e2 : IntKind.i64.wrap (j : Int) = (j : Int) := IntWalk.i64_in _ (by omega)
    have hsl : ∀ wx, (Instr.slice 9 (.string (bs s)) (some (.int .i64 (j : Int))) (some (.int .i64 ((j + 4 : Nat) : Int))) none).run Tryz.prog wx = .ok (.string (bs ((s.drop j).take 4))) wx := by
      intro wx
      rw [run_slice_string_if wx 9 (bs s) .i64 .i64 (j : Int) ((j + 4 : Nat) : Int) Tryz.underlying9, if_pos ⟨by omega, by omega⟩, if_pos ⟨by omega, by omega⟩]
      rw [Int.toNat_natCast, Int.toNat_natCast, bs_cut, Nat.add_sub_cancel_left]
    go_wp2_with fail
    go_ret
    exact ⟨_, rfl, Below.refl _ _⟩
  · have h4' : (i : Int) < 4 := by omega
    go_wp2_with fail
    go_ret
    exact ⟨_, rfl, Below.refl _ _⟩
end Go.Proofs.YtobpnjnfpgcpaaaGreatDoor
