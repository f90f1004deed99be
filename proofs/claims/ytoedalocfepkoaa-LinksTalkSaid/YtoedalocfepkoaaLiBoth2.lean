/- Links: the walk of LinksBoth, any messages. -/
import Derived.Test.YtoedalocfepkoaaLiBoth
namespace Go.Proofs.Ytoedalocfepkoaa
open Go.RowKit Go.My

/-- The statement's guard says no. -/
def BothGreat (l m : List (List UInt8)) : Prop := 16 < l.length ∨ (l.length ≤ 16 ∧ 16 < m.length) ∨ (l.length ≤ 16 ∧ m.length ≤ 16 ∧ 5000 < total l + total m)

theorem total_le (ls : List (List UInt8)) (hl : ls.length ≤ 60) (h : ∀ l ∈ ls, l.length ≤ 140737488351232) : total ls ≤ 60 + 60 * 140737488351232 := by
  have : ∀ (xs : List (List UInt8)), (∀ l ∈ xs, l.length ≤ 140737488351232) → (xs.map List.length).sum ≤ xs.length * 140737488351232 := by
    intro xs
    induction xs with
    | nil => intro _; simp
    | cons x xs ih => intro hx; have h1 := ih (fun l hl => hx l (by simp [hl])); have h2 := hx x (by simp); simp only [List.map_cons, List.sum_cons, List.length_cons]; omega
  have h1 := this ls h
  unfold total
  have h2 := Nat.mul_le_mul_right 140737488351232 hl
  omega

set_option maxRecDepth 100000 in
set_option maxHeartbeats 4000000 in
theorem both_great (w : World) (v u : Value) (l m : List (List UInt8)) (hv : FramesIn w (fun b => b < w.heap.size) v l) (hu : FramesIn w (fun b => b < w.heap.size) u m) (hr : ∀ b ∈ l, b.length ≤ 140737488351232) (hr2 : ∀ b ∈ m, b.length ≤ 140737488351232) (hg : BothGreat l m) :
    Calls Try.prog 8 #[v, u] w fun e w' => e = .returned (.bool true) ∧ Below w.heap.size w w' := by
  obtain ⟨la, lc, e0, hc1, hc2, _, _⟩ := hv.open_
  subst e0
  obtain ⟨ma, mc, e0, hd1, hd2, _, _⟩ := hu.open_
  subst e0
  have HR := Lib.hid (And.intro hr hr2)
  have C0 := Lib.hid (And.intro (Since.start w) (And.intro (show Frames w (fun _ => 0) 0 (.slice la l.length lc) l from FramesIn.mono hv (fun _ _ _ => rfl)) (show Frames w (fun _ => 0) 0 (.slice ma m.length mc) m from FramesIn.mono hu (fun _ _ _ => rfl))))
  have i1 : (l.length : Int) ≤ 9223372036854775807 := by unfold maxLen at hc2; omega
  have i2 : (m.length : Int) ≤ 9223372036854775807 := by unfold maxLen at hd2; omega
  clear hv hu hr hr2 hc1 hc2 hd1 hd2
  rcases hg with hg | ⟨hg1, hg2⟩ | ⟨hg1, hg2, hg3⟩
  · have j : (16 : Int) < (l.length : Int) := by omega
    clear hg
    go_enter Try.func8, Try.ntmps8
    go_wp2_with fail
    refine alive_t _ (fun _ => 0) 9 fun w1 g1 T1 => ?_
    have C1 := Lib.hid (And.intro (C0.out.1.turn T1 (by decide)) (C0.out.2.1.turn T1 (by decide)))
    clear T1
    go_wp2_with fail
    refine alive_t _ g1 9 fun w2 g2 T2 => ?_
    have C2 := Lib.hid (C1.out.1.turn T2 (by decide))
    clear T2
    go_wp2_with fail
    go_ret
    exact ⟨rfl, C2.out.below⟩
  · have j : (l.length : Int) ≤ 16 := by omega
    have j2 : (16 : Int) < (m.length : Int) := by omega
    clear hg1 hg2
    go_enter Try.func8, Try.ntmps8
    go_wp2_with fail
    refine alive_t _ (fun _ => 0) 9 fun w1 g1 T1 => ?_
    have C1 := Lib.hid (And.intro (C0.out.1.turn T1 (by decide)) (C0.out.2.1.turn T1 (by decide)))
    clear T1
    go_wp2_with fail
    refine alive_t _ g1 9 fun w2 g2 T2 => ?_
    have C2 := Lib.hid (C1.out.1.turn T2 (by decide))
    clear T2
    go_wp2_with fail
    go_ret
    exact ⟨rfl, C2.out.below⟩
  · have j : (l.length : Int) ≤ 16 := by omega
    have j2 : (m.length : Int) ≤ 16 := by omega
    have tl := Lib.hid (total_le l (by omega) HR.out.1)
    have tm := Lib.hid (total_le m (by omega) HR.out.2)
    have HG3 := Lib.hid hg3
    clear hg3
    go_enter Try.func8, Try.ntmps8
    go_wp2_with fail
    refine alive_t _ (fun _ => 0) 9 fun w1 g1 T1 => ?_
    have C1 := Lib.hid (And.intro (C0.out.1.turn T1 (by decide)) (And.intro (C0.out.2.1.turn T1 (by decide)) (C0.out.2.2.turn T1 (by decide))))
    clear T1
    go_wp2_with fail
    refine (size_said _ _ _ l C1.out.2.1 HR.out.1 (by omega)).mono ?_
    rintro e w2 ⟨n1, rfl, hn0, hn, rfl⟩
    have HN1 := Lib.hid (And.intro hn0 hn)
    clear hn0 hn
    go_wp2_with fail
    refine (size_said _ _ _ m C1.out.2.2 HR.out.2 (by omega)).mono ?_
    rintro e w2 ⟨n2, rfl, hn0, hn, rfl⟩
    have hn12 : (5000 : Int) < (n1 : Int) + (n2 : Int) := by
      have h0 := HG3.out
      rcases Nat.lt_or_ge 1048576 n1 with h | h
      · omega
      · have h1 := HN1.out.1 h
        rcases Nat.lt_or_ge 1048576 n2 with h' | h'
        · omega
        · have h2 := hn0 h'
          omega
    have hn10 : (0 : Int) ≤ (n1 : Int) := by omega
    have hn20 : (0 : Int) ≤ (n2 : Int) := by omega
    have hn11 : (n1 : Int) ≤ 9000000000000000 := by have := HN1.out.2; have := tl.out; omega
    have hn21 : (n2 : Int) ≤ 9000000000000000 := by have := tm.out; omega
    clear hn0 hn
    go_wp2_with fail
    refine alive_t _ g1 9 fun w2 g2 T2 => ?_
    have C2 := Lib.hid (C1.out.1.turn T2 (by decide))
    clear T2
    go_wp2_with fail
    go_ret
    exact ⟨rfl, C2.out.below⟩

theorem both_any (w : World) (v : Value) (l : List (List UInt8)) (hv : FramesIn w (fun b => b < w.heap.size) v l ∧ ∀ b ∈ l, b.length ≤ 140737488351232) (u : Value) (m : List (List UInt8)) (hu : FramesIn w (fun b => b < w.heap.size) u m ∧ ∀ b ∈ m, b.length ≤ 140737488351232) :
    Calls Try.prog 8 #[v, u] w fun e w' => e = .returned (.bool true) ∧ Below w.heap.size w w' := by
  by_cases h1 : l.length ≤ 16
  · by_cases h2 : m.length ≤ 16
    · by_cases h3 : total l + total m ≤ 5000
      · exact both_in w v u l m hv.1 hu.1 h1 h2 h3
      · exact both_great w v u l m hv.1 hu.1 hv.2 hu.2 (.inr (.inr ⟨h1, h2, by omega⟩))
    · exact both_great w v u l m hv.1 hu.1 hv.2 hu.2 (.inr (.inl ⟨h1, by omega⟩))
  · exact both_great w v u l m hv.1 hu.1 hv.2 hu.2 (.inl (by omega))
end Go.Proofs.Ytoedalocfepkoaa
