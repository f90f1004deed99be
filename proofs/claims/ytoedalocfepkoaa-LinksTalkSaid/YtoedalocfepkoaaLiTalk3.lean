/- Links: the walk of LinksTalk, any talk. -/
import Derived.Test.YtoedalocfepkoaaLiTalk2
namespace Go.Proofs.Ytoedalocfepkoaa
open Go.RowKit Go.My

/-- The statement's guard says no. -/
def TalkGreat (L : List (List UInt8)) (there back : List UInt8) : Prop := 60 < L.length ∨ (L.length ≤ 60 ∧ 5000 < total L) ∨ (L.length ≤ 60 ∧ total L ≤ 5000 ∧ 400 < there.length) ∨ (L.length ≤ 60 ∧ total L ≤ 5000 ∧ there.length ≤ 400 ∧ 100 < back.length)

set_option maxRecDepth 100000 in
set_option maxHeartbeats 8000000 in
theorem talk_great (w : World) (lv tv bv : Value) (L : List (List UInt8)) (there back : List UInt8) (hl : FramesIn w (fun b => b < w.heap.size) lv L) (ht : BytesIn w (fun b => b < w.heap.size) tv there) (hb : BytesIn w (fun b => b < w.heap.size) bv back)
    (hr : ∀ b ∈ L, b.length ≤ 140737488351232) (hg : TalkGreat L there back) :
    Calls Try.prog 4 #[.agg #[lv, tv, bv]] w fun e w' => e = .returned (.bool true) ∧ Below w.heap.size w w' := by
  obtain ⟨la, lc, e0, hc1, hc2, _, _⟩ := hl.open_
  subst e0
  obtain ⟨ta, tc, e0, hd1, hd2, _, _⟩ := ht.open_
  subst e0
  obtain ⟨ba, bc, e0, hf1, hf2, _, _⟩ := hb.open_
  subst e0
  have T0 := Turn.alloc w (fun _ => 0) 70 (.cells #[.slice la L.length lc, .slice ta there.length tc, .slice ba back.length bc] 39)
  obtain ⟨xb, hxb⟩ : ∃ xb, xb = w.heap.size := ⟨_, rfl⟩
  have C0 := Lib.hid (show ArgsAt w (.slice la L.length lc) (.slice ta there.length tc) (.slice ba back.length bc) L there back xb (w.alloc (.cells #[.slice la L.length lc, .slice ta there.length tc, .slice ba back.length bc] 39)) (Tags.ext (fun _ => 0) w.heap.size 70) from
    ⟨(Since.start w).turn T0 (by decide), box_at hxb, Frames.turn (FramesIn.mono hl (fun _ _ _ => rfl)) T0 (by decide), Bytes.turn (BytesIn.mono ht (fun _ _ _ => rfl)) T0 (by decide), Bytes.turn (BytesIn.mono hb (fun _ _ _ => rfl)) T0 (by decide)⟩)
  have iL : (L.length : Int) ≤ 9223372036854775807 := by unfold maxLen at hc2; omega
  have iT : (there.length : Int) ≤ 9223372036854775807 := by unfold maxLen at hd2; omega
  have iB : (back.length : Int) ≤ 9223372036854775807 := by unfold maxLen at hf2; omega
  have HR := Lib.hid hr
  clear hl ht hb T0 hr hc1 hc2 hd1 hd2 hf1 hf2
  rcases hg with hg | ⟨hg1, hg2⟩ | ⟨hg1, hg2, hg3⟩ | ⟨hg1, hg2, hg3, hg4⟩
  · have j : (60 : Int) < (L.length : Int) := by omega
    clear hg
    go_enter Try.func4, Try.ntmps4
    go_wp2_with fail
    rw [← hxb] at C0 ⊢
    clear hxb
    refine alive_t _ (Tags.ext (fun _ => 0) xb 70) 9 fun w1 g1 T1 => ?_
    have C1 := Lib.hid (C0.out.turn T1 (by decide) (by decide))
    obtain ⟨x0, x1, x2⟩ := C1.out.box.cell
    clear T1 C0
    go_wp2_with fail
    refine alive_t _ g1 9 fun w2 g2 T2 => ?_
    have C2 := Lib.hid (C1.out.since.turn T2 (by decide))
    clear T2
    go_wp2_with fail
    go_ret
    exact ⟨rfl, C2.out.below⟩
  · have j : (L.length : Int) ≤ 60 := by omega
    have tl := Lib.hid (total_le L (by omega) HR.out)
    have HG := Lib.hid hg2
    clear hg2
    go_enter Try.func4, Try.ntmps4
    go_wp2_with fail
    rw [← hxb] at C0 ⊢
    clear hxb
    refine alive_t _ (Tags.ext (fun _ => 0) xb 70) 9 fun w1 g1 T1 => ?_
    have C1 := Lib.hid (C0.out.turn T1 (by decide) (by decide))
    obtain ⟨x0, x1, x2⟩ := C1.out.box.cell
    clear T1 C0
    go_wp2_with fail
    refine (size_said _ _ _ L C1.out.left HR.out (by omega)).mono ?_
    rintro e w2 ⟨n1, rfl, hn0, hn, rfl⟩
    have hn2 : (5000 : Int) < (n1 : Int) := by
      have := HG.out
      rcases Nat.lt_or_ge 1048576 n1 with h | h
      · omega
      · have := hn0 h; omega
    clear hn0 hn
    go_wp2_with fail
    refine alive_t _ g1 9 fun w2 g2 T2 => ?_
    have C2 := Lib.hid (C1.out.since.turn T2 (by decide))
    clear T2
    go_wp2_with fail
    go_ret
    exact ⟨rfl, C2.out.below⟩
  · have j : (L.length : Int) ≤ 60 := by omega
    have j3 : (400 : Int) < (there.length : Int) := by omega
    have HG := Lib.hid hg2
    clear hg2 hg3
    go_enter Try.func4, Try.ntmps4
    go_wp2_with fail
    rw [← hxb] at C0 ⊢
    clear hxb
    refine alive_t _ (Tags.ext (fun _ => 0) xb 70) 9 fun w1 g1 T1 => ?_
    have C1 := Lib.hid (C0.out.turn T1 (by decide) (by decide))
    obtain ⟨x0, x1, x2⟩ := C1.out.box.cell
    clear T1 C0
    go_wp2_with fail
    refine (size_said _ _ _ L C1.out.left HR.out (by omega)).mono ?_
    rintro e w2 ⟨n1, rfl, hn0, hn, rfl⟩
    have hn2 : (n1 : Int) ≤ 5000 := by have := HG.out; omega
    have hn3 : (0 : Int) ≤ (n1 : Int) := by omega
    clear hn0 hn
    go_wp2_with fail
    refine alive_t _ g1 9 fun w2 g2 T2 => ?_
    have C2 := Lib.hid (C1.out.since.turn T2 (by decide))
    clear T2
    go_wp2_with fail
    go_ret
    exact ⟨rfl, C2.out.below⟩
  · have j : (L.length : Int) ≤ 60 := by omega
    have j3 : (there.length : Int) ≤ 400 := by omega
    have j4 : (100 : Int) < (back.length : Int) := by omega
    have HG := Lib.hid hg2
    clear hg2 hg3 hg4
    go_enter Try.func4, Try.ntmps4
    go_wp2_with fail
    rw [← hxb] at C0 ⊢
    clear hxb
    refine alive_t _ (Tags.ext (fun _ => 0) xb 70) 9 fun w1 g1 T1 => ?_
    have C1 := Lib.hid (C0.out.turn T1 (by decide) (by decide))
    obtain ⟨x0, x1, x2⟩ := C1.out.box.cell
    clear T1 C0
    go_wp2_with fail
    refine (size_said _ _ _ L C1.out.left HR.out (by omega)).mono ?_
    rintro e w2 ⟨n1, rfl, hn0, hn, rfl⟩
    have hn2 : (n1 : Int) ≤ 5000 := by have := HG.out; omega
    have hn3 : (0 : Int) ≤ (n1 : Int) := by omega
    clear hn0 hn
    go_wp2_with fail
    refine alive_t _ g1 9 fun w2 g2 T2 => ?_
    have C2 := Lib.hid (C1.out.since.turn T2 (by decide))
    clear T2
    go_wp2_with fail
    go_ret
    exact ⟨rfl, C2.out.below⟩

theorem talk_any (w : World) (lv tv bv : Value) (L : List (List UInt8)) (there back : List UInt8) (hl : FramesIn w (fun b => b < w.heap.size) lv L) (ht : BytesIn w (fun b => b < w.heap.size) tv there) (hb : BytesIn w (fun b => b < w.heap.size) bv back)
    (hr : ∀ b ∈ L, b.length ≤ 140737488351232) :
    Calls Try.prog 4 #[.agg #[lv, tv, bv]] w fun e w' => e = .returned (.bool true) ∧ Below w.heap.size w w' := by
  by_cases h1 : L.length ≤ 60
  · by_cases h2 : total L ≤ 5000
    · by_cases h3 : there.length ≤ 400
      · by_cases h4 : back.length ≤ 100
        · exact talk_in w lv tv bv L there back hl ht hb h1 h2 h3 h4
        · exact talk_great w lv tv bv L there back hl ht hb hr (.inr (.inr (.inr ⟨h1, h2, h3, by omega⟩)))
      · exact talk_great w lv tv bv L there back hl ht hb hr (.inr (.inr (.inl ⟨h1, h2, by omega⟩)))
    · exact talk_great w lv tv bv L there back hl ht hb hr (.inr (.inl ⟨h1, by omega⟩))
  · exact talk_great w lv tv bv L there back hl ht hb hr (.inl (by omega))
end Go.Proofs.Ytoedalocfepkoaa
