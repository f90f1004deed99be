/- Frames: the walk of FramesBack. -/
import Derived.Test.YtolkphbnneoloaaFrAll
namespace Go.Proofs.Ytolkphbnneoloaa
open Go.RowKit Go.My

/-- At the head of a round: 'at' bytes of B came. -/
def BackAt (w0 : World) (B : List UInt8) (m : Nat) (ls : List (List UInt8)) (cs : List UInt8) (av : Value) (bv : Value) (cv : Value) (rb : Nat) (gk : Nat) (va vat vi : Value) (wr : World) : Prop :=
  ∃ k i gr ao cap, k ≤ m ∧ i ≤ k ∧ gk = m - k ∧ vat = .int .i64 (k : Int) ∧ vi = .int .i64 (i : Int) ∧ va = .slice ao (Fr.all (B.take k)).1.length cap ∧
    Lists wr gr 4 5 (.slice ao (Fr.all (B.take k)).1.length cap) (Fr.all (B.take k)).1 ∧ Since w0 wr gr ∧ Frames wr gr 0 av ls ∧ Bytes wr gr 0 cv cs ∧ Bytes wr gr 1 bv B ∧ Reader wr gr 3 rb (Fr.all (B.take k)).2.1 false

theorem back_start {w w3 : World} {B : List UInt8} {m : Nat} {ls : List (List UInt8)} {cs : List UInt8} {av bv cv : Value} {rb : Nat} {g : Tags} (_hm : m = B.length) (h1 : Since w w3 g) (h2 : Frames w3 g 0 av ls) (h3 : Bytes w3 g 0 cv cs) (h4 : Owns w3 g 1 5 1 bv m (B.map byteCell)) (h5 : Reader w3 g 3 rb [] false) :
    BackAt w B m ls cs av bv cv rb m (.slice none 0 0) (.int .i64 0) (.int .i64 0) w3 := by
  have e : Fr.all (B.take 0) = ([], [], false) := by rw [List.take_zero]; exact Fr.all_short [] (by decide)
  refine ⟨0, 0, g, none, 0, Nat.zero_le _, Nat.le_refl _, rfl, rfl, rfl, by rw [e]; rfl, ?_, h1, h2, h3, h4.bytes, ?_⟩
  · rw [e]; exact Lists.nil _ _ _ _
  · rw [e]; exact h5

theorem back_m {ls : List (List UInt8)} {m : Nat} (hm : m = (Fr.frames ls).length) (ht : total ls ≤ 20000) : m ≤ 80000 := by
  rw [hm, frames_len]; unfold total at ht; omega

theorem back_cap {w : World} {g : Tags} {t : Nat} {ao : Option Addr} {n cap : Nat} {l : List UInt8} (h : Bytes w g t (.slice ao n cap) l) : l.length ≤ cap ∧ cap ≤ maxLen := by
  obtain ⟨a, c, e, h1, h2, _⟩ := BytesIn.open_ h
  cases e
  exact ⟨h1, h2⟩

theorem back_told (ls : List (List UInt8)) (ht : total ls ≤ 20000) : Fr.all (Fr.frames ls) = (ls, [], false) :=
  Fr.all_frames ls fun l hl => by have := len_le_total ls l hl; unfold Fr.most; omega

theorem back_whole (ls : List (List UInt8)) (ht : total ls ≤ 20000) : (Fr.all (Fr.frames ls)).2.2 = false := by rw [back_told ls ht]

theorem back_small {B : List UInt8} {m k z : Nat} (hm : m = B.length) (h : m ≤ 100000) : (Fr.all (B.take k)).2.1.length + ((B.drop k).take (z - k)).length ≤ 1000000000 := by
  have h1 := (Fr.all_sizes _ (B.take k) (Nat.le_refl _)).1
  have h2 : (B.take k).length ≤ B.length := by rw [List.length_take]; omega
  have h3 : ((B.drop k).take (z - k)).length ≤ B.length := by rw [List.length_take, List.length_drop]; omega
  generalize (Fr.all (B.take k)).2.1.length = x at *
  omega

theorem back_fs {B : List UInt8} {m k z : Nat} {fs : List (List UInt8)} {rest : List UInt8} (hm : m = B.length) (h : m ≤ 100000) (hf : Fr.all (B.take z) = ((Fr.all (B.take k)).1 ++ fs, rest, false)) : (Fr.all (B.take k)).1.length + fs.length ≤ 1000000000 := by
  have h1 := (Fr.all_sizes _ (B.take z) (Nat.le_refl _)).2
  have h2 : (B.take z).length ≤ B.length := by rw [List.length_take]; omega
  rw [hf] at h1
  simp only [List.length_append] at h1
  generalize (Fr.all (B.take k)).1.length = x at *
  omega

theorem back_next {w0 w5 : World} {B : List UInt8} {m : Nat} {ls : List (List UInt8)} {cs : List UInt8} {av bv cv : Value} {rb : Nat} {g5 : Tags} {k i z : Nat} {fs : List (List UInt8)} {rest : List UInt8} {a5 : Option Addr} {c5 : Nat}
    (h1 : k < z) (h2 : z ≤ m) (h3 : i ≤ k) (hf : Fr.all (B.take z) = ((Fr.all (B.take k)).1 ++ fs, rest, false)) (hL : Lists w5 g5 4 5 (.slice a5 ((Fr.all (B.take k)).1 ++ fs).length c5) ((Fr.all (B.take k)).1 ++ fs))
    (hS : Since w0 w5 g5) (hF : Frames w5 g5 0 av ls) (hC : Bytes w5 g5 0 cv cs) (hB : Bytes w5 g5 1 bv B) (hR : Reader w5 g5 3 rb rest false) {n5 : Nat} (hn : n5 = ((Fr.all (B.take k)).1 ++ fs).length) :
    BackAt w0 B m ls cs av bv cv rb (m - z) (.slice a5 n5 c5) (.int .i64 (z : Int)) (.int .i64 ((i : Int) + 1)) w5 := by
  refine ⟨z, i + 1, g5, a5, c5, h2, by omega, rfl, rfl, by go_num, by rw [hf, hn], by rw [hf]; exact hL, hS, hF, hC, hB, by rw [hf]; exact hR⟩

theorem back_end {w : World} {g : Tags} {B : List UInt8} {k rb : Nat} {ls : List (List UInt8)} {v : Value} (h1 : B.take k = B) (h2 : Fr.all B = (ls, [], false)) (hL : Lists w g 4 5 v (Fr.all (B.take k)).1) (hR : Reader w g 3 rb (Fr.all (B.take k)).2.1 false) :
    FramesIn w (fun b => g b = 4 ∨ g b = 5) v ls ∧ Reader w g 3 rb [] false := by
  rw [h1, h2] at hL hR
  exact ⟨hL.frames, hR⟩

set_option maxRecDepth 100000 in
set_option maxHeartbeats 4000000 in
theorem back_all (w : World) (v v' : Value) (ls : List (List UInt8)) (cs : List UInt8) (hv : FramesIn w (fun b => b < w.heap.size) v ls) (hv' : BytesIn w (fun b => b < w.heap.size) v' cs) (hl : ls.length ≤ 50) (hr : ∀ l ∈ ls, l.length ≤ 140737488351232) (ht : total ls ≤ 20000) (hc : cs.length ≤ 100) :
    Calls Try.prog 4 #[v, v'] w fun e w' => e = .returned (.bool true) ∧ Below w.heap.size w w' := by
  obtain ⟨ao, cap, rfl, _, _, _, hz⟩ := hv.open_
  obtain ⟨ao', cap', rfl, _, _, _, hz'⟩ := hv'.open_
  have h1 : (ls.length : Int) ≤ 50 := by omega
  have h2 : (cs.length : Int) ≤ 100 := by omega
  have HR := Lib.hid hr
  have HT := Lib.hid ht
  have C0 := Lib.hid (And.intro (Since.start w) (And.intro (show Frames w (fun _ => 0) 0 (.slice ao ls.length cap) ls from FramesIn.mono hv (fun _ _ _ => rfl)) (show Bytes w (fun _ => 0) 0 (.slice ao' cs.length cap') cs from BytesIn.mono hv' (fun _ _ _ => rfl))))
  clear hv hv' hz hz' hr ht
  go_enter Try.func4, Try.ntmps4
  go_wp2_with fail
  refine alive_t _ (fun _ => 0) 9 fun w1 g1 T1 => ?_
  have C1 := Lib.hid (And.intro (C0.out.1.turn T1 (by decide)) (And.intro (C0.out.2.1.turn T1 (by decide)) (C0.out.2.2.turn T1 (by decide))))
  clear C0 T1
  go_wp2_with fail
  refine (size_said _ _ _ ls C1.out.2.1 HR.out (by omega)).mono ?_
  rintro e w2 ⟨n, rfl, _, hn, rfl⟩
  have hn2 : (n : Int) ≤ 20000 := by have := HT.out; omega
  clear hn
  go_wp2_with fail
  refine (puts_said _ g1 1 0 _ ls C1.out.2.1 (by decide) (fun l hl => by have := len_le_total ls l hl; have := HT.out; omega) (by have := HT.out; omega)).mono ?_
  rintro e w2 ⟨bo, m, bc, g2, rfl, hm, ho, hT⟩
  have C2 := Lib.hid (And.intro (C1.out.1.turn hT (by decide)) (And.intro (C1.out.2.1.turn hT (by decide)) (And.intro (C1.out.2.2.turn hT (by decide)) ho)))
  have HM := Lib.hid hm
  clear C1 hT ho hm
  go_wp2_with fail
  refine new_t _ g2 3 fun rb w3 g3 T3 R3 => ?_
  have C3 := Lib.hid (And.intro (C2.out.1.turn T3 (by decide)) (And.intro (C2.out.2.1.turn T3 (by decide)) (And.intro (C2.out.2.2.1.turn T3 (by decide)) (And.intro (C2.out.2.2.2.turn T3 (by decide)) R3))))
  clear C2 T3 R3
  go_wp2_with fail
  go_loopg [8, 9, 10] m (fun gk va vat vi wr => BackAt w (Fr.frames ls) m ls cs (.slice ao ls.length cap) (.slice bo m bc) (.slice ao' cs.length cap') rb gk va vat vi wr)
  case atStart => exact back_start HM.out C3.out.1 C3.out.2.1 C3.out.2.2.1 C3.out.2.2.2.1 C3.out.2.2.2.2
  case round =>
    obtain ⟨k, i, gr, aa, ca, hk, hi, rfl, rfl, rfl, rfl, hL, hS, hF, hC, hB, hR⟩ := hrel
    have CR := Lib.hid (And.intro hL (And.intro hS (And.intro hF (And.intro hC (And.intro hB hR)))))
    clear hL hS hF hC hB hR C3
    have i0 : (0 : Int) ≤ (k : Int) := by omega
    have i2 : (0 : Int) ≤ (i : Int) := by omega
    have i4 : (m : Int) ≤ 100000 := by have := back_m HM.out HT.out; omega
    have i3 : (i : Int) ≤ 100000 := by omega
    have hmc : m ≤ bc ∧ bc ≤ maxLen := by have := back_cap CR.out.2.2.2.2.1; rw [HM.out]; exact this
    have HBB := Lib.hid (back_whole ls HT.out)
    have HBA := Lib.hid (back_told ls HT.out)
    by_cases hlt : k < m
    · have i1 : (k : Int) < (m : Int) := by omega
      obtain ⟨bb, off, rfl, _, _⟩ := BytesIn.cells (h := CR.out.2.2.2.2.1) (by rw [← HM.out]; omega)
      go_upto_if 49 with fail
      go_cut [11] (fun s11 wx => wx = wr ∧ ∃ c : Nat, s11 = .int .i64 (c : Int) ∧ 1 ≤ c ∧ c ≤ 256)
      case first =>
        by_cases hc0 : 0 < cs.length
        · have j0 : (0 : Int) < (cs.length : Int) := by omega
          obtain ⟨q, hq⟩ : ∃ q : Nat, q = i % cs.length := ⟨_, rfl⟩
          have hq1 : (i : Int) % (cs.length : Int) = (q : Int) := by omega
          have hq2 : q < cs.length := by rw [hq]; exact Nat.mod_lt _ hc0
          have hq3 : (q : Int) < (cs.length : Int) := by omega
          obtain ⟨cb, co, rfl, _, hcc⟩ := BytesIn.cells (h := CR.out.2.2.2.1) hc0
          have hc1 := hcc q hq2
          have hy1 := (cs[q]).toNat_lt
          generalize (cs[q]).toNat = y at *
          clear hcc hq
          go_wp2_with fail
          go_meet
          case rel => exact ⟨rfl, y + 1, by go_num, by omega, by omega⟩
        · have hc0' : (cs.length : Int) = 0 := by omega
          go_wp2_with fail
          go_meet
          case rel => exact ⟨rfl, 64, rfl, by omega, by omega⟩
      case rest =>
        obtain ⟨rfl, c, rfl, hc1, hc2⟩ := hcut
        go_upto_region 15 with fail
        go_cut [12] (fun s12 wx => wx = wc ∧ ∃ z : Nat, s12 = .int .i64 (z : Int) ∧ k < z ∧ z ≤ m)
        case first =>
          by_cases hge : m ≤ k + c
          · have j0 : (m : Int) ≤ (k : Int) + (c : Int) := by omega
            go_wp2_with fail
            go_meet
            case rel => exact ⟨rfl, m, rfl, by omega, by omega⟩
          · have j0 : (k : Int) + (c : Int) < (m : Int) := by omega
            go_wp2_with fail
            go_meet
            case rel => exact ⟨rfl, k + c, by go_num, by omega, by omega⟩
        case rest =>
          obtain ⟨rfl, z, rfl, ht1, ht2⟩ := hcut
          obtain ⟨ad, hsl, hs1, _⟩ := slice_lh (P := Try.prog) Try.underlying22 (by kernel_rfl) (some ⟨bb, off, none⟩) m bc k z (k : Int) (z : Int) rfl rfl (by omega) (by omega)
          obtain rfl : ad = some ⟨bb, off + k, none⟩ := by rw [hs1 (by omega), Option.map_some, add_none]
          have hpc := Bytes.cut CR.out.2.2.2.2.1 k z (bc - k) (by omega) (by rw [← HM.out]; omega) (ad := ⟨bb, off + k, none⟩) ⟨by omega, by omega⟩ (fun _ => rfl)
          obtain ⟨fs, rest, hf1, hf2⟩ := Fr.piece (Fr.frames ls) HBB.out k z (by omega)
          have HP := Lib.hid (And.intro hpc (And.intro hf1 hf2))
          clear hs1 hpc hf1 hf2
          go_wp2_with fail
          refine came_t 5 CR.out.2.2.2.2.2 HP.out.1 (back_small HM.out (by omega)) HP.out.2.1 rfl ?_
          intro a4 c4 w4 g4 T4 F4 R4
          have C4 := Lib.hid (And.intro (CR.out.1.turn T4 (by decide) (by decide)) (And.intro (CR.out.2.1.turn T4 (by decide)) (And.intro (CR.out.2.2.1.turn T4 (by decide)) (And.intro (CR.out.2.2.2.1.turn T4 (by decide)) (And.intro (CR.out.2.2.2.2.1.turn T4 (by decide)) (And.intro R4 F4))))))
          have hl4 := back_fs HM.out (by omega) HP.out.2.2
          clear T4 F4 R4 hsl
          go_wp2_with (refine append_lists rfl (.tmp 76) (.tmp 77) rfl rfl C4.out.1 rfl C4.out.2.2.2.2.2.2 (by decide) (by omega) ?_; intro a5 c5 w5 g5 L5 T5; have X5 := Lib.hid (And.intro L5 T5); clear L5 T5)
          go_roundg (m - z)
          case measure => omega
          case rel => exact back_next (by omega) (by omega) (by omega) HP.out.2.2 X5.out.1 (C4.out.2.1.turn X5.out.2 (by decide)) (C4.out.2.2.1.turn X5.out.2 (by decide)) (C4.out.2.2.2.1.turn X5.out.2 (by decide)) (C4.out.2.2.2.2.1.turn X5.out.2 (by decide)) (C4.out.2.2.2.2.2.1.turn X5.out.2 (by decide)) (by simp)
    · obtain rfl : k = m := by omega
      have e : (Fr.frames ls).take k = Fr.frames ls := by rw [HM.out, List.take_length]
      have e2 := HBA.out
      have CE := back_end e e2 CR.out.1 CR.out.2.2.2.2.2
      have CE := Lib.hid CE
      clear e e2
      go_wp2_with fail
      refine sames_t gr CE.out.1 CR.out.2.2.1 fun w6 T6 => ?_
      go_wp2_with fail
      refine left_t (CE.out.2.turn T6 (by decide)) ?_
      have S6 := Lib.hid (CR.out.2.1.turn T6 (by decide))
      clear T6
      go_wp2_with fail
      go_ret
      exact ⟨rfl, S6.out.below⟩

/-- The statement's guard says no. -/
def BackGreat (ls : List (List UInt8)) (cs : List UInt8) : Prop := 50 < ls.length ∨ (ls.length ≤ 50 ∧ 20000 < total ls) ∨ (ls.length ≤ 50 ∧ total ls ≤ 20000 ∧ 100 < cs.length)

set_option maxRecDepth 100000 in
set_option maxHeartbeats 4000000 in
theorem back_great (w : World) (v v' : Value) (ls : List (List UInt8)) (cs : List UInt8) (hv : FramesIn w (fun b => b < w.heap.size) v ls) (hv' : BytesIn w (fun b => b < w.heap.size) v' cs) (hr : ∀ l ∈ ls, l.length ≤ 140737488351232) (hg : BackGreat ls cs) :
    Calls Try.prog 4 #[v, v'] w fun e w' => e = .returned (.bool true) ∧ Below w.heap.size w w' := by
  obtain ⟨ao, cap, rfl, hc1, hc2, _, hz⟩ := hv.open_
  obtain ⟨ao', cap', rfl, hc1', hc2', _, hz'⟩ := hv'.open_
  have h1 : (ls.length : Int) ≤ 9223372036854775807 := by unfold maxLen at hc2; omega
  have h2 : (cs.length : Int) ≤ 9223372036854775807 := by unfold maxLen at hc2'; omega
  have HR := Lib.hid hr
  have C0 := Lib.hid (And.intro (Since.start w) (show Frames w (fun _ => 0) 0 (.slice ao ls.length cap) ls from FramesIn.mono hv (fun _ _ _ => rfl)))
  clear hv hv' hz hz' hr hc1 hc2 hc1' hc2'
  rcases hg with hg | ⟨hg1, hg2⟩ | ⟨hg1, hg2, hg3⟩
  · have j : (50 : Int) < (ls.length : Int) := by omega
    clear hg
    go_enter Try.func4, Try.ntmps4
    go_wp2_with fail
    refine alive_t _ (fun _ => 0) 9 fun w1 g1 T1 => ?_
    have C1 := Lib.hid (C0.out.1.turn T1 (by decide))
    clear T1
    go_wp2_with fail
    refine alive_t _ g1 9 fun w2 g2 T2 => ?_
    have C2 := Lib.hid (C1.out.turn T2 (by decide))
    clear T2
    go_wp2_with fail
    go_ret
    exact ⟨rfl, C2.out.below⟩
  · have j : (ls.length : Int) ≤ 50 := by omega
    go_enter Try.func4, Try.ntmps4
    go_wp2_with fail
    refine alive_t _ (fun _ => 0) 9 fun w1 g1 T1 => ?_
    have C1 := Lib.hid (And.intro (C0.out.1.turn T1 (by decide)) (C0.out.2.turn T1 (by decide)))
    clear T1
    go_wp2_with fail
    refine (size_said _ _ _ ls C1.out.2 HR.out (by omega)).mono ?_
    rintro e w2 ⟨n, rfl, hn0, hn, rfl⟩
    have hn2 : (20000 : Int) < (n : Int) := by
      rcases Nat.lt_or_ge 1048576 n with h | h
      · omega
      · have := hn0 h; omega
    clear hn0 hn hg1 hg2
    go_wp2_with fail
    refine alive_t _ g1 9 fun w2 g2 T2 => ?_
    have C2 := Lib.hid (C1.out.1.turn T2 (by decide))
    clear T2
    go_wp2_with fail
    go_ret
    exact ⟨rfl, C2.out.below⟩
  · have j : (ls.length : Int) ≤ 50 := by omega
    have j2 : (100 : Int) < (cs.length : Int) := by omega
    go_enter Try.func4, Try.ntmps4
    go_wp2_with fail
    refine alive_t _ (fun _ => 0) 9 fun w1 g1 T1 => ?_
    have C1 := Lib.hid (And.intro (C0.out.1.turn T1 (by decide)) (C0.out.2.turn T1 (by decide)))
    clear T1
    go_wp2_with fail
    refine (size_said _ _ _ ls C1.out.2 HR.out (by omega)).mono ?_
    rintro e w2 ⟨n, rfl, hn0, hn, rfl⟩
    have hn2 : (n : Int) ≤ 20000 := by omega
    clear hn0 hn hg1 hg2 hg3
    go_wp2_with fail
    refine alive_t _ g1 9 fun w2 g2 T2 => ?_
    have C2 := Lib.hid (C1.out.1.turn T2 (by decide))
    clear T2
    go_wp2_with fail
    go_ret
    exact ⟨rfl, C2.out.below⟩

theorem back_any (w : World) (v : Value) (ls : List (List UInt8)) (hv : FramesIn w (fun b => b < w.heap.size) v ls ∧ ∀ l ∈ ls, l.length ≤ 140737488351232) (v' : Value) (cs : List UInt8) (hv' : BytesIn w (fun b => b < w.heap.size) v' cs) :
    Calls Try.prog 4 #[v, v'] w fun e w' => e = .returned (.bool true) ∧ Below w.heap.size w w' := by
  by_cases h1 : ls.length ≤ 50
  · by_cases h2 : total ls ≤ 20000
    · by_cases h3 : cs.length ≤ 100
      · exact back_all w v v' ls cs hv.1 hv' h1 hv.2 h2 h3
      · exact back_great w v v' ls cs hv.1 hv' hv.2 (.inr (.inr ⟨h1, h2, by omega⟩))
    · exact back_great w v v' ls cs hv.1 hv' hv.2 (.inr (.inl ⟨h1, by omega⟩))
  · exact back_great w v v' ls cs hv.1 hv' hv.2 (.inl (by omega))
end Go.Proofs.Ytolkphbnneoloaa
