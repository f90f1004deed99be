/- Frames: the walk of FramesCut. -/
import Derived.Test.YtolkphbnneoloaaFrBack
namespace Go.Proofs.Ytolkphbnneoloaa
open Go.RowKit Go.My

/-- At the head of a round: k bytes of B came. -/
def CutAt (w0 : World) (B cs : List UInt8) (bv cv xv : Value) (rw_ rb : Nat) (gk : Nat) (va vb vat vi : Value) (wr : World) : Prop :=
  ∃ k i gr ao cap, k ≤ B.length ∧ i ≤ k ∧ gk = B.length - k ∧ vat = .int .i64 (k : Int) ∧ vi = .int .i64 (i : Int) ∧ vb = .bool (Fr.all (B.take k)).2.2 ∧ va = .slice ao (Fr.all (B.take k)).1.length cap ∧
    Lists wr gr 4 5 (.slice ao (Fr.all (B.take k)).1.length cap) (Fr.all (B.take k)).1 ∧ Since w0 wr gr ∧ Bytes wr gr 0 bv B ∧ Bytes wr gr 0 cv cs ∧ Frames wr gr 2 xv (Fr.all B).1 ∧ Reader wr gr 3 rb (Fr.all (B.take k)).2.1 (Fr.all (B.take k)).2.2 ∧ Reader wr gr 1 rw_ (Fr.all B).2.1 (Fr.all B).2.2

theorem cut_start {w w3 : World} {B cs : List UInt8} {bv cv xv : Value} {rw_ rb : Nat} {g : Tags} (h1 : Since w w3 g) (h2 : Bytes w3 g 0 bv B) (h3 : Bytes w3 g 0 cv cs) (h4 : Frames w3 g 2 xv (Fr.all B).1) (h5 : Reader w3 g 3 rb [] false) (h6 : Reader w3 g 1 rw_ (Fr.all B).2.1 (Fr.all B).2.2) :
    CutAt w B cs bv cv xv rw_ rb B.length (.slice none 0 0) (.bool false) (.int .i64 0) (.int .i64 0) w3 := by
  have e : Fr.all (B.take 0) = ([], [], false) := by rw [List.take_zero]; exact Fr.all_short [] (by decide)
  refine ⟨0, 0, g, none, 0, Nat.zero_le _, Nat.le_refl _, rfl, rfl, rfl, by rw [e], by rw [e]; rfl, ?_, h1, h2, h3, h4, ?_, h6⟩
  · rw [e]; exact Lists.nil _ _ _ _
  · rw [e]; exact h5

theorem cut_next {w0 w5 : World} {B cs : List UInt8} {bv cv xv : Value} {rw_ rb : Nat} {g5 : Tags} {k i z : Nat} {fs : List (List UInt8)} {rest : List UInt8} {b : Bool} {a5 : Option Addr} {c5 : Nat}
    (h1 : k < z) (h2 : z ≤ B.length) (h3 : i ≤ k) (hf : Fr.all (B.take z) = ((Fr.all (B.take k)).1 ++ fs, rest, b)) (hL : Lists w5 g5 4 5 (.slice a5 ((Fr.all (B.take k)).1 ++ fs).length c5) ((Fr.all (B.take k)).1 ++ fs))
    (hS : Since w0 w5 g5) (hB : Bytes w5 g5 0 bv B) (hC : Bytes w5 g5 0 cv cs) (hX : Frames w5 g5 2 xv (Fr.all B).1) (hR : Reader w5 g5 3 rb rest b) (hW : Reader w5 g5 1 rw_ (Fr.all B).2.1 (Fr.all B).2.2) {n5 : Nat} (hn : n5 = ((Fr.all (B.take k)).1 ++ fs).length) {vb : Value} (hb : vb = .bool b) :
    CutAt w0 B cs bv cv xv rw_ rb (B.length - z) (.slice a5 n5 c5) vb (.int .i64 (z : Int)) (.int .i64 ((i : Int) + 1)) w5 := by
  refine ⟨z, i + 1, g5, a5, c5, h2, by omega, rfl, rfl, by go_num, by rw [hf, hb], by rw [hf, hn], by rw [hf]; exact hL, hS, hB, hC, hX, by rw [hf]; exact hR, hW⟩

theorem cut_end {w : World} {g : Tags} {B : List UInt8} {k rb rw_ : Nat} {xv : Value} {aa : Option Addr} {ca : Nat} {ws : List (List UInt8)} {wl : List UInt8} {wb : Bool} (h1 : Fr.all B = (ws, wl, wb)) (h2 : Fr.all (B.take k) = (ws, wl, wb))
    (hL : Lists w g 4 5 (.slice aa (Fr.all (B.take k)).1.length ca) (Fr.all (B.take k)).1) (hX : Frames w g 2 xv (Fr.all B).1) (hR : Reader w g 3 rb (Fr.all (B.take k)).2.1 (Fr.all (B.take k)).2.2) (hW : Reader w g 1 rw_ (Fr.all B).2.1 (Fr.all B).2.2) :
    FramesIn w (fun b => g b = 4 ∨ g b = 5) (.slice aa ws.length ca) ws ∧ FramesIn w (fun b => g b = 2) xv ws ∧ Reader w g 3 rb wl wb ∧ Reader w g 1 rw_ wl wb := by
  rw [h2] at hL hR
  rw [h1] at hX hW
  exact ⟨hL.frames, hX, hR, hW⟩

theorem cut_fs {B : List UInt8} {k z : Nat} {fs : List (List UInt8)} {rest : List UInt8} {b : Bool} (h : B.length ≤ 100000) (hf : Fr.all (B.take z) = ((Fr.all (B.take k)).1 ++ fs, rest, b)) : (Fr.all (B.take k)).1.length + fs.length ≤ 1000000000 := by
  have h1 := (Fr.all_sizes _ (B.take z) (Nat.le_refl _)).2
  have h2 : (B.take z).length ≤ B.length := by rw [List.length_take]; omega
  rw [hf] at h1
  simp only [List.length_append] at h1
  generalize (Fr.all (B.take k)).1.length = x at *
  omega

/-- Once broken, nothing is left. -/
theorem cut_broken {w : World} {g : Tags} {B : List UInt8} {k z rb : Nat} (h : (Fr.all (B.take k)).2.2 = true) (_hs : Fr.all (B.take z) = ((Fr.all (B.take k)).1, [], true)) (hR : Reader w g 3 rb (Fr.all (B.take k)).2.1 (Fr.all (B.take k)).2.2) : Reader w g 3 rb [] true := by
  rw [h, Fr.broken_left (B.take k) h] at hR
  exact hR

/-- One piece more, where nothing is broken. -/
theorem cut_piece (B : List UInt8) (k z : Nat) (h : k ≤ z) (hb : (Fr.all (B.take k)).2.2 = false) :
    ∃ fs rest b, Fr.all ((Fr.all (B.take k)).2.1 ++ (B.drop k).take (z - k)) = (fs, rest, b) ∧ Fr.all (B.take z) = ((Fr.all (B.take k)).1 ++ fs, rest, b) :=
  ⟨_, _, _, rfl, Fr.all_next B h hb⟩

set_option maxRecDepth 100000 in
set_option maxHeartbeats 4000000 in
theorem cut_all (w : World) (v v' : Value) (B cs : List UInt8) (hv : BytesIn w (fun b => b < w.heap.size) v B) (hv' : BytesIn w (fun b => b < w.heap.size) v' cs) (hl : B.length ≤ 20000) (hc : cs.length ≤ 100) :
    Calls Try.prog 5 #[v, v'] w fun e w' => e = .returned (.bool true) ∧ Below w.heap.size w w' := by
  obtain ⟨ao, cap, rfl, hcp1, hcp2, _, hz⟩ := hv.open_
  obtain ⟨ao', cap', rfl, _, _, _, hz'⟩ := hv'.open_
  have h1 : (B.length : Int) ≤ 20000 := by omega
  have h2 : (cs.length : Int) ≤ 100 := by omega
  have C0 := Lib.hid (And.intro (Since.start w) (And.intro (show Bytes w (fun _ => 0) 0 (.slice ao B.length cap) B from BytesIn.mono hv (fun _ _ _ => rfl)) (show Bytes w (fun _ => 0) 0 (.slice ao' cs.length cap') cs from BytesIn.mono hv' (fun _ _ _ => rfl))))
  clear hv hv' hz hz'
  obtain ⟨ws, wl, wb, hwa⟩ : ∃ ws wl wb, Fr.all B = (ws, wl, wb) := ⟨_, _, _, rfl⟩
  have HWA := Lib.hid hwa
  clear hwa
  obtain ⟨en, hen⟩ : ∃ en : Int, (if wb then (3 : Int) else 0) = en := ⟨_, rfl⟩
  have HEN := Lib.hid hen
  clear hen
  go_enter Try.func5, Try.ntmps5
  go_wp2_with fail
  refine alive_t _ (fun _ => 0) 9 fun w1 g1 T1 => ?_
  have C1 := Lib.hid (And.intro (C0.out.1.turn T1 (by decide)) (And.intro (C0.out.2.1.turn T1 (by decide)) (C0.out.2.2.turn T1 (by decide))))
  clear C0 T1
  go_wp2_with fail
  refine new_t _ g1 1 fun rw_ w2 g2 T2 R2 => ?_
  have C2 := Lib.hid (And.intro (C1.out.1.turn T2 (by decide)) (And.intro (C1.out.2.1.turn T2 (by decide)) (And.intro (C1.out.2.2.turn T2 (by decide)) R2)))
  clear C1 T2 R2
  go_wp2_with fail
  refine came_t 2 C2.out.2.2.2 C2.out.2.1 (by simp only [List.length_nil]; omega) (fs := ws) (rest := wl) (k := wb) (by rw [List.nil_append]; exact HWA.out) HEN.out ?_
  intro xa xc w3 g3 T3 F3 R3
  have C3 := Lib.hid (And.intro (C2.out.1.turn T3 (by decide)) (And.intro (C2.out.2.1.turn T3 (by decide)) (And.intro (C2.out.2.2.1.turn T3 (by decide)) (And.intro F3 R3))))
  clear C2 T3 F3 R3
  go_wp2_with fail
  refine new_t _ g3 3 fun rb w4 g4 T4 R4 => ?_
  have C4 := Lib.hid (cut_start (C3.out.1.turn T4 (by decide)) (C3.out.2.1.turn T4 (by decide)) (C3.out.2.2.1.turn T4 (by decide)) (by rw [HWA.out]; exact C3.out.2.2.2.1.turn T4 (by decide)) R4 (by rw [HWA.out]; exact C3.out.2.2.2.2.turn T4 (by decide)))
  clear C3 T4 R4
  go_wp2_with fail
  go_loopg [9, 10, 11, 12] B.length (fun gk va vb vat vi wr => CutAt w B cs (.slice ao B.length cap) (.slice ao' cs.length cap') (.slice xa ws.length xc) rw_ rb gk va vb vat vi wr)
  case atStart => exact C4.out
  case round =>
    obtain ⟨k, i, gr, aa, ca, hk, hi, rfl, rfl, rfl, rfl, rfl, hL, hS, hB, hC, hX, hR, hW⟩ := hrel
    have CR := Lib.hid (And.intro hL (And.intro hS (And.intro hB (And.intro hC (And.intro hX (And.intro hR hW))))))
    clear hL hS hB hC hX hR hW C4
    have i0 : (0 : Int) ≤ (k : Int) := by omega
    have i2 : (0 : Int) ≤ (i : Int) := by omega
    have i3 : (i : Int) ≤ 100000 := by omega
    by_cases hlt : k < B.length
    · have i1 : (k : Int) < (B.length : Int) := by omega
      obtain ⟨bb, off, rfl, _, _⟩ := BytesIn.cells (h := CR.out.2.2.1) (by omega)
      go_upto_if 46 with fail
      go_cut [13] (fun s11 wx => wx = wr ∧ ∃ c : Nat, s11 = .int .i64 (c : Int) ∧ 1 ≤ c ∧ c ≤ 256)
      case first =>
        by_cases hc0 : 0 < cs.length
        · have j0 : (0 : Int) < (cs.length : Int) := by omega
          obtain ⟨q, hq⟩ : ∃ q : Nat, q = i % cs.length := ⟨_, rfl⟩
          have hq1 : (i : Int) % (cs.length : Int) = (q : Int) := by omega
          have hq2 : q < cs.length := by rw [hq]; exact Nat.mod_lt _ hc0
          have hq3 : (q : Int) < (cs.length : Int) := by omega
          obtain ⟨cb, co, rfl, _, hcc⟩ := BytesIn.cells (h := CR.out.2.2.2.1) hc0
          have hc1 := hcc q hq2
          have hy1 := (cs[q]).toNat_lt
          generalize (cs[q]).toNat = y at *
          clear hcc hq
          go_wp2_with fail
          go_meet
          case rel => exact ⟨rfl, y + 1, by go_num, by omega, by omega⟩
        · have hc0' : (cs.length : Int) = 0 := by omega
          go_wp2_with fail
          go_meet
          case rel => exact ⟨rfl, 50, rfl, by omega, by omega⟩
      case rest =>
        obtain ⟨rfl, c, rfl, hc1, hc2⟩ := hcut
        go_upto_region 15 with fail
        go_cut [14] (fun s12 wx => wx = wc ∧ ∃ z : Nat, s12 = .int .i64 (z : Int) ∧ k < z ∧ z ≤ B.length)
        case first =>
          by_cases hge : B.length ≤ k + c
          · have j0 : (B.length : Int) ≤ (k : Int) + (c : Int) := by omega
            go_wp2_with fail
            go_meet
            case rel => exact ⟨rfl, B.length, rfl, by omega, by omega⟩
          · have j0 : (k : Int) + (c : Int) < (B.length : Int) := by omega
            go_wp2_with fail
            go_meet
            case rel => exact ⟨rfl, k + c, by go_num, by omega, by omega⟩
        case rest =>
          obtain ⟨rfl, z, rfl, ht1, ht2⟩ := hcut
          obtain ⟨ad, hsl, hs1, _⟩ := slice_lh (P := Try.prog) Try.underlying22 (by kernel_rfl) (some ⟨bb, off, none⟩) B.length cap k z (k : Int) (z : Int) rfl rfl (by omega) (by omega)
          obtain rfl : ad = some ⟨bb, off + k, none⟩ := by rw [hs1 (by omega), Option.map_some, add_none]
          have hpc := Bytes.cut CR.out.2.2.1 k z (cap - k) (by omega) (by omega) (ad := ⟨bb, off + k, none⟩) ⟨by omega, by omega⟩ (fun _ => rfl)
          have HP := Lib.hid hpc
          clear hs1 hpc
          cases hbk : (Fr.all (B.take k)).2.2 with
          | true =>
            have HS := Lib.hid (Fr.all_stays B (Nat.le_of_lt ht1) hbk)
            have HBK := Lib.hid hbk
            clear hbk
            go_wp2_with fail
            refine broken_t (by have := CR.out.2.2.2.2.2.1; rw [HBK.out] at this; exact this) _ ?_
            have hl4 := cut_fs (B := B) (k := k) (z := z) (fs := []) (by omega) (by rw [List.append_nil]; exact HS.out)
            simp only [List.length_nil, Nat.add_zero] at hl4
            go_wp2_with (refine append_lists rfl (.tmp 98) (.tmp 99) rfl rfl CR.out.1 rfl (FramesIn.nil _ _) (by decide) (by simp; omega) ?_; intro a5 c5 w5 g5 L5 T5; have X5 := Lib.hid (And.intro L5 T5); clear L5 T5)
            go_roundg (B.length - z)
            case measure => omega
            case rel => exact cut_next (fs := []) ht1 ht2 hi (by rw [List.append_nil]; exact HS.out) (by rw [List.append_nil] at X5 ⊢; exact X5.out.1) (CR.out.2.1.turn X5.out.2 (by decide)) (CR.out.2.2.1.turn X5.out.2 (by decide)) (CR.out.2.2.2.1.turn X5.out.2 (by decide)) (CR.out.2.2.2.2.1.turn X5.out.2 (by decide)) (cut_broken HBK.out HS.out (CR.out.2.2.2.2.2.1.turn X5.out.2 (by decide))) (CR.out.2.2.2.2.2.2.turn X5.out.2 (by decide)) (by simp) rfl
          | false =>
            obtain ⟨fs, rest, b, hf1, hf2⟩ := cut_piece B k z (Nat.le_of_lt ht1) hbk
            have HF := Lib.hid (And.intro hf1 hf2)
            have HBK := Lib.hid hbk
            have hl4 := cut_fs (by omega) hf2
            clear hbk hf1 hf2
            cases b with
            | true =>
              go_wp2_with fail
              refine came_t 5 (by have := CR.out.2.2.2.2.2.1; rw [HBK.out] at this; exact this) HP.out (back_small rfl (by omega)) HF.out.1 rfl ?_
              intro a4 c4 w4 g4 T4 F4 R4
              have D4 := Lib.hid (And.intro (CR.out.1.turn T4 (by decide) (by decide)) (And.intro (CR.out.2.1.turn T4 (by decide)) (And.intro (CR.out.2.2.1.turn T4 (by decide)) (And.intro (CR.out.2.2.2.1.turn T4 (by decide)) (And.intro (CR.out.2.2.2.2.1.turn T4 (by decide)) (And.intro (CR.out.2.2.2.2.2.2.turn T4 (by decide)) (And.intro R4 F4)))))))
              clear T4 F4 R4 hsl
              go_wp2_with (refine append_lists rfl (.tmp 98) (.tmp 99) rfl rfl D4.out.1 rfl D4.out.2.2.2.2.2.2.2 (by decide) (by omega) ?_; intro a5 c5 w5 g5 L5 T5; have X5 := Lib.hid (And.intro L5 T5); clear L5 T5)
              go_roundg (B.length - z)
              case measure => omega
              case rel => exact cut_next ht1 ht2 hi HF.out.2 X5.out.1 (D4.out.2.1.turn X5.out.2 (by decide)) (D4.out.2.2.1.turn X5.out.2 (by decide)) (D4.out.2.2.2.1.turn X5.out.2 (by decide)) (D4.out.2.2.2.2.1.turn X5.out.2 (by decide)) (D4.out.2.2.2.2.2.2.1.turn X5.out.2 (by decide)) (D4.out.2.2.2.2.2.1.turn X5.out.2 (by decide)) (by simp) rfl
            | false =>
              go_wp2_with fail
              refine came_t 5 (by have := CR.out.2.2.2.2.2.1; rw [HBK.out] at this; exact this) HP.out (back_small rfl (by omega)) HF.out.1 rfl ?_
              intro a4 c4 w4 g4 T4 F4 R4
              have D4 := Lib.hid (And.intro (CR.out.1.turn T4 (by decide) (by decide)) (And.intro (CR.out.2.1.turn T4 (by decide)) (And.intro (CR.out.2.2.1.turn T4 (by decide)) (And.intro (CR.out.2.2.2.1.turn T4 (by decide)) (And.intro (CR.out.2.2.2.2.1.turn T4 (by decide)) (And.intro (CR.out.2.2.2.2.2.2.turn T4 (by decide)) (And.intro R4 F4)))))))
              clear T4 F4 R4 hsl
              go_wp2_with (refine append_lists rfl (.tmp 98) (.tmp 99) rfl rfl D4.out.1 rfl D4.out.2.2.2.2.2.2.2 (by decide) (by omega) ?_; intro a5 c5 w5 g5 L5 T5; have X5 := Lib.hid (And.intro L5 T5); clear L5 T5)
              go_roundg (B.length - z)
              case measure => omega
              case rel => exact cut_next ht1 ht2 hi HF.out.2 X5.out.1 (D4.out.2.1.turn X5.out.2 (by decide)) (D4.out.2.2.1.turn X5.out.2 (by decide)) (D4.out.2.2.2.1.turn X5.out.2 (by decide)) (D4.out.2.2.2.2.1.turn X5.out.2 (by decide)) (D4.out.2.2.2.2.2.2.1.turn X5.out.2 (by decide)) (D4.out.2.2.2.2.2.1.turn X5.out.2 (by decide)) (by simp) rfl
    · obtain rfl : k = B.length := by omega
      have hbb : Fr.all (B.take B.length) = (ws, wl, wb) := by rw [List.take_length, HWA.out]
      have CE := Lib.hid (cut_end HWA.out hbb CR.out.1 CR.out.2.2.2.2.1 CR.out.2.2.2.2.2.1 CR.out.2.2.2.2.2.2)
      have CS := Lib.hid CR.out.2.1
      rw [hbb]
      clear hbb CR HWA
      simp only
      cases wb with
      | true =>
        obtain rfl : en = 3 := HEN.out.symm
        go_wp2_with fail
        refine sames_t gr CE.out.1 CE.out.2.1 fun w6 T6 => ?_
        go_wp2_with fail
        refine left_t (CE.out.2.2.1.turn T6 (by decide)) ?_
        go_wp2_with fail
        refine left_t (CE.out.2.2.2.turn T6 (by decide)) ?_
        have S6 := Lib.hid (CS.out.turn T6 (by decide))
        clear T6
        go_wp2_with fail
        go_ret
        exact ⟨rfl, S6.out.below⟩
      | false =>
        obtain rfl : en = 0 := HEN.out.symm
        go_wp2_with fail
        refine sames_t gr CE.out.1 CE.out.2.1 fun w6 T6 => ?_
        go_wp2_with fail
        refine left_t (CE.out.2.2.1.turn T6 (by decide)) ?_
        go_wp2_with fail
        refine left_t (CE.out.2.2.2.turn T6 (by decide)) ?_
        have S6 := Lib.hid (CS.out.turn T6 (by decide))
        clear T6
        go_wp2_with fail
        go_ret
        exact ⟨rfl, S6.out.below⟩

set_option maxRecDepth 100000 in
set_option maxHeartbeats 4000000 in
theorem cut_great (w : World) (v v' : Value) (B cs : List UInt8) (hv : BytesIn w (fun b => b < w.heap.size) v B) (hv' : BytesIn w (fun b => b < w.heap.size) v' cs) (hg : 20000 < B.length ∨ B.length ≤ 20000 ∧ 100 < cs.length) :
    Calls Try.prog 5 #[v, v'] w fun e w' => e = .returned (.bool true) ∧ Below w.heap.size w w' := by
  obtain ⟨ao, cap, rfl, hc1, hc2, _, hz⟩ := hv.open_
  obtain ⟨ao', cap', rfl, hc1', hc2', _, hz'⟩ := hv'.open_
  have h1 : (B.length : Int) ≤ 9223372036854775807 := by unfold maxLen at hc2; omega
  have h2 : (cs.length : Int) ≤ 9223372036854775807 := by unfold maxLen at hc2'; omega
  have C0 := Lib.hid (Since.start w)
  clear hv hv' hz hz' hc1 hc2 hc1' hc2'
  rcases hg with hg | ⟨hg1, hg2⟩
  · have j : (20000 : Int) < (B.length : Int) := by omega
    clear hg
    go_enter Try.func5, Try.ntmps5
    go_wp2_with fail
    refine alive_t _ (fun _ => 0) 9 fun w1 g1 T1 => ?_
    have C1 := Lib.hid (C0.out.turn T1 (by decide))
    clear T1
    go_wp2_with fail
    refine alive_t _ g1 9 fun w2 g2 T2 => ?_
    have C2 := Lib.hid (C1.out.turn T2 (by decide))
    clear T2
    go_wp2_with fail
    go_ret
    exact ⟨rfl, C2.out.below⟩
  · have j : (B.length : Int) ≤ 20000 := by omega
    have j2 : (100 : Int) < (cs.length : Int) := by omega
    clear hg1 hg2
    go_enter Try.func5, Try.ntmps5
    go_wp2_with fail
    refine alive_t _ (fun _ => 0) 9 fun w1 g1 T1 => ?_
    have C1 := Lib.hid (C0.out.turn T1 (by decide))
    clear T1
    go_wp2_with fail
    refine alive_t _ g1 9 fun w2 g2 T2 => ?_
    have C2 := Lib.hid (C1.out.turn T2 (by decide))
    clear T2
    go_wp2_with fail
    go_ret
    exact ⟨rfl, C2.out.below⟩

theorem cut_any (w : World) (v : Value) (B : List UInt8) (hv : BytesIn w (fun b => b < w.heap.size) v B) (v' : Value) (cs : List UInt8) (hv' : BytesIn w (fun b => b < w.heap.size) v' cs) :
    Calls Try.prog 5 #[v, v'] w fun e w' => e = .returned (.bool true) ∧ Below w.heap.size w w' := by
  by_cases h1 : B.length ≤ 20000
  · by_cases h2 : cs.length ≤ 100
    · exact cut_all w v v' B cs hv hv' h1 h2
    · exact cut_great w v v' B cs hv hv' (.inr ⟨h1, by omega⟩)
  · exact cut_great w v v' B cs hv hv' (.inl (by omega))
end Go.Proofs.Ytolkphbnneoloaa
