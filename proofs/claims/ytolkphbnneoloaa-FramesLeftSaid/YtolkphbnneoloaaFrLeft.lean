/- Frames: the walk of FramesLeft. -/
import Derived.Test.YtolkphbnneoloaaFrUse
import Derived.Test.YtolkphbnneoloaaMem2
namespace Go.Proofs.Ytolkphbnneoloaa
open Go.RowKit Go.My

set_option maxRecDepth 100000 in
set_option maxHeartbeats 4000000 in
theorem left_great (w : World) (v : Value) (l : List UInt8) (hv : BytesIn w (fun b => b < w.heap.size) v l) (a : Int) (hl : 20000 < l.length) :
    Calls Try.prog 6 #[v, .int .u16 a] w fun e w' => e = .returned (.bool true) ∧ Below w.heap.size w w' := by
  obtain ⟨ao, cap, rfl, _, hm, _⟩ := hv.open_
  have h1 : (20000 : Int) < l.length := by omega
  have h2 : (l.length : Int) ≤ 9223372036854775807 := by unfold maxLen at hm; omega
  clear hv hm
  go_enter Try.func6, Try.ntmps6
  go_wp2_with fail
  refine (alive_said _).mono ?_
  rintro e w1 ⟨rfl, hb1⟩
  have HB1 := Lib.hid hb1
  clear hb1
  go_wp2_with fail
  refine (alive_said _).mono ?_
  rintro e w2 ⟨rfl, hb2⟩
  have HB2 := Lib.hid hb2
  clear hb2
  go_wp2_with fail
  go_ret
  exact ⟨rfl, HB1.out.trans (HB2.out.mono HB1.out.size)⟩

set_option maxRecDepth 100000 in
set_option maxHeartbeats 4000000 in
theorem left_all (w : World) (v : Value) (l : List UInt8) (hv : BytesIn w (fun b => b < w.heap.size) v l) (a : Int) (ha : (Lit.int .u16 a).wf = true) (hl : l.length ≤ 20000) :
    Calls Try.prog 6 #[v, .int .u16 a] w fun e w' => e = .returned (.bool true) ∧ Below w.heap.size w w' := by
  obtain ⟨ao, cap, rfl, _, hm, _⟩ := hv.open_
  have h1 : (l.length : Int) ≤ 20000 := by omega
  have HV := Lib.hid hv
  have ha0 : 0 ≤ a := by simp [Lit.wf, IntKind.min, IntKind.max, IntKind.signed, IntKind.bits] at ha; omega
  have ha1 : a ≤ 65535 := by simp [Lit.wf, IntKind.min, IntKind.max, IntKind.signed, IntKind.bits] at ha; omega
  obtain ⟨k, hk⟩ : ∃ k : Nat, k = (a % (l.length + 4)).toNat := ⟨_, rfl⟩
  have hk0 : a % ((l.length : Int) + 4) = (k : Int) := by have := Int.emod_nonneg a (show (l.length : Int) + 4 ≠ 0 by omega); omega
  have hk1 : k < l.length + 4 := by have := Int.emod_lt_of_pos a (show (0 : Int) < (l.length : Int) + 4 by omega); omega
  clear hv hm ha hk
  go_enter Try.func6, Try.ntmps6
  go_wp2_with fail
  refine (alive_said _).mono ?_
  rintro e w1 ⟨rfl, hb1⟩
  have HB1 := Lib.hid hb1
  clear hb1
  go_wp2_with fail
  refine (put_said (HV.out.below HB1.out (fun _ h => h)) (fun b hb => Nat.lt_of_lt_of_le hb HB1.out.size) (by omega)).mono ?_
  rintro e w2 ⟨gp, rfl, hge, hbp, hhp, hb2⟩
  have H2 := Lib.hid (And.intro hge (And.intro hbp (And.intro hhp hb2)))
  clear hge hbp hhp hb2
  go_wp2_with fail
  refine (new_said _).mono ?_
  rintro e w3 ⟨rb, rfl, hrb, hR3, hw3⟩
  have H3 := Lib.hid (And.intro hrb (And.intro hR3 hw3))
  clear hrb hR3 hw3
  have hfl := Fr.length_frame l
  have hp3 : BytesIn w3 (fun b => b = gp) (.slice (some ⟨gp, 0, none⟩) (l.length + 4) (l.length + 4)) (Fr.frame l) := by rw [H3.out.2.2]; exact bytes_alloc H2.out.2.1 _
  have hx : BytesIn w3 (fun b => b = gp) (.slice (some ⟨gp, 0, none⟩) k (l.length + 4)) ((Fr.frame l).take k) := by
    have := hp3.cut 0 k (l.length + 4) (Nat.zero_le _) (by omega) (ad := ⟨gp, 0, none⟩) ⟨by omega, by unfold maxLen; omega⟩ (fun _ => rfl)
    simpa using this
  have hxl : ((Fr.frame l).take k).length = k := by rw [List.length_take, hfl]; omega
  have HX := Lib.hid (And.intro hx (And.intro hp3 (And.intro hxl hfl)))
  clear hfl hp3 hx hxl
  go_wp2_with fail
  refine came_is H3.out.2.1 HX.out.1 (by simp; omega) (fs := []) (rest := (Fr.frame l).take k) (k := false) (by rw [List.nil_append]; exact Fr.all_cut l (by unfold Fr.most; omega) k hk1) rfl ?_
  intro w4 a4 c4 F4 v4 g4 h4
  have H4 := Lib.hid h4
  clear h4
  go_wp2_with fail
  refine (left_said H4.out.rd).mono ?_
  rw [HX.out.2.2.1]
  rintro e w' ⟨rfl, rfl⟩
  go_wp2_with fail
  refine came_is H4.out.rd (BytesIn.nil w4 (fun _ => False)) (by simp; omega) (fs := []) (rest := (Fr.frame l).take k) (k := false) (by rw [List.append_nil]; exact Fr.all_cut l (by unfold Fr.most; omega) k hk1) rfl ?_
  intro w5 a5 c5 F5 v5 g5 h5
  have H5 := Lib.hid h5
  clear h5
  have hs2 := H2.out.2.2.2.size
  have hs3 : w3.heap.size = w2.heap.size + 1 := by rw [H3.out.2.2]; simp
  have hs4 := H4.out.below.size
  have hs5 := H5.out.below.size
  have hgp : gp < w2.heap.size := (Array.getElem?_eq_some_iff.1 H2.out.2.2.1).1
  have n3 : ¬ Use rb none gp := by
    rintro (h | h)
    · have := H3.out.1; omega
    · cases h
  have n4 := H4.out.notUse (b := gp) (by omega) n3
  have n5 := H5.out.notUse (b := gp) (by omega) n4
  have p5 := H5.out.bytes (H4.out.bytes HX.out.2.1 (fun b hb _ => by subst hb; exact n3)) (fun b hb _ => by subst hb; exact n4)
  have hy : BytesIn w5 (fun b => b = gp) (.slice (some ⟨gp, k, none⟩) (l.length + 4 - k) (l.length + 4 - k)) ((Fr.frame l).drop k) := by
    have := p5.cut k (l.length + 4) (l.length + 4 - k) (by omega) (by rw [HX.out.2.2.2]; exact Nat.le_refl _) (ad := ⟨gp, k, none⟩) ⟨by omega, by unfold maxLen; omega⟩ (fun _ => by rw [Nat.zero_add])
    rw [List.take_of_length_le (by rw [List.length_drop, HX.out.2.2.2]; exact Nat.le_refl _)] at this
    exact this
  have HY := Lib.hid hy
  have m2 : ∀ b, b < w.heap.size → ¬ Use rb none b := by
    rintro b hb (h | h)
    · have := H3.out.1; have := HB1.out.size; omega
    · cases h
  have hsz1 := HB1.out.size
  have m4 : ∀ b, b < w.heap.size → ¬ Use rb g4 b := fun b hb => H4.out.notUse (by omega) (m2 b hb)
  have m5 : ∀ b, b < w.heap.size → ¬ Use rb g5 b := fun b hb => H5.out.notUse (by omega) (m4 b hb)
  have b2 : Below w.heap.size w w2 := HB1.out.trans (H2.out.2.2.2.mono hsz1)
  have b3 : Below w.heap.size w w3 := by rw [H3.out.2.2]; exact b2.alloc b2.size _
  have b5 := (b3.trans (H4.out.belowAt (by omega) m2)).trans (H5.out.belowAt (by omega) m4)
  have HM := Lib.hid (And.intro b5 m5)
  clear hs2 hs3 hs4 hs5 hgp n3 n4 n5 p5 hy m2 m4 m5 b2 b3 b5 hsz1
  go_wp2_with fail
  refine came_is H5.out.rd HY.out (by rw [List.length_drop, HX.out.2.2.1, HX.out.2.2.2]; omega) (fs := [l]) (rest := []) (k := false) (by rw [List.take_append_drop]; have := Fr.all_frame l [] (by unfold Fr.most; omega); rw [List.append_nil] at this; exact this) rfl ?_
  intro w6 a6 c6 F6 v6 g6 h6
  have hb6 : Below w.heap.size w w6 := HM.out.1.trans (h6.belowAt HM.out.1.size HM.out.2)
  obtain ⟨bl, off, rfl, _, hcx⟩ := h6.frames.cells (by simp)
  obtain ⟨u0, d0, e0⟩ := hcx 0 (by simp)
  rw [Nat.add_zero] at d0
  have hv6 : BytesIn w6 (fun b => b < w.heap.size) (.slice ao l.length cap) l := HV.out.below hb6 (fun _ h => h)
  have H6 := Lib.hid (And.intro h6 (And.intro hb6 (And.intro e0 hv6)))
  clear h6 hcx e0 hb6 hv6
  go_wp2_with fail
  refine (sameBytes_eq _ _ _ _ _ l H6.out.2.2.1 H6.out.2.2.2).mono ?_
  rintro e w7 ⟨rfl, m, rfl⟩
  go_wp2_with fail
  refine (left_said (H6.out.1.rd.frame fun k _ _ => by rw [heap_drewN])).mono ?_
  rintro e w' ⟨rfl, rfl⟩
  go_wp2_with fail
  go_ret
  exact ⟨rfl, below_drewN H6.out.2.1 m⟩

theorem left_any_law (w : World) (v : Value) (l : List UInt8) (hv : BytesIn w (fun b => b < w.heap.size) v l) (a : Int) (ha : (Lit.int .u16 a).wf = true) :
    Calls Try.prog 6 #[v, .int .u16 a] w fun e w' => e = .returned (.bool true) ∧ Below w.heap.size w w' := by
  by_cases h : l.length ≤ 20000
  · exact left_all w v l hv a ha h
  · exact left_great w v l hv a (by omega)
end Go.Proofs.Ytolkphbnneoloaa
