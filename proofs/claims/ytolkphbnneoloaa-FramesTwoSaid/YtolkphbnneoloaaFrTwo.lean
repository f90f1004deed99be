/- Frames: the walk of FramesTwo. -/
import Derived.Test.YtolkphbnneoloaaFrUse
import Derived.Test.YtolkphbnneoloaaMem2
namespace Go.Proofs.Ytolkphbnneoloaa
open Go.RowKit Go.My

set_option maxRecDepth 100000 in
set_option maxHeartbeats 4000000 in
theorem two_great (w : World) (v v' : Value) (l m : List UInt8) (hv : BytesIn w (fun b => b < w.heap.size) v l) (hv' : BytesIn w (fun b => b < w.heap.size) v' m) (hl : 5000 < l.length ∨ 5000 < m.length) :
    Calls Try.prog 8 #[v, v'] w fun e w' => e = .returned (.bool true) ∧ Below w.heap.size w w' := by
  obtain ⟨ao, cap, rfl, _, hm, _, hz⟩ := hv.open_
  obtain ⟨ao', cap', rfl, _, hm', _, hz'⟩ := hv'.open_
  clear hz hz'
  have h2 : (l.length : Int) ≤ 9223372036854775807 := by unfold maxLen at hm; omega
  have h3 : (m.length : Int) ≤ 9223372036854775807 := by unfold maxLen at hm'; omega
  clear hv hm hv' hm'
  have fin : ∀ W : World, Below w.heap.size w W → ∀ W', Below W.heap.size W W' → Below w.heap.size w W' := fun W h W' h' => h.trans (h'.mono h.size)
  rcases Nat.lt_or_ge 5000 l.length with h1 | h1
  · have h1 : (5000 : Int) < l.length := by omega
    go_enter Try.func8, Try.ntmps8
    go_wp2_with fail
    refine (alive_said _).mono ?_
    rintro e w1 ⟨rfl, hb1⟩
    have HB1 := Lib.hid hb1
    clear hb1
    go_wp2_with fail
    refine (alive_said _).mono ?_
    rintro e w2 ⟨rfl, hb2⟩
    have HB2 := Lib.hid hb2
    clear hb2
    go_wp2_with fail
    go_ret
    exact ⟨rfl, fin _ HB1.out _ HB2.out⟩
  · have h4 : (l.length : Int) ≤ 5000 := by omega
    have h5 : (5000 : Int) < m.length := by omega
    go_enter Try.func8, Try.ntmps8
    go_wp2_with fail
    refine (alive_said _).mono ?_
    rintro e w1 ⟨rfl, hb1⟩
    have HB1 := Lib.hid hb1
    clear hb1
    go_wp2_with fail
    refine (alive_said _).mono ?_
    rintro e w2 ⟨rfl, hb2⟩
    have HB2 := Lib.hid hb2
    clear hb2
    go_wp2_with fail
    go_ret
    exact ⟨rfl, fin _ HB1.out _ HB2.out⟩

theorem two_src {w w6 : World} {gq k n : Nat} {m : List UInt8} (h : BytesIn w (fun b => b = gq) (.slice (some ⟨gq, 0, none⟩) k n) ((Fr.frame m).take k)) (hs : Step w.drew w6 none) (hl : (Fr.frame m).length = m.length + 4) (hk : k < m.length + 4) :
    Src w6 1 (.slice (some ⟨gq, 0, none⟩) k n) k (((Fr.frame m).take k).map byteCell) := by
  have h2 := BytesIn.src (h.frame (w' := w6) fun b _ hlt => hs.block b hlt (by simp))
  rw [List.length_take, hl, Nat.min_eq_left (by omega)] at h2
  exact h2

theorem two_all1 {l m : List UInt8} {k : Nat} (hl : l.length ≤ 5000) (hm : m.length ≤ 5000) (hk : k < m.length + 4) : Fr.all ([] ++ (Fr.frame l ++ (Fr.frame m).take k)) = ([l], (Fr.frame m).take k, false) := by
  rw [List.nil_append, Fr.all_frame l _ (by unfold Fr.most; omega), Fr.all_cut m (by unfold Fr.most; omega) k hk]

theorem two_bytes {w : World} {v : Value} {n : Nat} {g : Option Nat} {l m : List UInt8} {k : Nat} (h : Own w 5 1 v n ((Fr.frame l).map byteCell ++ ((Fr.frame m).take k).map byteCell) g) : BytesIn w (fun b => g = some b) v (Fr.frame l ++ (Fr.frame m).take k) := by
  rw [← List.map_append] at h
  exact h.row

theorem two_rd {w4 w5 w6 w7 : World} {rx : Nat} {g6 : Option Nat} {o : Obj} (hs6 : Step w5.drew w6 none) (hs7 : Step w6 w7 g6) (hg : g6 = none ∨ ∃ k, g6 = some k ∧ w5.drew.heap.size ≤ k) (hR : Rd w4 rx (.slice none 0 0) none [] false) (h5 : w5 = w4.alloc o) :
    Rd w7 rx (.slice none 0 0) none [] false := by
  subst h5
  refine (hR.alloc o).frame fun k hk hlt => (hs7.block k (Nat.lt_of_lt_of_le hlt hs6.size) (fun e => ?_)).trans (hs6.block k hlt (by simp))
  rcases hg with hg | ⟨k', hg, hge⟩
  · rw [hg] at e; cases e
  · rw [hg] at e; cases e; simp only [World.size_drew] at hge; omega

set_option maxRecDepth 100000 in
set_option maxHeartbeats 4000000 in
theorem two_all (w : World) (v v' : Value) (l m : List UInt8) (hv : BytesIn w (fun b => b < w.heap.size) v l) (hv' : BytesIn w (fun b => b < w.heap.size) v' m) (hl : l.length ≤ 5000) (hm : m.length ≤ 5000) :
    Calls Try.prog 8 #[v, v'] w fun e w' => e = .returned (.bool true) ∧ Below w.heap.size w w' := by
  obtain ⟨ao, cap, rfl, _, _, _, hz⟩ := hv.open_
  obtain ⟨ao', cap', rfl, _, _, _, hz'⟩ := hv'.open_
  clear hz hz'
  have h1 : (l.length : Int) ≤ 5000 := by omega
  have h2 : (m.length : Int) ≤ 5000 := by omega
  have HV := Lib.hid hv
  have HV' := Lib.hid hv'
  obtain ⟨k, hk⟩ : ∃ k : Nat, k = (m.length + 4) / 2 := ⟨_, rfl⟩
  have hk0 : ((m.length : Int) + 4) / 2 = (k : Int) := by omega
  have hk1 : k < m.length + 4 := by omega
  clear hv hv' hk
  go_enter Try.func8, Try.ntmps8
  go_wp2_with fail
  refine (alive_said _).mono ?_
  rintro e w1 ⟨rfl, hb1⟩
  have HB1 := Lib.hid hb1
  clear hb1
  go_wp2_with fail
  refine (put_said (HV.out.below HB1.out (fun _ h => h)) (fun b hb => Nat.lt_of_lt_of_le hb HB1.out.size) (by omega)).mono ?_
  rintro e w2 ⟨gp, rfl, hge, hbp, hhp, hb2⟩
  have H2 := Lib.hid (And.intro hge (And.intro hbp (And.intro hhp hb2)))
  have hw2 : Below w.heap.size w w2 := HB1.out.trans (hb2.mono HB1.out.size)
  have HW2 := Lib.hid hw2
  clear hge hbp hhp hb2 hw2
  go_wp2_with fail
  refine (put_said (HV'.out.below HW2.out (fun _ h => h)) (fun b hb => Nat.lt_of_lt_of_le hb HW2.out.size) (by omega)).mono ?_
  rintro e w3 ⟨gq, rfl, hgq, hbq, hhq, hb3⟩
  have H3 := Lib.hid (And.intro hgq (And.intro hbq (And.intro hhq hb3)))
  clear hgq hbq hhq hb3
  go_wp2_with fail
  refine (new_said _).mono ?_
  rintro e w4 ⟨rx, rfl, hrx, hR4, hw4⟩
  have H4 := Lib.hid (And.intro hrx (And.intro hR4 hw4))
  clear hrx hR4 hw4
  go_wp2_with fail
  refine (new_said _).mono ?_
  rintro e w5 ⟨ry, rfl, hry, hR5, hw5⟩
  have H5 := Lib.hid (And.intro hry (And.intro hR5 hw5))
  clear hry hR5 hw5
  have hp3 : BytesIn w3 (fun b => b = gp) (.slice (some ⟨gp, 0, none⟩) (l.length + 4) (l.length + 4)) (Fr.frame l) := H2.out.2.1.below H3.out.2.2.2 (fun b hb => by subst hb; exact (Array.getElem?_eq_some_iff.1 H2.out.2.2.1).1)
  have hp5 : BytesIn w5 (fun b => b = gp) (.slice (some ⟨gp, 0, none⟩) (l.length + 4) (l.length + 4)) (Fr.frame l) := by rw [H5.out.2.2, H4.out.2.2]; exact bytes_alloc (bytes_alloc hp3 _) _
  have hq5 : BytesIn w5 (fun b => b = gq) (.slice (some ⟨gq, 0, none⟩) (m.length + 4) (m.length + 4)) (Fr.frame m) := by rw [H5.out.2.2, H4.out.2.2]; exact bytes_alloc (bytes_alloc H3.out.2.1 _) _
  have hfm := Fr.length_frame m
  have hx5 : BytesIn w5 (fun b => b = gq) (.slice (some ⟨gq, 0, none⟩) k (m.length + 4)) ((Fr.frame m).take k) := by
    have := hq5.cut 0 k (m.length + 4) (Nat.zero_le _) (by omega) (ad := ⟨gq, 0, none⟩) ⟨by omega, by unfold maxLen; omega⟩ (fun _ => rfl)
    simpa using this
  have HQ := Lib.hid (And.intro hp5 (And.intro hq5 (And.intro hx5 hfm)))
  clear hp3 hp5 hq5 hx5 hfm
  go_wp2_with fail
  have hsl := slice_h (P := Try.prog) Try.underlying22 (by kernel_rfl) gq 0 (m.length + 4) (m.length + 4) k (k : Int) rfl (by omega)
  go_region_law (first
    | (refine step_append rfl (.const (.slice none 0 0)) (.tmp 54) rfl bytesElem (v := .slice none 0 0) rfl (Own.nil _ _ _) (y := .slice (some ⟨gp, 0, none⟩) (l.length + 4) (l.length + 4)) rfl (by have h := HQ.out.1.src; rw [Fr.length_frame] at h; exact h) (byteCells_one _) (by unfold maxLen; omega) (by omega) ?_; intro v6 w6 g6 ho6 hs6 hg6; rw [Nat.zero_add, List.nil_append] at ho6; obtain ⟨a6, c6, rfl⟩ := Own.form ho6; have HO6 := Lib.hid (And.intro ho6 (And.intro hs6 hg6)); clear ho6 hs6 hg6)
    | (refine step_append rfl (.tmp 55) (.tmp 58) rfl bytesElem (v := .slice a6 (l.length + 4) c6) rfl HO6.out.1 (y := .slice (some ⟨gq, 0, none⟩) k (m.length + 4)) rfl (two_src HQ.out.2.2.1 HO6.out.2.1 HQ.out.2.2.2 hk1) (byteCells_one _) (by unfold maxLen; omega) (by omega) ?_; intro v7 w7 g7 ho7 hs7 hg7; obtain ⟨a7, c7, rfl⟩ := Own.form ho7; have HO7 := Lib.hid (And.intro ho7 (And.intro hs7 hg7)); clear ho7 hs7 hg7)
    | (go_simp; go_at_call 9; refine came_is (two_rd HO6.out.2.1 HO7.out.2.1 HO6.out.2.2 H4.out.2.1 H5.out.2.2) (two_bytes HO7.out.1) (by simp [Fr.length_frame]; omega) (fs := [l]) (rest := (Fr.frame m).take k) (k := false) (two_all1 hl hm hk1) rfl ?_; intro w8 a8 c8 F8 v8 g8 h8; have H8 := Lib.hid h8; clear h8))
  clear hsl
  have z4 : w4.heap.size = w3.heap.size + 1 := by rw [H4.out.2.2]; simp
  have z5 : w5.heap.size = w4.heap.size + 1 := by rw [H5.out.2.2]; simp
  have z6 : w5.heap.size ≤ w6.heap.size := HO6.out.2.1.size
  have z7 := HO7.out.2.1.size
  have z8 := H8.out.below.size
  have erx := H4.out.1
  have ery := H5.out.1
  have hk8 : ∀ b, b < w5.heap.size → b ≠ rx → w8.heap[b]? = w5.heap[b]? := by
    intro b hb hne
    refine (H8.out.keep b (by omega) ?_).trans ((HO7.out.2.1.block b (by omega) ?_).trans (HO6.out.2.1.block b hb (by simp)))
    · rintro (h | h)
      · exact hne h
      · cases h
    · intro e
      rcases HO6.out.2.2 with hg | ⟨k', hg, hge⟩
      · rw [hg] at e; cases e
      · rw [hg] at e; cases e; simp only [World.size_drew] at hge; omega
  have hgq3 : gq < w3.heap.size := (Array.getElem?_eq_some_iff.1 H3.out.2.2.1).1
  have r8 : Rd w8 ry (.slice none 0 0) none [] false := H5.out.2.1.frame fun b hb hlt => hk8 b hlt (by rcases hb with hb | hb <;> first | omega | (cases hb))
  have q8 : BytesIn w8 (fun b => b = gq) (.slice (some ⟨gq, 0, none⟩) (m.length + 4) (m.length + 4)) (Fr.frame m) := HQ.out.2.1.frame fun b hb hlt => hk8 b hlt (by omega)
  have HK8 := Lib.hid (And.intro hk8 (And.intro r8 (And.intro q8 (And.intro hgq3 (And.intro z8 (And.intro z7 z6))))))
  have HZ := Lib.hid (And.intro z4 (And.intro z5 (And.intro erx ery)))
  clear hk8 r8 q8 hgq3 z4 z5 z6 z7 z8 erx ery
  go_wp2_with fail
  refine came_is HK8.out.2.1 HK8.out.2.2.1 (by simp [Fr.length_frame]; omega) (fs := [m]) (rest := []) (k := false) (by have := Fr.all_frame m [] (by unfold Fr.most; omega); rw [List.append_nil] at this; exact this) rfl ?_
  intro w9 a9 c9 F9 v9 g9 h9
  have H9 := Lib.hid h9
  obtain ⟨_, r8, q8, hgq3, z8, z7, z6⟩ := HK8.out
  obtain ⟨z4, z5, erx, ery⟩ := HZ.out
  have u8 : ∀ b, Use rx g8 b → b = rx ∨ w7.heap.size ≤ b := fun b hb => by
    rcases H8.out.use b hb with h | h
    · rcases h with h | h
      · exact .inl h
      · cases h
    · exact .inr h
  have nry : ∀ b, b ≠ ry → ¬ Use ry none b := fun b hb h => by
    rcases h with h | h
    · exact hb h
    · cases h
  have r9 : Rd w9 rx v8 g8 ((Fr.frame m).take k) false := H8.out.rd.frame fun b hb hlt => h9.keep b hlt (nry b (by rcases u8 b hb with h | h <;> omega))
  have q9 : BytesIn w9 (fun b => b = gq) (.slice (some ⟨gq, 0, none⟩) (m.length + 4) (m.length + 4)) (Fr.frame m) := h9.bytes q8 (fun b hb _ => nry b (by omega))
  have y9 : BytesIn w9 (fun b => b = gq) (.slice (some ⟨gq, k, none⟩) (m.length + 4 - k) (m.length + 4 - k)) ((Fr.frame m).drop k) := by
    have := q9.cut k (m.length + 4) (m.length + 4 - k) (by omega) (by rw [HQ.out.2.2.2]; exact Nat.le_refl _) (ad := ⟨gq, k, none⟩) ⟨by omega, by unfold maxLen; omega⟩ (fun _ => by rw [Nat.zero_add])
    rw [List.take_of_length_le (by rw [List.length_drop, HQ.out.2.2.2]; exact Nat.le_refl _)] at this
    exact this
  have HR9 := Lib.hid (And.intro r9 (And.intro y9 (And.intro u8 nry)))
  clear h9 r8 q8 hgq3 z8 z7 z6 z4 z5 erx ery u8 nry r9 q9 y9
  go_wp2_with fail
  refine came_is HR9.out.1 HR9.out.2.1 (by rw [List.length_drop, HQ.out.2.2.2, List.length_take, HQ.out.2.2.2]; omega) (fs := [m]) (rest := []) (k := false) (by rw [List.take_append_drop]; have := Fr.all_frame m [] (by unfold Fr.most; omega); rw [List.append_nil] at this; exact this) rfl ?_
  intro w10 a10 c10 F10 v10 g10 h10
  obtain ⟨hk8, r8, q8, hgq3, z8, z7, z6⟩ := HK8.out
  obtain ⟨z4, z5, erx, ery⟩ := HZ.out
  obtain ⟨_, _, u8, nry⟩ := HR9.out
  have z9 := H9.out.below.size
  have z10 := h10.below.size
  have lt8 : ∀ b, Use rx g8 b → b < w8.heap.size := H8.out.rd.use_lt
  have nx : ∀ b, b ≠ rx → (b < w7.heap.size ∨ w8.heap.size ≤ b) → ¬ Use rx g8 b := fun b h1 h2 hu => by
    have h3 := lt8 b hu
    rcases u8 b hu with h | h <;> omega
  have L10 : FramesIn w10 F8 (.slice a8 1 c8) [l] := h10.others (H9.out.others H8.out.frames (fun b hb _ => nry b (by have := H8.out.fresh b hb; omega))) (fun b hb _ => H8.out.apart b hb)
  have M10 : FramesIn w10 F9 (.slice a9 1 c9) [m] := h10.others H9.out.frames (fun b hb _ => nx b (by have := H9.out.fresh b hb; omega) (.inr (H9.out.fresh b hb)))
  have N10 : FramesIn w10 F10 (.slice a10 1 c10) [m] := h10.frames
  have Y10 : Rd w10 ry v9 g9 [] false := H9.out.rd.frame fun b hb hlt => h10.keep b hlt (by
    rcases H9.out.use b hb with h | h
    · rcases h with h | h
      · exact nx b (by omega) (.inl (by omega))
      · cases h
    · exact nx b (by omega) (.inr h))
  have hsw := HW2.out.size
  have hs3 := H3.out.2.2.2.size
  have b3 : Below w.heap.size w w3 := HW2.out.trans (H3.out.2.2.2.mono hsw)
  have b5 : Below w.heap.size w w5 := by rw [H5.out.2.2, H4.out.2.2]; exact (b3.alloc b3.size _).alloc (by simp; have := b3.size; omega) _
  have b8 : Below w.heap.size w w8 := b5.trans ⟨H8.out.below.os.trans (HO7.out.2.1.os.trans HO6.out.2.1.os), H8.out.below.tape.trans (HO7.out.2.1.tape.trans HO6.out.2.1.tape), H8.out.below.output.trans (HO7.out.2.1.output.trans HO6.out.2.1.output), by omega, fun b hb => hk8 b (by omega) (by omega)⟩
  have b9 := b8.trans (H9.out.belowAt (by omega) (fun b hb => nry b (by omega)))
  have b10 := b9.trans (h10.belowAt (by omega) (fun b hb => nx b (by omega) (.inl (by omega))))
  have A10 : BytesIn w10 (fun b => b < w.heap.size) (.slice ao l.length cap) l := HV.out.below b10 (fun _ h => h)
  have B10 : BytesIn w10 (fun b => b < w.heap.size) (.slice ao' m.length cap') m := HV'.out.below b10 (fun _ h => h)
  obtain ⟨bl, ol, rfl, _, hcl⟩ := L10.cells (by simp)
  obtain ⟨ul, dl, el⟩ := hcl 0 (by simp)
  obtain ⟨bm, om, rfl, _, hcm⟩ := M10.cells (by simp)
  obtain ⟨um, dm, em⟩ := hcm 0 (by simp)
  obtain ⟨bn, on, rfl, _, hcn⟩ := N10.cells (by simp)
  obtain ⟨un, dn, en⟩ := hcn 0 (by simp)
  rw [Nat.add_zero] at dl dm dn
  have HE := Lib.hid (And.intro el (And.intro em (And.intro en (And.intro A10 (And.intro B10 (And.intro Y10 (And.intro h10.rd b10)))))))
  clear hk8 r8 q8 hgq3 z8 z7 z6 z4 z5 erx ery u8 nry z9 z10 lt8 nx L10 M10 N10 Y10 hsw hs3 b3 b5 b8 b9 b10 A10 B10 hcl hcm hcn el em en h10
  go_wp2_with fail
  refine (sameBytes_eq _ _ _ _ _ l HE.out.1 HE.out.2.2.2.1).mono ?_
  rintro e w11 ⟨rfl, n1, rfl⟩
  go_wp2_with fail
  refine (sameBytes_eq _ _ _ _ _ m (bytes_drewN HE.out.2.1 _) (bytes_drewN HE.out.2.2.2.2.1 _)).mono ?_
  rintro e w12 ⟨rfl, n2, rfl⟩
  go_wp2_with fail
  refine (sameBytes_eq _ _ _ _ _ m (bytes_drewN HE.out.2.2.1 _) (bytes_drewN HE.out.2.2.2.2.1 _)).mono ?_
  rintro e w13 ⟨rfl, n3, rfl⟩
  go_wp2_with fail
  refine (left_said (HE.out.2.2.2.2.2.2.1.frame fun k _ _ => by simp only [heap_drewN])).mono ?_
  rintro e w' ⟨rfl, rfl⟩
  go_wp2_with fail
  refine (left_said (HE.out.2.2.2.2.2.1.frame fun k _ _ => by simp only [heap_drewN])).mono ?_
  rintro e w' ⟨rfl, rfl⟩
  go_wp2_with fail
  go_ret
  exact ⟨rfl, below_drewN HE.out.2.2.2.2.2.2.2 _⟩

theorem two_any (w : World) (v : Value) (l : List UInt8) (hv : BytesIn w (fun b => b < w.heap.size) v l) (v' : Value) (m : List UInt8) (hv' : BytesIn w (fun b => b < w.heap.size) v' m) :
    Calls Try.prog 8 #[v, v'] w fun e w' => e = .returned (.bool true) ∧ Below w.heap.size w w' := by
  by_cases h : l.length ≤ 5000
  · by_cases h' : m.length ≤ 5000
    · exact two_all w v v' l m hv hv' h h'
    · exact two_great w v v' l m hv hv' (.inr (by omega))
  · exact two_great w v v' l m hv hv' (.inl (by omega))
end Go.Proofs.Ytolkphbnneoloaa
