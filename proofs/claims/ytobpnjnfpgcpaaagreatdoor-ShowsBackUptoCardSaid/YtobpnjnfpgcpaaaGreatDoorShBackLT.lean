/- The statement ShowsBack: its walk. -/
import Derived.Test.YtobpnjnfpgcpaaaGreatDoorShCanonT
import Derived.Test.YtobpnjnfpgcpaaaGreatDoorNdSize2T
import Derived.Test.YtobpnjnfpgcpaaaGreatDoorNdSamePT
namespace Go.Proofs.YtobpnjnfpgcpaaaGreatDoor
open Go.RowKit Go.My Go.Nd

/-- What Text answers, in three cases. -/
theorem showP_cases (p : Pr) : (showP wrapI p = ([], 1) ∧ check wrapI p = false) ∨ (showP wrapI p = ([], 3) ∧ check wrapI p = true) ∨ (showP wrapI p = (progText p, 0) ∧ check wrapI p = true ∧ (progText p).length ≤ 65536 ∧ parse wrapI (progText p) = (p, 0, 0)) := by
  unfold showP
  cases hc : check wrapI p with
  | false => exact .inl ⟨rfl, rfl⟩
  | true =>
    by_cases hl : 65536 < (progText p).length
    · exact .inr (.inl ⟨by rw [if_pos rfl, if_pos hl], rfl⟩)
    · exact .inr (.inr ⟨by rw [if_pos rfl, if_neg hl], rfl, by omega, parse_shown hc (by omega)⟩)


set_option maxRecDepth 100000 in
set_option maxHeartbeats 8000000 in
theorem back_any (w : World) (v1 v2 : Value) (p : Pr) (h1 : FuncsIn w (fun b => b < w.heap.size) false v1 p.funcs) (h2 : Nodes w (fun b => b < w.heap.size) false v2 p.body) (hps : psz p ≤ 1048576) (a : ByteArray) (ha : a.size ≤ 1048576) :
    Calls Tryz.prog 4 #[.agg #[v1, v2], .string a] w fun e w' => e = .returned (.bool true) ∧ Below w.heap.size w w' := by
  rw [bs_of a]
  rw [bs_of a] at ha
  generalize a.data.toList = s at *
  have hs1 := bs_size s
  rw [hs1] at ha
  have hA := Below.alloc (Below.refl w.heap.size w) (Nat.le_refl _) (.cells #[v1, v2] 25)
  obtain ⟨bx, hbx⟩ : ∃ bx, bx = w.heap.size := ⟨_, rfl⟩
  obtain ⟨w0, hw0⟩ : ∃ w0, w0 = w.alloc (.cells #[v1, v2] 25) := ⟨_, rfl⟩
  have hbox : ∀ w1, Below w0.heap.size w0 w1 → w1.cell? ⟨bx, 0, none⟩ = some v1 ∧ w1.cell? ⟨bx, 1, none⟩ = some v2 := by
    intro w1 hb1
    rw [hw0] at hb1
    rw [hbx]
    have q2 := box_later hb1 0
    have q3 := box_later hb1 1
    simp at q2 q3
    exact ⟨q2, q3⟩
  rw [← hw0] at hA
  have HX := Lib.hid hbox
  have Y0 := Lib.hid hA
  have N1 := Lib.hid (h1.below hA)
  have N2 := Lib.hid (h2.below hA)
  obtain ⟨B, hBe⟩ : ∃ B, B = w.heap.size := ⟨_, rfl⟩
  rw [← hBe] at N1 N2
  have HB := Lib.hid (show B ≤ w0.heap.size from hBe ▸ hA.size)
  clear hBe
  obtain ⟨a1, c1, rfl⟩ := h1.form
  obtain ⟨a2, c2, rfl⟩ := h2.form
  have HS := Lib.hid hps
  have s0 : (s.length : Int) ≤ 1048576 := by omega
  clear hbox hA h1 h2 hps ha
  go_enter Tryz.func4, Tryz.ntmps4
  go_upto_region 1 with fail
  rw [← hbx, ← hw0]
  clear hbx hw0
  go_wp2_with fail
  refine alive10_t fun w1 hb => ?_
  have K1 := Lib.hid hb
  obtain ⟨q2, q3⟩ := HX.out w1 hb
  clear hb
  go_wp2_with fail
  refine (progSize_t (p := p) (Nat.le_trans HB.out K1.out.size) (N1.out.below (K1.out.mono HB.out)) (N2.out.below (K1.out.mono HB.out))).mono ?_
  rintro e w2 ⟨m, rfl, hb⟩
  have K2 := Lib.hid (K1.out.trans (hb.mono K1.out.size))
  clear hb q2 q3
  by_cases hm : m ≤ 3000
  · by_cases hl : s.length ≤ 3000
    · have HL := Lib.hid hl
      have hl' : (s.length : Int) ≤ 3000 := by omega
      clear s0 hl
      obtain ⟨q2, q3⟩ := HX.out w2 K2.out
      go_wp2_with fail
      refine (text_t (p := p) (Nat.le_trans HB.out K2.out.size) (N1.out.below (K2.out.mono HB.out)) (N2.out.below (K2.out.mono HB.out)) HS.out).mono ?_
      rintro e w3 ⟨rfl, hb⟩
      have K3 := Lib.hid (K2.out.trans (hb.mono K2.out.size))
      clear hb q2 q3
      obtain ⟨q2, q3⟩ := HX.out w3 K3.out
      rcases showP_cases p with ⟨hsh, hc⟩ | ⟨hsh, hc⟩ | ⟨hsh, hc, hlen, hpp⟩
      · rw [show bs (showP wrapI p).1 = ⟨#[]⟩ by rw [hsh]; rfl, show (showP wrapI p).2 = 1 by rw [hsh]]
        have HC := Lib.hid hc
        clear hsh hc
        go_wp2_with fail
        refine (check_t (p := p) (Nat.le_trans HB.out K3.out.size) (N1.out.below (K3.out.mono HB.out)) (N2.out.below (K3.out.mono HB.out))).mono ?_
        rintro e wx ⟨rfl, hb⟩
        rw [HC.out]
        have KX := Lib.hid (Y0.out.trans ((K3.out.trans (hb.mono K3.out.size)).mono Y0.out.size))
        clear hb q2 q3 HC
        -- behind what was said of the program: the text
        have hs0 : s.length ≤ 3000 := HL.out
        go_wp2_with fail
        refine (parse_t (w := wx) s).mono ?_
        rintro e w1 ⟨hb1, pv, rfl, hP⟩
        have hmay := parse_may wrapI s
        have hbk := parse_bulk wrapI s
        generalize parse wrapI s = res at *
        obtain ⟨a, pl, pe⟩ := res
        simp only at hP hmay hbk ⊢
        obtain ⟨a1, d1, a2, d2, rfl, X⟩ := PB.of (Below.refl _ wx) hb1 hP
        obtain ⟨b4, hb4⟩ : ∃ b4, b4 = w1.heap.size := ⟨_, rfl⟩
        obtain ⟨w2, hw2⟩ : ∃ w2, w2 = w1.alloc (.cells #[.slice a1 a.funcs.length d1, .slice a2 a.body.len d2] 25) := ⟨_, rfl⟩
        rw [← hw2, ← hb4] at X
        have XA := Lib.hid X
        clear hb1 hP X
        by_cases he : pe = 0
        · subst he
          have HC := Lib.hid (hmay rfl)
          have HK := Lib.hid (show psz a ≤ 1048576 by omega)
          clear hmay hbk hs0
          go_upto_region 11 with fail
          rw [← hw2, ← hb4]
          clear hw2 hb4
          obtain ⟨q0, q1⟩ := XA.out.cells
          go_wp2_with fail
          refine (text_t (p := a) (Nat.le_of_lt XA.out.lt) XA.out.funcs XA.out.nodes HK.out).mono ?_
          rintro e w3 ⟨rfl, hb3⟩
          have XB := Lib.hid (XA.out.later hb3)
          clear hb3 q0 q1 XA
          rcases showP_cases a with ⟨_, hc⟩ | ⟨hsh, _⟩ | ⟨hsh, _, hlen, hpp⟩
          · rw [HC.out.1] at hc; cases hc
          · rw [hsh]
            clear hsh
            go_wp2_with fail
            go_ret
            exact ⟨by simp; exact txT [], KX.out.trans (XB.out.below.mono KX.out.size)⟩
          · rw [hsh]
            have HPP := Lib.hid hpp
            have HSH := Lib.hid hsh
            clear hsh hpp hlen
            obtain ⟨u, hu⟩ : ∃ u, u = progText a := ⟨_, rfl⟩
            rw [← hu] at HPP HSH ⊢
            clear hu
            go_wp2_with fail
            refine (parse_t (w := w3) u).mono ?_
            rintro e w4 ⟨hb4, pv, rfl, hP⟩
            rw [HPP.out] at hP ⊢
            simp only at hP ⊢
            obtain ⟨z1, y1, z2, y2, rfl, X2⟩ := PB.of (Below.refl _ w3) hb4 hP
            obtain ⟨b5, hb5⟩ : ∃ b5, b5 = w4.heap.size := ⟨_, rfl⟩
            obtain ⟨w5, hw5⟩ : ∃ w5, w5 = w4.alloc (.cells #[.slice z1 a.funcs.length y1, .slice z2 a.body.len y2] 25) := ⟨_, rfl⟩
            rw [← hw5, ← hb5] at X2
            have XC := Lib.hid (XB.out.later X2.below)
            have XD := Lib.hid X2
            have Hbb := Lib.hid (show b4 ≤ b5 by rw [hb5]; exact Nat.le_trans (Nat.le_of_lt XB.out.lt) hb4.size)
            clear hb4 hP X2
            go_upto_region 17 with fail
            rw [← hw5, ← hb5]
            clear hw5 hb5
            obtain ⟨q0, q1⟩ := XD.out.cells
            go_wp2_with fail
            refine (text_t (p := a) (Nat.le_of_lt XD.out.lt) XD.out.funcs XD.out.nodes HK.out).mono ?_
            rintro e w6 ⟨rfl, hb6⟩
            rw [HSH.out]
            have XE := Lib.hid (XC.out.later hb6)
            have XF := Lib.hid (XD.out.later hb6)
            clear hb6 q0 q1 XC XD
            obtain ⟨q0, q1⟩ := XE.out.cells
            obtain ⟨q2, q3⟩ := XF.out.cells
            go_wp2_with fail
            refine (sameProg_t (p := a) (Nat.le_of_lt XF.out.lt) (XE.out.wide Hbb.out).1 (XE.out.wide Hbb.out).2 XF.out.funcs XF.out.nodes).mono ?_
            rintro e w7 ⟨rfl, hb7⟩
            have K7 := Lib.hid (KX.out.trans ((XE.out.below.trans (hb7.mono XE.out.below.size)).mono KX.out.size))
            clear hb7 q0 q1 q2 q3
            go_wp2_with fail
            go_ret
            exact ⟨rfl, K7.out⟩
        · have he' : ¬ (pe : Int) = 0 := by omega
          clear hmay hbk hs0 he
          go_upto_region 11 with fail
          rw [← hw2, ← hb4]
          clear hw2 hb4
          go_wp2_with fail
          go_ret
          exact ⟨rfl, KX.out.trans (XA.out.below.mono KX.out.size)⟩
      · rw [show bs (showP wrapI p).1 = ⟨#[]⟩ by rw [hsh]; rfl, show (showP wrapI p).2 = 3 by rw [hsh]]
        obtain ⟨wx, hwx⟩ : ∃ wx, wx = w3 := ⟨_, rfl⟩
        rw [← hwx]
        have KX := Lib.hid (show Below w.heap.size w wx from hwx ▸ Y0.out.trans (K3.out.mono Y0.out.size))
        clear hsh hc hwx q2 q3
        -- behind what was said of the program: the text
        have hs0 : s.length ≤ 3000 := HL.out
        go_wp2_with fail
        refine (parse_t (w := wx) s).mono ?_
        rintro e w1 ⟨hb1, pv, rfl, hP⟩
        have hmay := parse_may wrapI s
        have hbk := parse_bulk wrapI s
        generalize parse wrapI s = res at *
        obtain ⟨a, pl, pe⟩ := res
        simp only at hP hmay hbk ⊢
        obtain ⟨a1, d1, a2, d2, rfl, X⟩ := PB.of (Below.refl _ wx) hb1 hP
        obtain ⟨b4, hb4⟩ : ∃ b4, b4 = w1.heap.size := ⟨_, rfl⟩
        obtain ⟨w2, hw2⟩ : ∃ w2, w2 = w1.alloc (.cells #[.slice a1 a.funcs.length d1, .slice a2 a.body.len d2] 25) := ⟨_, rfl⟩
        rw [← hw2, ← hb4] at X
        have XA := Lib.hid X
        clear hb1 hP X
        by_cases he : pe = 0
        · subst he
          have HC := Lib.hid (hmay rfl)
          have HK := Lib.hid (show psz a ≤ 1048576 by omega)
          clear hmay hbk hs0
          go_upto_region 11 with fail
          rw [← hw2, ← hb4]
          clear hw2 hb4
          obtain ⟨q0, q1⟩ := XA.out.cells
          go_wp2_with fail
          refine (text_t (p := a) (Nat.le_of_lt XA.out.lt) XA.out.funcs XA.out.nodes HK.out).mono ?_
          rintro e w3 ⟨rfl, hb3⟩
          have XB := Lib.hid (XA.out.later hb3)
          clear hb3 q0 q1 XA
          rcases showP_cases a with ⟨_, hc⟩ | ⟨hsh, _⟩ | ⟨hsh, _, hlen, hpp⟩
          · rw [HC.out.1] at hc; cases hc
          · rw [hsh]
            clear hsh
            go_wp2_with fail
            go_ret
            exact ⟨by simp; exact txT [], KX.out.trans (XB.out.below.mono KX.out.size)⟩
          · rw [hsh]
            have HPP := Lib.hid hpp
            have HSH := Lib.hid hsh
            clear hsh hpp hlen
            obtain ⟨u, hu⟩ : ∃ u, u = progText a := ⟨_, rfl⟩
            rw [← hu] at HPP HSH ⊢
            clear hu
            go_wp2_with fail
            refine (parse_t (w := w3) u).mono ?_
            rintro e w4 ⟨hb4, pv, rfl, hP⟩
            rw [HPP.out] at hP ⊢
            simp only at hP ⊢
            obtain ⟨z1, y1, z2, y2, rfl, X2⟩ := PB.of (Below.refl _ w3) hb4 hP
            obtain ⟨b5, hb5⟩ : ∃ b5, b5 = w4.heap.size := ⟨_, rfl⟩
            obtain ⟨w5, hw5⟩ : ∃ w5, w5 = w4.alloc (.cells #[.slice z1 a.funcs.length y1, .slice z2 a.body.len y2] 25) := ⟨_, rfl⟩
            rw [← hw5, ← hb5] at X2
            have XC := Lib.hid (XB.out.later X2.below)
            have XD := Lib.hid X2
            have Hbb := Lib.hid (show b4 ≤ b5 by rw [hb5]; exact Nat.le_trans (Nat.le_of_lt XB.out.lt) hb4.size)
            clear hb4 hP X2
            go_upto_region 17 with fail
            rw [← hw5, ← hb5]
            clear hw5 hb5
            obtain ⟨q0, q1⟩ := XD.out.cells
            go_wp2_with fail
            refine (text_t (p := a) (Nat.le_of_lt XD.out.lt) XD.out.funcs XD.out.nodes HK.out).mono ?_
            rintro e w6 ⟨rfl, hb6⟩
            rw [HSH.out]
            have XE := Lib.hid (XC.out.later hb6)
            have XF := Lib.hid (XD.out.later hb6)
            clear hb6 q0 q1 XC XD
            obtain ⟨q0, q1⟩ := XE.out.cells
            obtain ⟨q2, q3⟩ := XF.out.cells
            go_wp2_with fail
            refine (sameProg_t (p := a) (Nat.le_of_lt XF.out.lt) (XE.out.wide Hbb.out).1 (XE.out.wide Hbb.out).2 XF.out.funcs XF.out.nodes).mono ?_
            rintro e w7 ⟨rfl, hb7⟩
            have K7 := Lib.hid (KX.out.trans ((XE.out.below.trans (hb7.mono XE.out.below.size)).mono KX.out.size))
            clear hb7 q0 q1 q2 q3
            go_wp2_with fail
            go_ret
            exact ⟨rfl, K7.out⟩
        · have he' : ¬ (pe : Int) = 0 := by omega
          clear hmay hbk hs0 he
          go_upto_region 11 with fail
          rw [← hw2, ← hb4]
          clear hw2 hb4
          go_wp2_with fail
          go_ret
          exact ⟨rfl, KX.out.trans (XA.out.below.mono KX.out.size)⟩
      · rw [hsh]
        have HPQ := Lib.hid hpp
        obtain ⟨st, hst⟩ : ∃ st, st = progText p := ⟨_, rfl⟩
        rw [← hst] at HPQ hlen ⊢
        have hss := bs_size st
        have hlen' : (st.length : Int) ≤ 65536 := by omega
        clear hsh hc hpp hlen hst
        go_wp2_with fail
        refine (parse_t (w := w3) st).mono ?_
        rintro e w4 ⟨hb4, pv, rfl, hP⟩
        rw [HPQ.out] at hP ⊢
        simp only at hP ⊢
        obtain ⟨z1, y1, z2, y2, rfl, X2⟩ := PB.of (Below.refl _ w3) hb4 hP
        obtain ⟨b5, hb5⟩ : ∃ b5, b5 = w4.heap.size := ⟨_, rfl⟩
        obtain ⟨w5, hw5⟩ : ∃ w5, w5 = w4.alloc (.cells #[.slice z1 p.funcs.length y1, .slice z2 p.body.len y2] 25) := ⟨_, rfl⟩
        rw [← hw5, ← hb5] at X2
        have XD := Lib.hid X2
        have K5 := Lib.hid (K3.out.trans (X2.below.mono K3.out.size))
        have Hbb := Lib.hid (show B ≤ b5 by rw [hb5]; exact Nat.le_trans HB.out (Nat.le_trans K3.out.size hb4.size))
        clear hb4 hP X2 q2 q3
        go_upto_region 6 with fail
        rw [← hw5, ← hb5]
        clear hw5 hb5
        obtain ⟨q0, q1⟩ := XD.out.cells
        obtain ⟨q2, q3⟩ := HX.out w5 K5.out
        go_wp2_with fail
        refine (sameProg_t (p := p) (Nat.le_of_lt XD.out.lt) XD.out.funcs XD.out.nodes ((N1.out.below (K5.out.mono HB.out)).mono fun _ _ q => Nat.lt_of_lt_of_le q Hbb.out) ((N2.out.below (K5.out.mono HB.out)).mono fun _ _ q => Nat.lt_of_lt_of_le q Hbb.out)).mono ?_
        rintro e wx ⟨rfl, hb7⟩
        have KX := Lib.hid (Y0.out.trans ((K5.out.trans (hb7.mono K5.out.size)).mono Y0.out.size))
        clear hb7 q0 q1 q2 q3 XD K5 HPQ Hbb
        -- behind what was said of the program: the text
        have hs0 : s.length ≤ 3000 := HL.out
        go_wp2_with fail
        refine (parse_t (w := wx) s).mono ?_
        rintro e w1 ⟨hb1, pv, rfl, hP⟩
        have hmay := parse_may wrapI s
        have hbk := parse_bulk wrapI s
        generalize parse wrapI s = res at *
        obtain ⟨a, pl, pe⟩ := res
        simp only at hP hmay hbk ⊢
        obtain ⟨a1, d1, a2, d2, rfl, X⟩ := PB.of (Below.refl _ wx) hb1 hP
        obtain ⟨b4, hb4⟩ : ∃ b4, b4 = w1.heap.size := ⟨_, rfl⟩
        obtain ⟨w2, hw2⟩ : ∃ w2, w2 = w1.alloc (.cells #[.slice a1 a.funcs.length d1, .slice a2 a.body.len d2] 25) := ⟨_, rfl⟩
        rw [← hw2, ← hb4] at X
        have XA := Lib.hid X
        clear hb1 hP X
        by_cases he : pe = 0
        · subst he
          have HC := Lib.hid (hmay rfl)
          have HK := Lib.hid (show psz a ≤ 1048576 by omega)
          clear hmay hbk hs0
          go_upto_region 11 with fail
          rw [← hw2, ← hb4]
          clear hw2 hb4
          obtain ⟨q0, q1⟩ := XA.out.cells
          go_wp2_with fail
          refine (text_t (p := a) (Nat.le_of_lt XA.out.lt) XA.out.funcs XA.out.nodes HK.out).mono ?_
          rintro e w3 ⟨rfl, hb3⟩
          have XB := Lib.hid (XA.out.later hb3)
          clear hb3 q0 q1 XA
          rcases showP_cases a with ⟨_, hc⟩ | ⟨hsh, _⟩ | ⟨hsh, _, hlen, hpp⟩
          · rw [HC.out.1] at hc; cases hc
          · rw [hsh]
            clear hsh
            go_wp2_with fail
            go_ret
            exact ⟨by simp; exact txT [], KX.out.trans (XB.out.below.mono KX.out.size)⟩
          · rw [hsh]
            have HPP := Lib.hid hpp
            have HSH := Lib.hid hsh
            clear hsh hpp hlen
            obtain ⟨u, hu⟩ : ∃ u, u = progText a := ⟨_, rfl⟩
            rw [← hu] at HPP HSH ⊢
            clear hu
            go_wp2_with fail
            refine (parse_t (w := w3) u).mono ?_
            rintro e w4 ⟨hb4, pv, rfl, hP⟩
            rw [HPP.out] at hP ⊢
            simp only at hP ⊢
            obtain ⟨z1, y1, z2, y2, rfl, X2⟩ := PB.of (Below.refl _ w3) hb4 hP
            obtain ⟨b5, hb5⟩ : ∃ b5, b5 = w4.heap.size := ⟨_, rfl⟩
            obtain ⟨w5, hw5⟩ : ∃ w5, w5 = w4.alloc (.cells #[.slice z1 a.funcs.length y1, .slice z2 a.body.len y2] 25) := ⟨_, rfl⟩
            rw [← hw5, ← hb5] at X2
            have XC := Lib.hid (XB.out.later X2.below)
            have XD := Lib.hid X2
            have Hbb := Lib.hid (show b4 ≤ b5 by rw [hb5]; exact Nat.le_trans (Nat.le_of_lt XB.out.lt) hb4.size)
            clear hb4 hP X2
            go_upto_region 17 with fail
            rw [← hw5, ← hb5]
            clear hw5 hb5
            obtain ⟨q0, q1⟩ := XD.out.cells
            go_wp2_with fail
            refine (text_t (p := a) (Nat.le_of_lt XD.out.lt) XD.out.funcs XD.out.nodes HK.out).mono ?_
            rintro e w6 ⟨rfl, hb6⟩
            rw [HSH.out]
            have XE := Lib.hid (XC.out.later hb6)
            have XF := Lib.hid (XD.out.later hb6)
            clear hb6 q0 q1 XC XD
            obtain ⟨q0, q1⟩ := XE.out.cells
            obtain ⟨q2, q3⟩ := XF.out.cells
            go_wp2_with fail
            refine (sameProg_t (p := a) (Nat.le_of_lt XF.out.lt) (XE.out.wide Hbb.out).1 (XE.out.wide Hbb.out).2 XF.out.funcs XF.out.nodes).mono ?_
            rintro e w7 ⟨rfl, hb7⟩
            have K7 := Lib.hid (KX.out.trans ((XE.out.below.trans (hb7.mono XE.out.below.size)).mono KX.out.size))
            clear hb7 q0 q1 q2 q3
            go_wp2_with fail
            go_ret
            exact ⟨rfl, K7.out⟩
        · have he' : ¬ (pe : Int) = 0 := by omega
          clear hmay hbk hs0 he
          go_upto_region 11 with fail
          rw [← hw2, ← hb4]
          clear hw2 hb4
          go_wp2_with fail
          go_ret
          exact ⟨rfl, KX.out.trans (XA.out.below.mono KX.out.size)⟩
    · have hl' : (3000 : Int) < (s.length : Int) := by omega
      clear hl
      go_wp2_with fail
      refine alive10_t fun w5 hb => ?_
      have K5 := Lib.hid (Y0.out.trans ((K2.out.trans (hb.mono K2.out.size)).mono Y0.out.size))
      clear hb
      go_wp2_with fail
      go_ret
      exact ⟨rfl, K5.out⟩
  · have hm2 : (3000 : Int) < m := by omega
    clear hm
    go_wp2_with fail
    refine alive10_t fun w5 hb => ?_
    have K5 := Lib.hid (Y0.out.trans ((K2.out.trans (hb.mono K2.out.size)).mono Y0.out.size))
    clear hb
    go_wp2_with fail
    go_ret
    exact ⟨rfl, K5.out⟩
end Go.Proofs.YtobpnjnfpgcpaaaGreatDoor
