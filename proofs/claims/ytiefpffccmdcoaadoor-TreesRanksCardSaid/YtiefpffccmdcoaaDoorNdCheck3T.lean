/- Trees: may a program be: Check. -/
import Derived.Test.YtiefpffccmdcoaaDoorNdCheck2T
namespace Go.Proofs.YtiefpffccmdcoaaDoor
open Go.RowKit Go.My Go.Nd

def CheckAt (w : World) (fs : List Nd.Fn) (gk : Nat) (v8 : Value) (wr : World) : Prop :=
  ∃ i : Nat, i ≤ fs.length ∧ gk = fs.length - i ∧ v8 = .int .i64 (i : Int) ∧ (fs.drop i).all fnOne = fs.all fnOne ∧ Below w.heap.size w wr

theorem check_no {fs r : List Nd.Fn} {i : Nat} {f : Nd.Fn} {p : Pr} (hp : p.funcs = fs) (hd : (fs.drop i).all fnOne = fs.all fnOne) (hdr : fs.drop i = f :: r) (hf : fnOne f = false) : check wrapI p = false := by
  rw [check_is, hp, ← hd, hdr, List.all_cons, hf]; rfl

set_option maxRecDepth 100000 in
set_option maxHeartbeats 8000000 in
theorem check_t {w : World} {B : Nat} {tw : Bool} {p : Pr} {v1 v2 : Value} (hB : B ≤ w.heap.size) (h1 : FuncsIn w (· < B) tw v1 p.funcs) (h2 : Nodes w (· < B) tw v2 p.body) :
    Calls Tryd.prog 11 #[.agg #[v1, v2]] w fun e w' => e = .returned (.bool (check wrapI p)) ∧ Below w.heap.size w w' := by
  have hA0 := Below.alloc (Below.refl w.heap.size w) (Nat.le_refl _) (.cells #[v1, v2] 25)
  obtain ⟨fs, hfs⟩ : ∃ fs, fs = p.funcs := ⟨_, rfl⟩
  rw [← hfs] at h1
  have HF := Lib.hid hfs.symm
  have H1 := Lib.hid (h1.below (hA0.mono hB))
  have H2 := Lib.hid (h2.below (hA0.mono hB))
  obtain ⟨a0, c0, rfl⟩ := h1.form
  obtain ⟨a9, c9, rfl⟩ := h2.form
  obtain ⟨_, _, ev, _, _, hr, _, hc⟩ := h1.below (hA0.mono hB)
  cases ev
  have HC := Lib.hid hc
  have l0 : (0 : Int) ≤ (fs.length : Int) := by omega
  have l1 : (fs.length : Int) ≤ 140737488351232 := by omega
  obtain ⟨bp, hbp⟩ : ∃ bp, bp = w.heap.size := ⟨_, rfl⟩
  obtain ⟨w0, hw0⟩ : ∃ w0, w0 = w.alloc (.cells #[.slice a0 fs.length c0, .slice a9 p.body.len c9] 25) := ⟨_, rfl⟩
  have hboxp : ∀ w1, Below w0.heap.size w0 w1 → w1.cell? ⟨bp, 0, none⟩ = some (.slice a0 fs.length c0) ∧ w1.cell? ⟨bp, 1, none⟩ = some (.slice a9 p.body.len c9) := by
    intro w1 hb1
    rw [hw0] at hb1
    rw [hbp]
    have q0 := box_later hb1 0
    have q1 := box_later hb1 1
    simp at q0 q1
    exact ⟨q0, q1⟩
  have HXP := Lib.hid hboxp
  rw [← hw0] at H1 H2 HC hA0
  have Y0 := Lib.hid hA0
  have HBB := Lib.hid (Nat.le_trans hB hA0.size)
  clear hboxp hA0 hc hr h1 h2 hfs hB
  go_enter Tryd.func11, Tryd.ntmps11
  go_upto_region 1 with fail
  rw [← hbp, ← hw0]
  clear hbp hw0
  obtain ⟨q0, _⟩ := HXP.out w0 (Below.refl _ _)
  go_wp2_with fail
  go_loopg [8] fs.length (fun gk v8 wr => CheckAt w0 fs gk v8 wr)
  case atStart => exact ⟨0, Nat.zero_le _, rfl, rfl, rfl, Below.refl _ _⟩
  case round =>
    obtain ⟨i, hi, rfl, rfl, hd, hb⟩ := hrel
    have i0 : (0 : Int) ≤ (i : Int) := by omega
    clear q0
    by_cases hlt : i < fs.length
    · have i1 : (i : Int) < (fs.length : Int) := by omega
      obtain ⟨b, off, v1, v2, rfl, hS, hN⟩ := HC.out i hlt
      have hN' := hN.frame hS fun k hk _ => hb.block k (Nat.lt_of_lt_of_le hk HBB.out)
      obtain ⟨f, hx⟩ : ∃ f, f = fs[i] := ⟨_, rfl⟩
      rw [← hx] at hN'
      have hdr := List.drop_eq_getElem_cons hlt
      rw [← hx] at hdr
      obtain ⟨fname, fargs, fbody⟩ := f
      have d0 := hN'.d0
      have d1 := hN'.d1
      have d2 := hN'.d2
      have ht := hN'.name
      have hA1 := hN'.args
      have hB1 := hN'.body
      obtain ⟨a1, c1, e1⟩ := hA1.form
      obtain ⟨a2, c2, e2⟩ := hB1.form
      subst e1
      subst e2
      simp only at d0 d1 d2 ht hA1 hB1
      have etx : tx fname = bs fname := rfl
      rw [etx] at d0
      have hBr : B ≤ wr.heap.size := Nat.le_trans HBB.out hb.size
      have hA := Below.alloc (Below.refl wr.heap.size wr) (Nat.le_refl _) (.cells #[.string (bs fname), .slice a1 fargs.length c1, .slice a2 fbody.len c2] 46)
      obtain ⟨bx, hbx⟩ : ∃ bx, bx = wr.heap.size := ⟨_, rfl⟩
      obtain ⟨w4, hw4⟩ : ∃ w4, w4 = wr.alloc (.cells #[.string (bs fname), .slice a1 fargs.length c1, .slice a2 fbody.len c2] 46) := ⟨_, rfl⟩
      have hbox : ∀ w1, Below w4.heap.size w4 w1 → w1.cell? ⟨bx, 0, none⟩ = some (.string (bs fname)) ∧ w1.cell? ⟨bx, 1, none⟩ = some (.slice a1 fargs.length c1) ∧ w1.cell? ⟨bx, 2, none⟩ = some (.slice a2 fbody.len c2) := by
        intro w1 hb1
        rw [hw4] at hb1
        rw [hbx]
        have q0 := box_later hb1 0
        have q1 := box_later hb1 1
        have q2 := box_later hb1 2
        simp at q0 q1 q2
        exact ⟨q0, q1, q2⟩
      have hAB := hA.mono hBr
      rw [← hw4] at hA hAB
      have HX := Lib.hid hbox
      have K4 := Lib.hid (hb.trans (hA.mono hb.size))
      have N1 := Lib.hid (hA1.below hAB)
      have N2 := Lib.hid (hB1.below hAB)
      have HDR := Lib.hid hdr
      have HD := Lib.hid hd
      have HBr := Lib.hid (Nat.le_trans hBr hA.size)
      have HT := Lib.hid (show fname.length ≤ 9223372036854775807 by omega)
      clear hN hN' hA hAB hbox hb hd hx hdr hS ht etx hBr hA1 hB1
      go_upto_region 4 with fail
      rw [← hbx, ← hw4]
      clear hbx hw4 d0 d1 d2
      obtain ⟨q0, q1, q2⟩ := HX.out w4 (Below.refl _ _)
      go_wp2_with fail
      refine name_t fname HT.out fun w5 hb5 => ?_
      have K5 := Lib.hid hb5
      obtain ⟨q0, q1, q2⟩ := HX.out w5 K5.out
      clear hb5
      cases hnm : To.name fname with
      | false =>
        have HN := Lib.hid (check_no HF.out HD.out HDR.out (by unfold fnOne; simp only; rw [hnm]; rfl))
        clear hnm
        go_wp2_with fail
        go_ret
        exact ⟨by rw [HN.out]; rfl, Y0.out.trans ((K4.out.trans (K5.out.mono K4.out.size)).mono Y0.out.size)⟩
      | true =>
        have HNM := Lib.hid hnm
        clear hnm
        go_wp2_with fail
        refine (containsT_said (fn := 26) (p := fun x => !To.name x) (Nat.le_trans HBr.out K5.out.size) (N1.out.below (K5.out.mono HBr.out)) (fun x _ => check1_one x) (fun _ _ => by kernel_rfl)).mono ?_
        rintro e w6 ⟨rfl, hb6⟩
        rw [not_names]
        have K6 := Lib.hid (K5.out.trans (hb6.mono K5.out.size))
        obtain ⟨q0, q1, q2⟩ := HX.out w6 K6.out
        clear hb6
        cases hna : fargs.all To.name with
        | false =>
          have HN := Lib.hid (check_no HF.out HD.out HDR.out (by unfold fnOne; simp only; rw [hna, Bool.and_false]; rfl))
          clear hna
          go_wp2_with fail
          go_ret
          exact ⟨by rw [HN.out]; rfl, Y0.out.trans ((K4.out.trans (K6.out.mono K4.out.size)).mono Y0.out.size)⟩
        | true =>
          have HNA := Lib.hid hna
          clear hna
          go_wp2_with fail
          refine (stmt_said tw true fbody w6 B _ (Nat.le_trans HBr.out K6.out.size) (N2.out.below (K6.out.mono HBr.out))).mono ?_
          rintro e w7 ⟨rfl, hb7⟩
          have K7 := Lib.hid (K4.out.trans ((K6.out.trans (hb7.mono K6.out.size)).mono K4.out.size))
          clear hb7
          cases hst : stmts true fbody with
          | false =>
            have HN := Lib.hid (check_no HF.out HD.out HDR.out (by unfold fnOne; simp only; rw [hst, Bool.and_false]))
            clear hst
            go_wp2_with fail
            go_ret
            exact ⟨by rw [HN.out]; rfl, Y0.out.trans (K7.out.mono Y0.out.size)⟩
          | true =>
            have HST := Lib.hid hst
            clear hst
            go_wp2_with fail
            go_roundg (fs.length - (i + 1))
            case measure => omega
            case rel =>
              refine ⟨i + 1, hlt, rfl, by go_num, ?_, K7.out⟩
              have hd := HD.out
              rw [HDR.out, List.all_cons, show fnOne ⟨fname, fargs, fbody⟩ = true by unfold fnOne; simp only; rw [HNM.out, HNA.out, HST.out]; rfl, Bool.true_and] at hd
              exact hd
    · have hie : i = fs.length := by omega
      have i1 : (fs.length : Int) ≤ (i : Int) := by omega
      have HALL := Lib.hid (show p.funcs.all fnOne = true by rw [HF.out, ← hd, hie, List.drop_length]; rfl)
      have K := Lib.hid hb
      obtain ⟨q0, q1⟩ := HXP.out wr hb
      clear hlt hie hd hb hi
      go_wp2_with fail
      refine (stmt_said tw false p.body wr B _ (Nat.le_trans HBB.out K.out.size) (H2.out.below (K.out.mono HBB.out))).mono ?_
      rintro e w7 ⟨rfl, hb7⟩
      have K7 := Lib.hid (K.out.trans (hb7.mono K.out.size))
      clear hb7
      obtain ⟨q0, q1⟩ := HXP.out w7 K7.out
      cases hst : stmts false p.body with
      | false =>
        have HN := Lib.hid (show check wrapI p = false by rw [check_is, hst, Bool.and_false]; rfl)
        clear hst
        go_wp2_with fail
        go_ret
        exact ⟨by rw [HN.out]; rfl, Y0.out.trans (K7.out.mono Y0.out.size)⟩
      | true =>
        have HN := Lib.hid (show check wrapI p = !greatP wrapI p by rw [check_is, hst, HALL.out]; rfl)
        have h1' := H1.out.below (K7.out.mono HBB.out)
        rw [← HF.out] at h1'
        have G := Lib.hid (great_t (p := p) (Nat.le_trans HBB.out K7.out.size) h1' (H2.out.below (K7.out.mono HBB.out)))
        rw [show p.funcs.length = fs.length by rw [HF.out]] at *
        clear hst h1'
        go_wp2_with fail
        refine G.out.mono ?_
        rintro e w8 ⟨rfl, hb8⟩
        have K8 := Lib.hid (K7.out.trans (hb8.mono K7.out.size))
        clear hb8
        go_wp2_with fail
        go_ret
        exact ⟨by rw [HN.out]; rfl, Y0.out.trans (K8.out.mono Y0.out.size)⟩
end Go.Proofs.YtiefpffccmdcoaaDoor
