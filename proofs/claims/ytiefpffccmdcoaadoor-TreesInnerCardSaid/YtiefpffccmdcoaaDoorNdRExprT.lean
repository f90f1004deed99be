/- Trees: may a node be an expression, as the document has it. -/
import Derived.Test.YtiefpffccmdcoaaDoorNdExpr2T
namespace Go.Proofs.YtiefpffccmdcoaaDoor
open Go.RowKit Go.My Go.Nd

def RExprAt (w0 : World) (xl : Ns) (gk : Nat) (v3 : Value) (wr : World) : Prop :=
  ∃ i : Nat, i ≤ xl.items.length ∧ gk = xl.items.length - i ∧ v3 = .int .i64 (i : Int) ∧ (xl.items.drop i).all exprOne = exprs xl ∧ Below w0.heap.size w0 wr

set_option maxRecDepth 100000 in
set_option maxHeartbeats 8000000 in
theorem rexpr_one {tw : Bool} {B : Nat} {x : Nd} (h : ∀ y ∈ x.l.items, Asked tw B 55 exprOne y) : Asked tw B 55 exprOne x := by
  intro w a1 a2 a3 c1 c2 c3 hB n1 n2 n3 hk ht
  have hA := Below.alloc (Below.refl w.heap.size w) (Nat.le_refl _) (.cells #[.int .u8 (x.kind : Int), .string (tx x.text), .slice a1 x.l.len c1, .slice a2 x.body.len c2, .slice a3 x.els.len c3] 49)
  have HC := Lib.hid h
  have Y := Lib.hid (And.intro hA (And.intro hB n1))
  obtain ⟨kd, tt, xl, xb, xe⟩ := x
  have etx : tx tt = bs tt := rfl
  simp only [etx] at *
  have hs := bs_tl tt
  have k0 : (0 : Int) ≤ (kd : Int) := by omega
  have k1 : (kd : Int) < 256 := by omega
  have l0 : (0 : Int) ≤ (xl.len : Int) := by omega
  have l1 : (xl.len : Int) ≤ 140737488351232 := by obtain ⟨_, _, _, hr, _⟩ := n1; have := hr.2.2.1; omega
  have b0 : (0 : Int) ≤ (xb.len : Int) := by omega
  have e0 : (0 : Int) ≤ (xe.len : Int) := by omega
  have HT := Lib.hid (show tt.length ≤ 9223372036854775807 by omega)
  clear h n1 n2 n3 hA hB etx ht hk
  by_cases hb : 0 < xb.len
  · have hbi : (0 : Int) < (xb.len : Int) := by omega
    have HN := Lib.hid (expr_no (kd := kd) (tt := tt) (xl := xl) (xb := xb) (xe := xe) (.inl (by omega)))
    clear hb
    go_enter Tryd.func55, Tryd.ntmps55
    go_wp2_with fail
    go_ret
    exact ⟨by rw [HN.out]; rfl, Y.out.1⟩
  have HB := Lib.hid (show xb.len = 0 by omega)
  rw [HB.out] at Y ⊢
  clear hb b0
  by_cases he : 0 < xe.len
  · have hei : (0 : Int) < (xe.len : Int) := by omega
    have HN := Lib.hid (expr_no (kd := kd) (tt := tt) (xl := xl) (xb := xb) (xe := xe) (.inr (.inl (by omega))))
    clear he
    go_enter Tryd.func55, Tryd.ntmps55
    go_wp2_with fail
    go_ret
    exact ⟨by rw [HN.out]; rfl, Y.out.1⟩
  have HE := Lib.hid (show xe.len = 0 by omega)
  rw [HE.out] at Y ⊢
  clear he e0
  obtain ⟨bx, hbx⟩ : ∃ bx, bx = w.heap.size := ⟨_, rfl⟩
  obtain ⟨w0, hw0⟩ : ∃ w0, w0 = w.alloc (.cells #[.int .u8 (kd : Int), .string (bs tt), .slice a1 xl.len c1, .slice a2 0 c2, .slice a3 0 c3] 49) := ⟨_, rfl⟩
  have hbox : ∀ w1, Below w0.heap.size w0 w1 → w1.cell? ⟨bx, 0, none⟩ = some (.int .u8 (kd : Int)) ∧ w1.cell? ⟨bx, 1, none⟩ = some (.string (bs tt)) ∧ w1.cell? ⟨bx, 2, none⟩ = some (.slice a1 xl.len c1) := by
    intro w1 hb1
    rw [hw0] at hb1
    rw [hbx]
    have q0 := box_later hb1 0
    have q1 := box_later hb1 1
    have q2 := box_later hb1 2
    simp at q0 q1 q2
    exact ⟨q0, q1, q2⟩
  have HX := Lib.hid hbox
  have Y0 := Lib.hid (show Below w.heap.size w w0 from hw0 ▸ Y.out.1)
  have HN1 := Lib.hid (Y.out.2.2.below (Y0.out.mono Y.out.2.1))
  have HB0 := Lib.hid (Nat.le_trans Y.out.2.1 Y0.out.size)
  clear hbox Y
  go_enter Tryd.func55, Tryd.ntmps55
  go_wp2_with fail
  rw [← hbx, ← hw0]
  clear hbx hw0
  go_loopg [3] xl.items.length (fun gk v3 wr => RExprAt w0 xl gk v3 wr)
  case atStart => exact ⟨0, Nat.zero_le _, rfl, rfl, by rw [List.drop_zero, exprs_items], Below.refl _ _⟩
  case round =>
    obtain ⟨i, hi, rfl, rfl, hd, hbw⟩ := hrel
    have i0 : (0 : Int) ≤ (i : Int) := by omega
    obtain ⟨q0, q1, q2⟩ := HX.out wr hbw
    have hlen : xl.items.length = xl.len := rfl
    by_cases hlt : i < xl.items.length
    · have i1 : (i : Int) < (xl.len : Int) := by rw [← hlen]; omega
      obtain ⟨a, c, ev, _, hc⟩ := (HN1.out.below (hbw.mono HB0.out)).open_
      cases ev
      obtain ⟨b, off, v1, v2, v3, rfl, hS, hN⟩ := hc i hlt
      obtain ⟨y, hy⟩ : ∃ y, y = xl.items[i] := ⟨_, rfl⟩
      rw [← hy] at hN
      have hI := HC.out _ (List.getElem_mem hlt)
      rw [← hy] at hI
      have hdr := items_cons_drop xl i hlt
      rw [← hy] at hdr
      obtain ⟨kd2, tt2, yl, yb, ye⟩ := y
      have d0 := hN.d0
      have d1 := hN.d1
      have d2 := hN.d2
      have d3 := hN.d3
      have d4 := hN.d4
      obtain ⟨b1, g1, rfl, s1, m1⟩ := hN.l
      obtain ⟨b2, g2, rfl, s2, m2⟩ := hN.body
      obtain ⟨b3, g3, rfl, s3, m3⟩ := hN.els
      simp only at d0 d1 d2 d3 d4
      have Y := Lib.hid (And.intro hbw (And.intro hd (And.intro hdr (hI wr b1 b2 b3 g1 g2 g3 (Nat.le_trans HB0.out hbw.size) ⟨b1, g1, rfl, s1, m1⟩ ⟨b2, g2, rfl, s2, m2⟩ ⟨b3, g3, rfl, s3, m3⟩ hN.kind hN.text))))
      clear hN hc s1 s2 s3 m1 m2 m3 hbw hd hy hdr hI hS
      go_wp2_with fail
      refine Y.out.2.2.2.mono ?_
      rintro e w1 ⟨rfl, hk⟩
      have K := Lib.hid (Y.out.1.trans (hk.mono Y.out.1.size))
      clear hk
      cases hp : exprOne ⟨kd2, tt2, yl, yb, ye⟩ with
      | false =>
        have hf : exprs xl = false := by rw [← Y.out.2.1, Y.out.2.2.1, List.all_cons, hp]; rfl
        have HF := Lib.hid (expr_no (kd := kd) (tt := tt) (xl := xl) (xb := xb) (xe := xe) (.inr (.inr (.inl hf))))
        clear hp hf
        go_wp2_with fail
        go_ret
        exact ⟨by rw [HF.out]; rfl, Y0.out.trans (K.out.mono Y0.out.size)⟩
      | true =>
        have HP := Lib.hid hp
        clear hp
        go_wp2_with fail
        go_roundg (xl.items.length - (i + 1))
        case measure => omega
        case rel =>
          refine ⟨i + 1, hlt, rfl, by go_num, ?_, K.out⟩
          have hd := Y.out.2.1
          rw [Y.out.2.2.1, List.all_cons, HP.out, Bool.true_and] at hd
          exact hd
    · have hie : i = xl.items.length := by omega
      have hx : exprs xl = true := by rw [← hd, hie, List.drop_length]; rfl
      have i1 : (xl.len : Int) ≤ (i : Int) := by rw [← hlen]; omega
      have HI := Lib.hid (expr_is (kd := kd) (tt := tt) HB.out HE.out hx)
      have K1 := Lib.hid (Y0.out.trans (hbw.mono Y0.out.size))
      have KB := Lib.hid (HN1.out.below (hbw.mono HB0.out))
      clear hlt hi hie hd hbw hx hlen
      by_cases e1 : kd = 1
      · subst e1
        by_cases hz : xl.len = 0
        · have HH := Lib.hid (show head 1 tt xl = Nd.plain tt by unfold head; rw [if_pos rfl, hz]; rfl)
          have hzi : (xl.len : Int) = 0 := by omega
          clear hz
          go_wp2_with fail
          refine rplain_t tt HT.out ?_
          go_wp2_with fail
          go_ret
          exact ⟨by rw [HI.out, HH.out]; rfl, K1.out⟩
        · have HH := Lib.hid (show head 1 tt xl = false by unfold head; rw [if_pos rfl]; simp [hz])
          have hzi : ((xl.len : Int) == 0) = false := by simp; omega
          clear hz
          go_wp2_with fail
          go_ret
          exact ⟨by rw [HI.out, HH.out]; rfl, K1.out⟩
      by_cases e2 : kd = 2
      · subst e2
        by_cases hz : xl.len = 0
        · have HH := Lib.hid (show head 2 tt xl = To.name tt by unfold head; rw [if_neg (by decide), if_pos rfl, hz]; rfl)
          have hzi : (xl.len : Int) = 0 := by omega
          clear hz
          go_wp2_with fail
          refine refname_t tt HT.out ?_
          go_wp2_with fail
          go_ret
          exact ⟨by rw [HI.out, HH.out]; rfl, K1.out⟩
        · have HH := Lib.hid (show head 2 tt xl = false by unfold head; rw [if_neg (by decide), if_pos rfl]; simp [hz])
          have hzi : ((xl.len : Int) == 0) = false := by simp; omega
          clear hz
          go_wp2_with fail
          go_ret
          exact ⟨by rw [HI.out, HH.out]; rfl, K1.out⟩
      by_cases e3 : kd = 3
      · subst e3
        have HH := Lib.hid (show head 3 tt xl = tt.isEmpty by unfold head; rw [if_neg (by decide), if_neg (by decide), if_pos rfl])
        go_wp2_with fail
        go_ret
        exact ⟨by rw [HI.out, HH.out]; rfl, K1.out⟩
      by_cases e4 : kd = 4
      · subst e4
        have HH := Lib.hid (show head 4 tt xl = To.name tt by unfold head; rw [if_neg (by decide), if_neg (by decide), if_neg (by decide), if_pos rfl])
        go_wp2_with fail
        refine refname_t tt HT.out ?_
        go_wp2_with fail
        go_ret
        exact ⟨by rw [HI.out, HH.out]; rfl, K1.out⟩
      by_cases e67 : kd = 6 ∨ kd = 7
      · cases hte : tt.isEmpty with
        | true =>
          have hz : ((xl.len : Int) == 1) = (xl.len == 1) := by rw [Bool.eq_iff_iff]; simp; omega
          have HH := Lib.hid (show head kd tt xl = (xl.len == 1) by unfold head; rw [if_neg (by omega), if_neg (by omega), if_neg (by omega), if_neg (by omega), if_pos e67, hte, Bool.and_true])
          have HZ := Lib.hid hz
          clear hz e1 e2 e3 e4
          rcases e67 with rfl | rfl
          all_goals
            go_wp2_with fail
            go_ret
            exact ⟨by rw [HI.out, HH.out, ← HZ.out]; rfl, K1.out⟩
        | false =>
          have HH := Lib.hid (show head kd tt xl = false by unfold head; rw [if_neg (by omega), if_neg (by omega), if_neg (by omega), if_neg (by omega), if_pos e67, hte, Bool.and_false])
          clear e1 e2 e3 e4
          rcases e67 with rfl | rfl
          all_goals
            go_wp2_with fail
            go_ret
            exact ⟨by rw [HI.out, HH.out]; rfl, K1.out⟩
      by_cases e5 : kd = 5
      · subst e5
        clear e1 e2 e3 e4 e67
        by_cases ht : tt = [94]
        · subst ht
          by_cases hz : xl.len = 2
          · have hz2 : xl.items.length = 2 := hz
            obtain ⟨a, c, ev, _, hc⟩ := KB.out.open_
            obtain ⟨b, off, v1, v2, v3, ea, _, hN⟩ := hc 1 (by omega)
            cases ev
            subst ea
            have d0 := hN.d0
            obtain ⟨k2, hk2⟩ : ∃ k2, k2 = (xl.items[1]).kind := ⟨_, rfl⟩
            rw [← hk2, Nat.one_mul] at d0
            have HH := Lib.hid (show head 5 [94] xl = (k2 == 1) by unfold head; rw [if_neg (by decide), if_neg (by decide), if_neg (by decide), if_neg (by decide), if_neg (by decide), if_pos rfl, if_pos rfl, raised_two xl hz2, hk2])
            have hzi : (xl.len : Int) = 2 := by omega
            have k2n : (0 : Int) ≤ (k2 : Int) := by omega
            have he : ((k2 : Int) == 1) = (k2 == 1) := by rw [Bool.eq_iff_iff]; simp; omega
            clear hz hz2 hc hN hk2
            go_wp2_with fail
            go_ret
            exact ⟨by rw [HI.out, HH.out]; simp, K1.out⟩
          · have HH := Lib.hid (show head 5 [94] xl = false by unfold head; rw [if_neg (by decide), if_neg (by decide), if_neg (by decide), if_neg (by decide), if_neg (by decide), if_pos rfl, if_pos rfl, raised_not xl hz])
            have hzi : ((xl.len : Int) == 2) = false := by simp; omega
            clear hz
            go_wp2_with fail
            go_ret
            exact ⟨by rw [HI.out, HH.out]; rfl, K1.out⟩
        · have hz : ((xl.len : Int) == 2) = (xl.len == 2) := by rw [Bool.eq_iff_iff]; simp; omega
          have HZ := Lib.hid hz
          have HH := Lib.hid (show head 5 tt xl = ((xl.len == 2) && Nd.signs.contains tt) by unfold head; rw [if_neg (by decide), if_neg (by decide), if_neg (by decide), if_neg (by decide), if_neg (by decide), if_pos rfl, if_neg ht])
          clear hz
          by_cases hm : tt ∈ Nd.signs
          · have HM := Lib.hid (show Nd.signs.contains tt = true by simpa using hm)
            simp only [Nd.signs, List.mem_cons, List.not_mem_nil, or_false] at hm
            clear ht
            rcases hm with rfl | rfl | rfl | rfl | rfl | rfl | rfl | rfl
            all_goals
              go_wp2_with fail
              go_ret
              exact ⟨by rw [HI.out, HH.out, HM.out, ← HZ.out, Bool.and_true]; rfl, K1.out⟩
          · have HM := Lib.hid (show Nd.signs.contains tt = false by simpa using hm)
            simp only [Nd.signs, List.mem_cons, List.not_mem_nil, or_false, not_or] at hm
            obtain ⟨m1, m2, m3, m4, m5, m6, m7, m8⟩ := hm
            have f0 : (tt == [94]) = false := by simpa using ht
            have f1 : (tt == [43]) = false := by simpa using m1
            have f2 : (tt == [45]) = false := by simpa using m2
            have f3 : (tt == [42]) = false := by simpa using m3
            have f4 : (tt == [47]) = false := by simpa using m4
            have f5 : (tt == [61, 61]) = false := by simpa using m5
            have f6 : (tt == [33, 61]) = false := by simpa using m6
            have f7 : (tt == [60]) = false := by simpa using m7
            have f8 : (tt == [60, 61]) = false := by simpa using m8
            clear m1 m2 m3 m4 m5 m6 m7 m8 ht
            go_wp2_with fail
            go_ret
            exact ⟨by rw [HI.out, HH.out, HM.out, Bool.and_false]; rfl, K1.out⟩
      · have HH := Lib.hid (head_other kd tt xl e1 e2 e3 e4 e5 (fun h => e67 (.inl h)) (fun h => e67 (.inr h)))
        have f1 : ((kd : Int) == 1) = false := by simp; omega
        have f2 : ((kd : Int) == 2) = false := by simp; omega
        have f3 : ((kd : Int) == 3) = false := by simp; omega
        have f4 : ((kd : Int) == 4) = false := by simp; omega
        have f5 : ((kd : Int) == 5) = false := by simp; omega
        have f6 : ((kd : Int) == 6) = false := by simp; omega
        have f7 : ((kd : Int) == 7) = false := by simp; omega
        clear e1 e2 e3 e4 e5 e67
        go_wp2_with fail
        go_ret
        exact ⟨by rw [HI.out, HH.out]; rfl, K1.out⟩

theorem rexpr_said (tw : Bool) (B : Nat) : ∀ xs : Ns, ∀ x ∈ xs.items, Asked tw B 55 exprOne x :=
  Ns.each fun _ ih x hx => rexpr_one (ih x hx).1
end Go.Proofs.YtiefpffccmdcoaaDoor
