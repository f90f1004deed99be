/- Trees: may nodes be statements. -/
import Derived.Test.YtiefpffccmdcoaaDoorNdRExprT
namespace Go.My
open Go.Nd
def stmtOne (inner : Bool) (x : Nd) : Bool := x.l.len == 1 && exprs x.l && stmts inner x.body && stmts inner x.els && form inner x.kind x.text x.body x.els
theorem stmts_items (inner : Bool) (xs : Ns) : stmts inner xs = xs.items.all (stmtOne inner) := by
  induction xs with
  | nil => rfl
  | cons k t l b e r _ _ _ ihr => rw [Ns.items_cons, List.all_cons, ← ihr]; rfl
theorem exprs_single (xl : Ns) (h : xl.items.length = 1) : exprs xl = exprOne (xl.items[0]) := by
  rw [exprs_items]
  have key : ∀ (L : List Nd) (h : L.length = 1), L.all exprOne = exprOne (L[0]) := by
    intro L h
    match L, h with
    | [a], _ => simp
  exact key xl.items h
end Go.My
namespace Go.Proofs.YtiefpffccmdcoaaDoor
open Go.RowKit Go.My Go.Nd

def StmtSaid (fn : FuncId) (tw inner : Bool) (x : Ns) : Prop := ∀ (w : World) (B : Nat) (v : Value), B ≤ w.heap.size → Nodes w (· < B) tw v x → Calls Tryd.prog fn #[v, .bool inner] w fun e w' => e = .returned (.bool (stmts inner x)) ∧ Below w.heap.size w w'

def StmtAt (w : World) (inner : Bool) (xs : Ns) (gk : Nat) (v : Value) (wr : World) : Prop :=
  ∃ i : Nat, i ≤ xs.items.length ∧ gk = xs.items.length - i ∧ v = .int .i64 (i : Int) ∧ (xs.items.drop i).all (stmtOne inner) = stmts inner xs ∧ Below w.heap.size w wr

theorem stmt_no {inner : Bool} {kd : Nat} {tt : List UInt8} {xl xb xe : Ns} {r : List Nd} {p : Bool} (h : (⟨kd, tt, xl, xb, xe⟩ :: r : List Nd).all (stmtOne inner) = p) (hn : (xl.len == 1 && exprs xl && stmts inner xb && stmts inner xe && form inner kd tt xb xe) = false) : p = false := by
  rw [← h, List.all_cons]; unfold stmtOne; simp only; rw [hn]; rfl

/-- The form, once it is known whether there is a body. -/
theorem form_bare {inner : Bool} {kd : Nat} {tt : List UInt8} {xb xe : Ns} {p bare : Bool} (hp : p = form inner kd tt xb xe) (hb : bare = (xb.len == 0 && xe.len == 0)) :
    (kd = 9 → p = tt.isEmpty) ∧ (kd = 10 → p = (tt.isEmpty && xe.len == 0)) ∧ (kd = 8 → p = (bare && To.name tt)) ∧ (kd = 11 → p = (tt.isEmpty && bare && inner)) ∧ (kd = 12 ∨ kd = 13 → p = (tt.isEmpty && bare)) ∧ (kd ≠ 9 ∧ kd ≠ 10 ∧ kd ≠ 8 ∧ kd ≠ 11 ∧ kd ≠ 12 ∧ kd ≠ 13 → p = false) := by
  subst hp hb
  unfold form
  refine ⟨fun h => ?_, fun h => ?_, fun h => ?_, fun h => ?_, fun h => ?_, fun h => ?_⟩
  · rw [if_pos h]
  · rw [if_neg (by omega), if_pos h]
  · rw [if_neg (by omega), if_neg (by omega), if_pos h]
  · rw [if_neg (by omega), if_neg (by omega), if_neg (by omega), if_pos h]; simp only [Bool.and_assoc]
  · rw [if_neg (by omega), if_neg (by omega), if_neg (by omega), if_neg (by omega), if_pos h]; simp only [Bool.and_assoc]
  · rw [if_neg h.1, if_neg h.2.1, if_neg h.2.2.1, if_neg h.2.2.2.1, if_neg (by omega)]



set_option maxRecDepth 100000 in
set_option maxHeartbeats 16000000 in
theorem stmt_said (tw inner : Bool) : ∀ xs, StmtSaid 27 tw inner xs := by
  refine Ns.each fun xs ih w B v hB hv => ?_
  obtain ⟨a, c, rfl, hr, hc⟩ := hv.open_
  have HI := Lib.hid ih
  have HC := Lib.hid hc
  have HBB := Lib.hid hB
  have l0 : (0 : Int) ≤ (xs.items.length : Int) := by omega
  have l1 : (xs.items.length : Int) ≤ 140737488351232 := by have := hr.2.2.1; omega
  clear ih hv hc hr hB
  go_enter Tryd.func27, Tryd.ntmps27
  go_wp2_with fail
  go_loopg [11] xs.items.length (fun gk v11 wr => StmtAt w inner xs gk v11 wr)
  case atStart => exact ⟨0, Nat.zero_le _, rfl, rfl, by rw [List.drop_zero, stmts_items], Below.refl _ _⟩
  case round =>
    obtain ⟨i, hi, rfl, rfl, hd, hb⟩ := hrel
    have i0 : (0 : Int) ≤ (i : Int) := by omega
    by_cases hlt : i < xs.items.length
    · have i1 : (i : Int) < (xs.items.length : Int) := by omega
      obtain ⟨b, off, v1, v2, v3, rfl, hS, hN⟩ := HC.out i hlt
      have hN' := hN.frame hS fun k hk _ => hb.block k (Nat.lt_of_lt_of_le hk HBB.out)
      obtain ⟨x, hx⟩ : ∃ x, x = xs.items[i] := ⟨_, rfl⟩
      rw [← hx] at hN'
      have hI := HI.out _ (List.getElem_mem hlt)
      rw [← hx] at hI
      have hdr := items_cons_drop xs i hlt
      rw [← hx] at hdr
      obtain ⟨kd, tt, xl, xb, xe⟩ := x
      have d0 := hN'.d0
      have d1 := hN'.d1
      have d2 := hN'.d2
      have d3 := hN'.d3
      have d4 := hN'.d4
      have ht := hN'.text
      have hk8 := hN'.kind
      obtain ⟨a1, c1, rfl, s1, m1⟩ := hN'.l
      obtain ⟨a2, c2, rfl, s2, m2⟩ := hN'.body
      obtain ⟨a3, c3, rfl, s3, m3⟩ := hN'.els
      simp only at d0 d1 d2 d3 d4 ht hk8
      have etx : tx tt = bs tt := rfl
      rw [etx] at d1
      have hs := bs_tl tt
      have hBr : B ≤ wr.heap.size := Nat.le_trans HBB.out hb.size
      have n1 : Nodes wr (· < B) tw (.slice a1 xl.len c1) xl := ⟨a1, c1, rfl, s1, m1⟩
      have n2 : Nodes wr (· < B) tw (.slice a2 xb.len c2) xb := ⟨a2, c2, rfl, s2, m2⟩
      have n3 : Nodes wr (· < B) tw (.slice a3 xe.len c3) xe := ⟨a3, c3, rfl, s3, m3⟩
      have hA := Below.alloc (Below.refl wr.heap.size wr) (Nat.le_refl _) (.cells #[.int .u8 (kd : Int), .string (bs tt), .slice a1 xl.len c1, .slice a2 xb.len c2, .slice a3 xe.len c3] 49)
      obtain ⟨bx, hbx⟩ : ∃ bx, bx = wr.heap.size := ⟨_, rfl⟩
      obtain ⟨w4, hw4⟩ : ∃ w4, w4 = wr.alloc (.cells #[.int .u8 (kd : Int), .string (bs tt), .slice a1 xl.len c1, .slice a2 xb.len c2, .slice a3 xe.len c3] 49) := ⟨_, rfl⟩
      have hbox : ∀ w1, Below w4.heap.size w4 w1 → w1.cell? ⟨bx, 0, none⟩ = some (.int .u8 (kd : Int)) ∧ w1.cell? ⟨bx, 1, none⟩ = some (.string (bs tt)) ∧ w1.cell? ⟨bx, 2, none⟩ = some (.slice a1 xl.len c1) ∧ w1.cell? ⟨bx, 3, none⟩ = some (.slice a2 xb.len c2) ∧ w1.cell? ⟨bx, 4, none⟩ = some (.slice a3 xe.len c3) := by
        intro w1 hb1
        rw [hw4] at hb1
        rw [hbx]
        have q0 := box_later hb1 0
        have q1 := box_later hb1 1
        have q2 := box_later hb1 2
        have q3 := box_later hb1 3
        have q4 := box_later hb1 4
        simp at q0 q1 q2 q3 q4
        exact ⟨q0, q1, q2, q3, q4⟩
      have hAB := hA.mono hBr
      rw [← hw4] at hA hAB
      have HX := Lib.hid hbox
      have K4 := Lib.hid (hb.trans (hA.mono hb.size))
      have N1 := Lib.hid (n1.below hAB)
      have N2 := Lib.hid (n2.below hAB)
      have N3 := Lib.hid (n3.below hAB)
      have HI2 := Lib.hid hI
      have HD := Lib.hid (hdr ▸ hd)
      have HBr := Lib.hid (Nat.le_trans hBr hA.size)
      have HT := Lib.hid (show tt.length ≤ 9223372036854775807 by omega)
      have k0 : (0 : Int) ≤ (kd : Int) := by omega
      have k1 : (kd : Int) < 256 := by omega
      have l0 : (0 : Int) ≤ (xl.len : Int) := by omega
      have b0 : (0 : Int) ≤ (xb.len : Int) := by omega
      have e0 : (0 : Int) ≤ (xe.len : Int) := by omega
      clear hN hN' s1 s2 s3 m1 m2 m3 n1 n2 n3 hA hAB hbox hb hd hx hdr hI hS ht hk8 etx hBr
      go_upto_region 4 with fail
      rw [← hbx, ← hw4]
      clear hbx hw4 d0 d1 d2 d3 d4
      obtain ⟨q0, q1, q2, q3, q4⟩ := HX.out w4 (Below.refl _ _)
      by_cases hl1 : xl.len = 1
      · have hl1i : (xl.len : Int) = 1 := by omega
        have hl2 : xl.items.length = 1 := hl1
        obtain ⟨a, c, ev, _, hc⟩ := N1.out.open_
        cases ev
        obtain ⟨b2, off2, v1, v2, v3, rfl, hS, hN⟩ := hc 0 (by omega)
        obtain ⟨y, hy⟩ : ∃ y, y = xl.items[0] := ⟨_, rfl⟩
        have hE1 := exprs_single xl hl2
        rw [← hy] at hN hE1
        have hA := expr_said tw B xl _ (List.getElem_mem (show 0 < xl.items.length by omega))
        rw [← hy] at hA
        obtain ⟨kd2, tt2, yl, yb, ye⟩ := y
        have d0 := hN.d0
        have d1 := hN.d1
        have d2 := hN.d2
        have d3 := hN.d3
        have d4 := hN.d4
        obtain ⟨b1, g1, rfl, s1, m1⟩ := hN.l
        obtain ⟨b3, g2, rfl, s2, m2⟩ := hN.body
        obtain ⟨b4, g3, rfl, s3, m3⟩ := hN.els
        simp only [Nat.zero_mul, Nat.add_zero] at d0 d1 d2 d3 d4
        have HA := Lib.hid (hA w4 b1 b3 b4 g1 g2 g3 HBr.out ⟨b1, g1, rfl, s1, m1⟩ ⟨b3, g2, rfl, s2, m2⟩ ⟨b4, g3, rfl, s3, m3⟩ hN.kind hN.text)
        have HE1 := Lib.hid hE1
        have HL1 := Lib.hid (show (xl.len == 1) = true by rw [hl1]; rfl)
        clear hN s1 s2 s3 m1 m2 m3 hy hA hE1 hc hS hl1 hl2
        go_wp2_with fail
        refine HA.out.mono ?_
        rintro e w5 ⟨rfl, hb5⟩
        rw [← HE1.out]
        obtain ⟨q0, q1, q2, q3, q4⟩ := HX.out w5 hb5
        have K5 := Lib.hid hb5
        clear hb5 d0 d1 d2 d3 d4
        cases he : exprs xl with
        | false =>
          have HN := Lib.hid (stmt_no HD.out (by rw [he, Bool.and_false]; rfl))
          clear he
          go_wp2_with fail
          go_ret
          exact ⟨by rw [HN.out]; rfl, K4.out.trans (K5.out.mono K4.out.size)⟩
        | true =>
          have HE := Lib.hid he
          clear he
          go_wp2_with fail
          refine (HI2.out.2.1 w5 B _ (Nat.le_trans HBr.out K5.out.size) (N2.out.below (K5.out.mono HBr.out))).mono ?_
          rintro e w6 ⟨rfl, hb6⟩
          have K6 := Lib.hid (K5.out.trans (hb6.mono K5.out.size))
          obtain ⟨q0, q1, q2, q3, q4⟩ := HX.out w6 K6.out
          clear hb6
          cases hsb : stmts inner xb with
          | false =>
            have HN := Lib.hid (stmt_no HD.out (by rw [hsb, Bool.and_false]; rfl))
            clear hsb
            go_wp2_with fail
            go_ret
            exact ⟨by rw [HN.out]; rfl, K4.out.trans (K6.out.mono K4.out.size)⟩
          | true =>
            have HSB := Lib.hid hsb
            clear hsb
            go_wp2_with fail
            refine (HI2.out.2.2 w6 B _ (Nat.le_trans HBr.out K6.out.size) (N3.out.below (K6.out.mono HBr.out))).mono ?_
            rintro e w7 ⟨rfl, hb7⟩
            have K7 := Lib.hid (K6.out.trans (hb7.mono K6.out.size))
            obtain ⟨q0, q1, q2, q3, q4⟩ := HX.out w7 K7.out
            clear hb7
            cases hse : stmts inner xe with
            | false =>
              have HN := Lib.hid (stmt_no HD.out (by rw [hse, Bool.and_false]; rfl))
              clear hse
              go_wp2_with fail
              go_ret
              exact ⟨by rw [HN.out]; rfl, K4.out.trans (K7.out.mono K4.out.size)⟩
            | true =>
              have HSE := Lib.hid hse
              clear hse
              obtain ⟨bare, hbare⟩ : ∃ bare, bare = (xb.len == 0 && xe.len == 0) := ⟨_, rfl⟩
              have HBARE := Lib.hid hbare
              obtain ⟨p, hp⟩ : ∃ p, p = form inner kd tt xb xe := ⟨_, rfl⟩
              have HP := Lib.hid (form_bare hp hbare)
              have HALL := Lib.hid (show (xl.len == 1 && exprs xl && stmts inner xb && stmts inner xe && form inner kd tt xb xe) = p by rw [HL1.out, HE.out, HSB.out, HSE.out, hp]; rfl)
              clear hbare hp
              go_upto_region 6 with fail
              go_cut [7, 11] from 11 to 93 (fun v7 v11 wx => v7 = .bool bare ∧ v11 = .int .i64 (i : Int) ∧ wx = w7)
              case first =>
                by_cases zb : xb.len = 0
                · have zbi : (xb.len : Int) = 0 := by omega
                  by_cases ze : xe.len = 0
                  · have zei : (xe.len : Int) = 0 := by omega
                    have HB := Lib.hid (show bare = true by rw [HBARE.out, zb, ze]; rfl)
                    clear zb ze
                    go_wp2_with fail
                    go_meet
                    case rel => exact ⟨by rw [HB.out], rfl, rfl⟩
                  · have zei : ((xe.len : Int) == 0) = false := by simp; omega
                    have HB := Lib.hid (show bare = false by rw [HBARE.out]; simp [ze])
                    clear zb ze
                    go_wp2_with fail
                    go_meet
                    case rel => exact ⟨by rw [HB.out], rfl, rfl⟩
                · have zbi : ((xb.len : Int) == 0) = false := by simp; omega
                  have HB := Lib.hid (show bare = false by rw [HBARE.out]; simp [zb])
                  clear zb
                  go_wp2_with fail
                  go_meet
                  case rel => exact ⟨by rw [HB.out], rfl, rfl⟩
              case rest =>
                obtain ⟨rfl, rfl, rfl⟩ := hcut
                go_upto_block 2 with fail
                go_cut [8, 11] from 11 to 93 (fun v8 v11 wx => v8 = .bool p ∧ v11 = .int .i64 (i : Int) ∧ Below w4.heap.size w4 wx)
                case first =>
                  by_cases e9 : kd = 9
                  · subst e9
                    go_wp2_with fail
                    go_meet
                    case rel => exact ⟨by rw [HP.out.1 (by first | trivial | simp)], rfl, K7.out⟩
                  by_cases e10 : kd = 10
                  · subst e10
                    clear e9
                    cases hte : tt.isEmpty with
                    | false =>
                      have HTE := Lib.hid hte
                      go_wp2_with fail
                      go_meet
                      case rel => exact ⟨by rw [HP.out.2.1 (by first | trivial | simp), HTE.out]; rfl, rfl, K7.out⟩
                    | true =>
                      have HTE := Lib.hid hte
                      by_cases ze : xe.len = 0
                      · have zei : (xe.len : Int) = 0 := by omega
                        have HZ := Lib.hid ze
                        clear ze
                        go_wp2_with fail
                        go_meet
                        case rel => exact ⟨by rw [HP.out.2.1 (by first | trivial | simp), HTE.out, HZ.out]; rfl, rfl, K7.out⟩
                      · have zei : ((xe.len : Int) == 0) = false := by simp; omega
                        have HZ := Lib.hid (show (xe.len == 0) = false by simpa using ze)
                        clear ze
                        go_wp2_with fail
                        go_meet
                        case rel => exact ⟨by rw [HP.out.2.1 (by first | trivial | simp), HTE.out, HZ.out]; rfl, rfl, K7.out⟩
                  by_cases e8 : kd = 8
                  · subst e8
                    clear e9 e10
                    cases bare with
                    | true =>
                      go_wp2_with fail
                      refine name_t tt HT.out fun w8 hb8 => ?_
                      have K8 := Lib.hid (K7.out.trans (hb8.mono K7.out.size))
                      clear hb8
                      go_wp2_with fail
                      go_meet
                      case rel => exact ⟨by rw [HP.out.2.2.1 (by first | trivial | simp)]; rfl, rfl, K8.out⟩
                    | false =>
                      go_wp2_with fail
                      go_meet
                      case rel => exact ⟨by rw [HP.out.2.2.1 (by first | trivial | simp)]; rfl, rfl, K7.out⟩
                  by_cases e11 : kd = 11
                  · subst e11
                    clear e9 e10 e8
                    cases hte : tt.isEmpty with
                    | false =>
                      have HTE := Lib.hid hte
                      go_wp2_with fail
                      go_meet
                      case rel => exact ⟨by rw [HP.out.2.2.2.1 (by first | trivial | simp), HTE.out]; rfl, rfl, K7.out⟩
                    | true =>
                      have HTE := Lib.hid hte
                      cases bare with
                      | true =>
                        go_wp2_with fail
                        go_meet
                        case rel => exact ⟨by rw [HP.out.2.2.2.1 (by first | trivial | simp), HTE.out]; rfl, rfl, K7.out⟩
                      | false =>
                        go_wp2_with fail
                        go_meet
                        case rel => exact ⟨by rw [HP.out.2.2.2.1 (by first | trivial | simp), HTE.out]; rfl, rfl, K7.out⟩
                  by_cases e12 : kd = 12 ∨ kd = 13
                  · clear e9 e10 e8 e11
                    have HK := Lib.hid e12
                    cases hte : tt.isEmpty with
                    | false =>
                      have HTE := Lib.hid hte
                      rcases e12 with rfl | rfl
                      all_goals
                        go_wp2_with fail
                        go_meet
                        case rel => exact ⟨by rw [HP.out.2.2.2.2.1 (by first | trivial | simp | exact HK.out), HTE.out]; rfl, rfl, K7.out⟩
                    | true =>
                      have HTE := Lib.hid hte
                      cases bare with
                      | true =>
                        rcases e12 with rfl | rfl
                        all_goals
                          go_wp2_with fail
                          go_meet
                          case rel => exact ⟨by rw [HP.out.2.2.2.2.1 (by first | trivial | simp | exact HK.out), HTE.out]; rfl, rfl, K7.out⟩
                      | false =>
                        rcases e12 with rfl | rfl
                        all_goals
                          go_wp2_with fail
                          go_meet
                          case rel => exact ⟨by rw [HP.out.2.2.2.2.1 (by first | trivial | simp | exact HK.out), HTE.out]; rfl, rfl, K7.out⟩
                  · have HO := Lib.hid (HP.out.2.2.2.2.2 ⟨e9, e10, e8, e11, fun h => e12 (.inl h), fun h => e12 (.inr h)⟩)
                    have f9 : ((kd : Int) == 9) = false := by simp; omega
                    have f10 : ((kd : Int) == 10) = false := by simp; omega
                    have f8 : ((kd : Int) == 8) = false := by simp; omega
                    have f11 : ((kd : Int) == 11) = false := by simp; omega
                    have f12 : ((kd : Int) == 12) = false := by simp; omega
                    have f13 : ((kd : Int) == 13) = false := by simp; omega
                    clear e9 e10 e8 e11 e12
                    go_wp2_with fail
                    go_meet
                    case rel => exact ⟨by rw [HO.out], rfl, K7.out⟩
                case rest =>
                  obtain ⟨rfl, rfl, hbc⟩ := hcut
                  have K9 := Lib.hid (K4.out.trans (hbc.mono K4.out.size))
                  clear hbc q0 q1 q2 q3 q4 HP
                  cases p with
                  | false =>
                    have HN := Lib.hid (stmt_no HD.out HALL.out)
                    go_wp2_with fail
                    go_ret
                    exact ⟨by rw [HN.out]; rfl, K9.out⟩
                  | true =>
                    go_wp2_with fail
                    go_roundg (xs.items.length - (i + 1))
                    case measure => omega
                    case rel =>
                      refine ⟨i + 1, hlt, rfl, by go_num, ?_, K9.out⟩
                      have hd := HD.out
                      rw [List.all_cons, show stmtOne inner ⟨kd, tt, xl, xb, xe⟩ = true from HALL.out, Bool.true_and] at hd
                      exact hd
      · have hl1i : ((xl.len : Int) == 1) = false := by simp; omega
        have hl1j : ((xl.len : Int) != 1) = true := by simp; omega
        have HN := Lib.hid (stmt_no HD.out (by rw [show (xl.len == 1) = false by simpa using hl1]; rfl))
        clear hl1
        go_wp2_with fail
        go_ret
        exact ⟨by rw [HN.out]; rfl, K4.out⟩
    · have hie : i = xs.items.length := by omega
      have i1 : (xs.items.length : Int) ≤ (i : Int) := by omega
      have HD := Lib.hid (show stmts inner xs = true by rw [← hd, hie, List.drop_length]; rfl)
      have HB := Lib.hid hb
      clear hlt hie hd hb hi
      go_wp2_with fail
      go_ret
      exact ⟨by rw [HD.out]; rfl, HB.out⟩
end Go.Proofs.YtiefpffccmdcoaaDoor
