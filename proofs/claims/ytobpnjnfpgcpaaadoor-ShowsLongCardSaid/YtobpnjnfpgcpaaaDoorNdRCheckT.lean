/- Trees: may a program be, as the document has it. -/
import Derived.Test.YtobpnjnfpgcpaaaDoorTrA3
import Derived.Test.YtobpnjnfpgcpaaaDoorNdLong3T
namespace Go.Proofs.YtobpnjnfpgcpaaaDoor
open Go.RowKit Go.My Go.Nd


def RGreatAt (w : World) (p : Pr) (fs : List Nd.Fn) (gk : Nat) (v3 v4 : Value) (wr : World) : Prop :=
  ∃ (i : Nat) (q : Bool), i ≤ fs.length ∧ gk = fs.length - i ∧ v3 = .bool q ∧ v4 = .int .i64 (i : Int) ∧ (q || (fs.drop i).any (fun f => Nd.great wrapI f.body)) = greatP wrapI p ∧ Below w.heap.size w wr

theorem deep_wraps (x : Ns) : 0 ≤ deep wrapI x ∧ deep wrapI x ≤ 9223372036854775807 :=
  ⟨deep_nonneg wrapI x, deep_le wrapI 9223372036854775807 (by decide) (fun x => by unfold wrapI; rw [IntKind.wrap_i64]; omega) x⟩

set_option maxRecDepth 100000 in
set_option maxHeartbeats 8000000 in
theorem rgreat_t {w : World} {B : Nat} {tw : Bool} {p : Pr} {v1 v2 : Value} (hB : B ≤ w.heap.size) (h1 : FuncsIn w (· < B) tw v1 p.funcs) (h2 : Nodes w (· < B) tw v2 p.body) :
    Calls Tryd.prog 31 #[.agg #[v1, v2]] w fun e w' => e = .returned (.bool (greatP wrapI p)) ∧ Below w.heap.size w w' := by
  have hA0 := Below.alloc (Below.refl w.heap.size w) (Nat.le_refl _) (.cells #[v1, v2] 37)
  obtain ⟨fs, hfs⟩ : ∃ fs, fs = p.funcs := ⟨_, rfl⟩
  rw [← hfs] at h1
  have HGP := Lib.hid (show greatP wrapI p = (Nd.great wrapI p.body || fs.any (fun f => Nd.great wrapI f.body)) by unfold greatP bodiesOf; rw [List.any_cons, List.any_map, hfs]; rfl)
  have H2 := Lib.hid (h2.below (hA0.mono hB))
  obtain ⟨a0, c0, rfl⟩ := h1.form
  obtain ⟨a9, c9, rfl⟩ := h2.form
  obtain ⟨_, _, ev, _, _, hr, _, hc⟩ := h1.below (hA0.mono hB)
  cases ev
  have HC := Lib.hid hc
  have l0 : (0 : Int) ≤ (fs.length : Int) := by omega
  have l1 : (fs.length : Int) ≤ 140737488351232 := by omega
  obtain ⟨bp, hbp⟩ : ∃ bp, bp = w.heap.size := ⟨_, rfl⟩
  obtain ⟨w0, hw0⟩ : ∃ w0, w0 = w.alloc (.cells #[.slice a0 fs.length c0, .slice a9 p.body.len c9] 37) := ⟨_, rfl⟩
  have hboxp : ∀ w1, Below w0.heap.size w0 w1 → w1.cell? ⟨bp, 0, none⟩ = some (.slice a0 fs.length c0) ∧ w1.cell? ⟨bp, 1, none⟩ = some (.slice a9 p.body.len c9) := by
    intro w1 hb1
    rw [hw0] at hb1
    rw [hbp]
    have q0 := box_later hb1 0
    have q1 := box_later hb1 1
    simp at q0 q1
    exact ⟨q0, q1⟩
  have HXP := Lib.hid hboxp
  rw [← hw0] at H2 HC hA0
  have Y0 := Lib.hid hA0
  have HBB := Lib.hid (Nat.le_trans hB hA0.size)
  obtain ⟨d, hd0⟩ : ∃ d, d = deep wrapI p.body := ⟨_, rfl⟩
  have hdw := deep_wraps p.body
  have HDB := Lib.hid (show Nd.great wrapI p.body = (decide (64 < d) || long p.body) by unfold Nd.great; rw [hd0])
  have HD1 := Lib.hid (rdeep_said tw p.body w0 B _ HBB.out H2.out)
  rw [← hd0] at hdw HD1
  clear hboxp hA0 hc hr h1 h2 hfs hB hd0
  go_enter Tryd.func31, Tryd.ntmps31
  go_upto_region 1 with fail
  rw [← hbp, ← hw0]
  clear hbp hw0
  obtain ⟨q0, q1⟩ := HXP.out w0 (Below.refl _ _)
  go_cut [3] (fun v3 wx => v3 = .bool (Nd.great wrapI p.body) ∧ Below w0.heap.size w0 wx)
  case first =>
    go_wp2_with fail
    refine HD1.out.mono ?_
    rintro e w1 ⟨rfl, hb⟩
    have K := Lib.hid hb
    obtain ⟨q0, q1⟩ := HXP.out w1 hb
    clear hb
    by_cases hg : 64 < d
    · have HG := Lib.hid (show Nd.great wrapI p.body = true by rw [HDB.out]; simp [hg])
      go_wp2_with fail
      go_meet
      case rel => exact ⟨by rw [HG.out], K.out⟩
    · have hg1 : d ≤ 64 := by omega
      have hg2 : decide (64 < d) = false := by simp; omega
      have HG := Lib.hid (show Nd.great wrapI p.body = long p.body by rw [HDB.out]; simp [hg])
      clear hg
      go_wp2_with fail
      refine (rlong_said tw p.body w1 B _ (Nat.le_trans HBB.out K.out.size) (H2.out.below (K.out.mono HBB.out))).mono ?_
      rintro e w2 ⟨rfl, hb⟩
      have K2 := Lib.hid (K.out.trans (hb.mono K.out.size))
      clear hb
      go_wp2_with fail
      go_meet
      case rel => exact ⟨by rw [HG.out], K2.out⟩
  case rest =>
    obtain ⟨rfl, hbc⟩ := hcut
    have KC := Lib.hid hbc
    clear hbc q0 q1 HD1 hdw
    generalize hgb : Nd.great wrapI p.body = gb at *
    clear hgb HDB
    go_wp2_with fail
    go_loopg [3, 4] fs.length (fun gk v3 v4 wr => RGreatAt w0 p fs gk v3 v4 wr)
    case atStart => exact ⟨0, gb, Nat.zero_le _, rfl, rfl, rfl, by rw [List.drop_zero, HGP.out], KC.out⟩
    case round =>
      obtain ⟨i, q, hi, rfl, rfl, rfl, hd, hb⟩ := hrel
      have i0 : (0 : Int) ≤ (i : Int) := by omega
      obtain ⟨q0, q1⟩ := HXP.out wr hb
      clear KC
      by_cases hlt : i < fs.length
      · have i1 : (i : Int) < (fs.length : Int) := by omega
        obtain ⟨b, off, v1, v2, rfl, hS, hN⟩ := HC.out i hlt
        have hN' := hN.frame hS fun k hk _ => hb.block k (Nat.lt_of_lt_of_le hk HBB.out)
        obtain ⟨f, hx⟩ : ∃ f, f = fs[i] := ⟨_, rfl⟩
        rw [← hx] at hN'
        have hdr := List.drop_eq_getElem_cons hlt
        rw [← hx] at hdr
        obtain ⟨fname, fargs, fbody⟩ := f
        have d2 := hN'.d2
        have hB1 := hN'.body
        obtain ⟨a2, c2, e2⟩ := hB1.form
        subst e2
        simp only at d2 hB1
        have hSr := Nat.lt_of_lt_of_le hS (Nat.le_trans HBB.out hb.size)
        have D2 := Lib.hid (And.intro d2 hSr)
        have N2 := Lib.hid hB1
        have HD := Lib.hid (And.intro hd hdr)
        have KB := Lib.hid hb
        have HBr := Lib.hid (Nat.le_trans HBB.out hb.size)
        clear hN hN' hS hx hB1 hd hdr hb hSr
        cases q with
        | true =>
          go_wp2_with fail
          go_roundg (fs.length - (i + 1))
          case measure => omega
          case rel => exact ⟨i + 1, true, hlt, rfl, rfl, by go_num, by rw [Bool.true_or]; have := HD.out.1; rw [Bool.true_or] at this; exact this, KB.out⟩
        | false =>
          obtain ⟨d, hd0⟩ : ∃ d, d = deep wrapI fbody := ⟨_, rfl⟩
          have hdw := deep_wraps fbody
          have HDB := Lib.hid (show Nd.great wrapI fbody = (decide (64 < d) || long fbody) by unfold Nd.great; rw [hd0])
          have HD1 := Lib.hid (rdeep_said tw fbody wr B _ HBr.out N2.out)
          rw [← hd0] at hdw HD1
          clear hd0
          go_wp2_with fail
          refine HD1.out.mono ?_
          rintro e w1 ⟨rfl, hb⟩
          have K := Lib.hid (KB.out.trans (hb.mono KB.out.size))
          have K1 := Lib.hid hb
          obtain ⟨q0, q1⟩ := HXP.out w1 K.out
          have d2 := cell_later K1.out D2.out.2 D2.out.1
          clear hb
          by_cases hg : 64 < d
          · have HG := Lib.hid (show Nd.great wrapI fbody = true by rw [HDB.out]; simp [hg])
            go_wp2_with fail
            go_roundg (fs.length - (i + 1))
            case measure => omega
            case rel =>
              refine ⟨i + 1, true, hlt, rfl, rfl, by go_num, ?_, K.out⟩
              have := HD.out.1
              rw [HD.out.2, Bool.false_or, List.any_cons, HG.out, Bool.true_or] at this
              rw [Bool.true_or]; exact this
          · have hg1 : d ≤ 64 := by omega
            have hg2 : decide (64 < d) = false := by simp; omega
            have HG := Lib.hid (show Nd.great wrapI fbody = long fbody by rw [HDB.out]; simp [hg])
            clear hg
            go_wp2_with fail
            refine (rlong_said tw fbody w1 B _ (Nat.le_trans HBr.out K1.out.size) (N2.out.below (K1.out.mono HBr.out))).mono ?_
            rintro e w2 ⟨rfl, hb⟩
            have K2 := Lib.hid (K.out.trans (hb.mono K.out.size))
            clear hb
            go_wp2_with fail
            go_roundg (fs.length - (i + 1))
            case measure => omega
            case rel =>
              refine ⟨i + 1, long fbody, hlt, rfl, rfl, by go_num, ?_, K2.out⟩
              have := HD.out.1
              rw [HD.out.2, Bool.false_or, List.any_cons, HG.out] at this
              exact this
      · have hie : i = fs.length := by omega
        have i1 : (fs.length : Int) ≤ (i : Int) := by omega
        have HQ := Lib.hid (show q = greatP wrapI p by rw [← hd, hie, List.drop_length]; simp)
        have K := Lib.hid hb
        clear hlt hie hd hb hi
        go_wp2_with fail
        go_ret
        exact ⟨by rw [← HQ.out]; rfl, Y0.out.trans (K.out.mono Y0.out.size)⟩

def RCheckArg (w : World) (fargs : List (List UInt8)) (gk : Nat) (v5 : Value) (wr : World) : Prop :=
  ∃ k : Nat, k ≤ fargs.length ∧ gk = fargs.length - k ∧ v5 = .int .i64 (k : Int) ∧ (fargs.drop k).all To.name = fargs.all To.name ∧ wr = w

set_option maxRecDepth 100000 in
set_option maxHeartbeats 8000000 in
theorem rcheck_t {w : World} {B : Nat} {tw : Bool} {p : Pr} {v1 v2 : Value} (hB : B ≤ w.heap.size) (h1 : FuncsIn w (· < B) tw v1 p.funcs) (h2 : Nodes w (· < B) tw v2 p.body) :
    Calls Tryd.prog 16 #[.agg #[v1, v2]] w fun e w' => e = .returned (.bool (check wrapI p)) ∧ Below w.heap.size w w' := by
  have hA0 := Below.alloc (Below.refl w.heap.size w) (Nat.le_refl _) (.cells #[v1, v2] 37)
  obtain ⟨fs, hfs⟩ : ∃ fs, fs = p.funcs := ⟨_, rfl⟩
  rw [← hfs] at h1
  have HF := Lib.hid hfs.symm
  have H1 := Lib.hid (h1.below (hA0.mono hB))
  have H2 := Lib.hid (h2.below (hA0.mono hB))
  obtain ⟨a0, c0, rfl⟩ := h1.form
  obtain ⟨a9, c9, rfl⟩ := h2.form
  obtain ⟨_, _, ev, _, _, hr, _, hc⟩ := h1.below (hA0.mono hB)
  cases ev
  have HC := Lib.hid hc
  have l0 : (0 : Int) ≤ (fs.length : Int) := by omega
  have l1 : (fs.length : Int) ≤ 140737488351232 := by omega
  obtain ⟨bp, hbp⟩ : ∃ bp, bp = w.heap.size := ⟨_, rfl⟩
  obtain ⟨w0, hw0⟩ : ∃ w0, w0 = w.alloc (.cells #[.slice a0 fs.length c0, .slice a9 p.body.len c9] 37) := ⟨_, rfl⟩
  have hboxp : ∀ w1, Below w0.heap.size w0 w1 → w1.cell? ⟨bp, 0, none⟩ = some (.slice a0 fs.length c0) ∧ w1.cell? ⟨bp, 1, none⟩ = some (.slice a9 p.body.len c9) := by
    intro w1 hb1
    rw [hw0] at hb1
    rw [hbp]
    have q0 := box_later hb1 0
    have q1 := box_later hb1 1
    simp at q0 q1
    exact ⟨q0, q1⟩
  have HXP := Lib.hid hboxp
  rw [← hw0] at H1 H2 HC hA0
  have Y0 := Lib.hid hA0
  have HBB := Lib.hid (Nat.le_trans hB hA0.size)
  clear hboxp hA0 hc hr h1 h2 hfs hB
  go_enter Tryd.func16, Tryd.ntmps16
  go_upto_region 1 with fail
  rw [← hbp, ← hw0]
  clear hbp hw0
  go_wp2_with fail
  go_loopg [3] fs.length (fun gk v3 wr => CheckAt w0 fs gk v3 wr)
  case atStart => exact ⟨0, Nat.zero_le _, rfl, rfl, rfl, Below.refl _ _⟩
  case round =>
    obtain ⟨i, hi, rfl, rfl, hd, hb⟩ := hrel
    have i0 : (0 : Int) ≤ (i : Int) := by omega
    obtain ⟨p0, p1⟩ := HXP.out wr hb
    by_cases hlt : i < fs.length
    · have i1 : (i : Int) < (fs.length : Int) := by omega
      obtain ⟨b, off, v1, v2, rfl, hS, hN⟩ := HC.out i hlt
      have hN' := hN.frame hS fun k hk _ => hb.block k (Nat.lt_of_lt_of_le hk HBB.out)
      obtain ⟨f, hx⟩ : ∃ f, f = fs[i] := ⟨_, rfl⟩
      rw [← hx] at hN'
      have hdr := List.drop_eq_getElem_cons hlt
      rw [← hx] at hdr
      obtain ⟨fname, fargs, fbody⟩ := f
      have d0 := hN'.d0
      have d1 := hN'.d1
      have d2 := hN'.d2
      have ht := hN'.name
      have hA1 := hN'.args
      have hB1 := hN'.body
      obtain ⟨a1, c1, e1⟩ := hA1.form
      obtain ⟨a2, c2, e2⟩ := hB1.form
      subst e1
      subst e2
      simp only at d0 d1 d2 ht hA1 hB1
      have etx : tx fname = bs fname := rfl
      rw [etx] at d0
      have hBr : B ≤ wr.heap.size := Nat.le_trans HBB.out hb.size
      have hA := Below.alloc (Below.refl wr.heap.size wr) (Nat.le_refl _) (.cells #[.string (bs fname), .slice a1 fargs.length c1, .slice a2 fbody.len c2] 47)
      obtain ⟨bx, hbx⟩ : ∃ bx, bx = wr.heap.size := ⟨_, rfl⟩
      obtain ⟨w4, hw4⟩ : ∃ w4, w4 = wr.alloc (.cells #[.string (bs fname), .slice a1 fargs.length c1, .slice a2 fbody.len c2] 47) := ⟨_, rfl⟩
      have hbox : ∀ w1, Below w4.heap.size w4 w1 → w1.cell? ⟨bx, 0, none⟩ = some (.string (bs fname)) ∧ w1.cell? ⟨bx, 1, none⟩ = some (.slice a1 fargs.length c1) ∧ w1.cell? ⟨bx, 2, none⟩ = some (.slice a2 fbody.len c2) := by
        intro w1 hb1
        rw [hw4] at hb1
        rw [hbx]
        have q0 := box_later hb1 0
        have q1 := box_later hb1 1
        have q2 := box_later hb1 2
        simp at q0 q1 q2
        exact ⟨q0, q1, q2⟩
      have hAB := hA.mono hBr
      rw [← hw4] at hA hAB
      have HX := Lib.hid hbox
      have K4 := Lib.hid (hb.trans (hA.mono hb.size))
      have N1 := Lib.hid (hA1.below hAB)
      have N2 := Lib.hid (hB1.below hAB)
      have HDR := Lib.hid hdr
      have HD := Lib.hid hd
      have HBr := Lib.hid (Nat.le_trans hBr hA.size)
      have HT := Lib.hid (show fname.length ≤ 9223372036854775807 by omega)
      clear hN hN' hA hAB hbox hb hd hx hdr hS ht etx hBr hA1 hB1
      go_upto_region 5 with fail
      rw [← hbx, ← hw4]
      clear hbx hw4 d0 d1 d2 p0 p1
      obtain ⟨q0, q1, q2⟩ := HX.out w4 (Below.refl _ _)
      go_wp2_with fail
      refine refname_t fname HT.out ?_
      cases hnm : To.name fname with
      | false =>
        have HN := Lib.hid (check_no HF.out HD.out HDR.out (by unfold fnOne; simp only; rw [hnm]; rfl))
        clear hnm
        go_wp2_with fail
        go_ret
        exact ⟨by rw [HN.out]; rfl, Y0.out.trans (K4.out.mono Y0.out.size)⟩
      | true =>
        have HNM := Lib.hid hnm
        clear hnm
        go_wp2_with fail
        refine (rstmt_said tw true fbody w4 B _ HBr.out N2.out).mono ?_
        rintro e w6 ⟨rfl, hb6⟩
        have K6 := Lib.hid hb6
        obtain ⟨q0, q1, q2⟩ := HX.out w6 K6.out
        clear hb6
        cases hst : stmts true fbody with
        | false =>
          have HN := Lib.hid (check_no HF.out HD.out HDR.out (by unfold fnOne; simp only; rw [hst, Bool.and_false]))
          clear hst
          go_wp2_with fail
          go_ret
          exact ⟨by rw [HN.out]; rfl, Y0.out.trans ((K4.out.trans (K6.out.mono K4.out.size)).mono Y0.out.size)⟩
        | true =>
          have HST := Lib.hid hst
          clear hst
          obtain ⟨_, _, ev, _, _, hr2, _, hc2⟩ := N1.out.below (K6.out.mono HBr.out)
          cases ev
          have HC2 := Lib.hid hc2
          have m0 : (0 : Int) ≤ (fargs.length : Int) := by omega
          have m1 : (fargs.length : Int) ≤ 140737488351232 := by omega
          clear hc2 hr2
          go_wp2_with fail
          have KW := Lib.hid (K4.out.trans (K6.out.mono K4.out.size))
          go_loopg [5] fargs.length (fun gk v5 wx => RCheckArg w6 fargs gk v5 wx)
          case atStart => exact ⟨0, Nat.zero_le _, rfl, rfl, rfl, rfl⟩
          case round =>
            obtain ⟨k, hk, rfl, rfl, hdk, hwk⟩ := hrel
            subst hwk
            have k0 : (0 : Int) ≤ (k : Int) := by omega
            by_cases hlk : k < fargs.length
            · have k1 : (k : Int) < (fargs.length : Int) := by omega
              obtain ⟨b3, off3, ea, _, hN3, hl3⟩ := HC2.out k hlk
              subst ea
              obtain ⟨x, hx⟩ : ∃ x, x = fargs[k] := ⟨_, rfl⟩
              rw [← hx] at hN3 hl3
              have etx : tx x = bs x := rfl
              rw [etx] at hN3
              have hdr := List.drop_eq_getElem_cons hlk
              rw [← hx] at hdr
              have HDK := Lib.hid (And.intro hdk hdr)
              have HL3 := Lib.hid (show x.length ≤ 9223372036854775807 by omega)
              clear hx hdr hdk hl3 etx
              go_wp2_with fail
              refine refname_t x HL3.out ?_
              cases hnx : To.name x with
              | false =>
                have HNA := Lib.hid (show fargs.all To.name = false by rw [← HDK.out.1, HDK.out.2, List.all_cons, hnx]; rfl)
                have HN := Lib.hid (check_no HF.out HD.out HDR.out (by unfold fnOne; simp only; rw [HNA.out, Bool.and_false]; rfl))
                clear hnx
                go_wp2_with fail
                go_ret
                exact ⟨by rw [HN.out]; rfl, Y0.out.trans (KW.out.mono Y0.out.size)⟩
              | true =>
                have HNX := Lib.hid hnx
                clear hnx
                go_wp2_with fail
                go_roundg (fargs.length - (k + 1))
                case measure => omega
                case rel =>
                  refine ⟨k + 1, hlk, rfl, by go_num, ?_, rfl⟩
                  have := HDK.out.1
                  rw [HDK.out.2, List.all_cons, HNX.out, Bool.true_and] at this
                  exact this
            · have hke : k = fargs.length := by omega
              have k1 : (fargs.length : Int) ≤ (k : Int) := by omega
              have HNA := Lib.hid (show fargs.all To.name = true by rw [← hdk, hke, List.drop_length]; rfl)
              clear hlk hke hdk hk
              go_wp2_with fail
              go_roundg (fs.length - (i + 1))
              case measure => omega
              case rel =>
                refine ⟨i + 1, hlt, rfl, by go_num, ?_, KW.out⟩
                have hd := HD.out
                rw [HDR.out, List.all_cons, show fnOne ⟨fname, fargs, fbody⟩ = true by unfold fnOne; simp only; rw [HNM.out, HNA.out, HST.out]; rfl, Bool.true_and] at hd
                exact hd
    · have hie : i = fs.length := by omega
      have i1 : (fs.length : Int) ≤ (i : Int) := by omega
      have HALL := Lib.hid (show p.funcs.all fnOne = true by rw [HF.out, ← hd, hie, List.drop_length]; rfl)
      have K := Lib.hid hb
      clear hlt hie hd hb hi
      go_wp2_with fail
      refine (rstmt_said tw false p.body wr B _ (Nat.le_trans HBB.out K.out.size) (H2.out.below (K.out.mono HBB.out))).mono ?_
      rintro e w7 ⟨rfl, hb7⟩
      have K7 := Lib.hid (K.out.trans (hb7.mono K.out.size))
      clear hb7
      obtain ⟨q0, q1⟩ := HXP.out w7 K7.out
      cases hst : stmts false p.body with
      | false =>
        have HN := Lib.hid (show check wrapI p = false by rw [check_is, hst, Bool.and_false]; rfl)
        clear hst
        go_wp2_with fail
        go_ret
        exact ⟨by rw [HN.out]; rfl, Y0.out.trans (K7.out.mono Y0.out.size)⟩
      | true =>
        have HN := Lib.hid (show check wrapI p = !greatP wrapI p by rw [check_is, hst, HALL.out]; rfl)
        have h1' := H1.out.below (K7.out.mono HBB.out)
        rw [← HF.out] at h1'
        have G := Lib.hid (rgreat_t (p := p) (Nat.le_trans HBB.out K7.out.size) h1' (H2.out.below (K7.out.mono HBB.out)))
        rw [show p.funcs.length = fs.length by rw [HF.out]] at *
        clear hst h1'
        go_wp2_with fail
        refine G.out.mono ?_
        rintro e w8 ⟨rfl, hb8⟩
        have K8 := Lib.hid (K7.out.trans (hb8.mono K7.out.size))
        clear hb8
        go_wp2_with fail
        go_ret
        exact ⟨by rw [HN.out]; rfl, Y0.out.trans (K8.out.mono Y0.out.size)⟩
end Go.Proofs.YtobpnjnfpgcpaaaDoor
