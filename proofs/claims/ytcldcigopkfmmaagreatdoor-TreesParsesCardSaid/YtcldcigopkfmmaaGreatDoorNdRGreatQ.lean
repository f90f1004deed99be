/- Trees: is a program too much, as the document has it. -/
import Derived.Test.YtcldcigopkfmmaaGreatDoorTrD3
import Derived.Test.YtcldcigopkfmmaaGreatDoorTrD4
namespace Go.Proofs.YtcldcigopkfmmaaGreatDoor
open Go.RowKit Go.My Go.Nd


def RGreatAt (w : World) (p : Pr) (fs : List Nd.Fn) (gk : Nat) (v3 v4 : Value) (wr : World) : Prop :=
  ∃ (i : Nat) (q : Bool), i ≤ fs.length ∧ gk = fs.length - i ∧ v3 = .bool q ∧ v4 = .int .i64 (i : Int) ∧ (q || (fs.drop i).any (fun f => Nd.great wrapI f.body)) = greatP wrapI p ∧ Below w.heap.size w wr

theorem deep_wraps (x : Ns) : 0 ≤ deep wrapI x ∧ deep wrapI x ≤ 9223372036854775807 :=
  ⟨deep_nonneg wrapI x, deep_le wrapI 9223372036854775807 (by decide) (fun x => by unfold wrapI; rw [IntKind.wrap_i64]; omega) x⟩

set_option maxRecDepth 100000 in
set_option maxHeartbeats 8000000 in
theorem rgreat_t {w : World} {B : Nat} {tw : Bool} {p : Pr} {v1 v2 : Value} (hB : B ≤ w.heap.size) (h1 : FuncsIn w (· < B) tw v1 p.funcs) (h2 : Nodes w (· < B) tw v2 p.body) :
    Calls Tryz.prog 61 #[.agg #[v1, v2]] w fun e w' => e = .returned (.bool (greatP wrapI p)) ∧ Below w.heap.size w w' := by
  have hA0 := Below.alloc (Below.refl w.heap.size w) (Nat.le_refl _) (.cells #[v1, v2] 47)
  obtain ⟨fs, hfs⟩ : ∃ fs, fs = p.funcs := ⟨_, rfl⟩
  rw [← hfs] at h1
  have HGP := Lib.hid (show greatP wrapI p = (Nd.great wrapI p.body || fs.any (fun f => Nd.great wrapI f.body)) by unfold greatP bodiesOf; rw [List.any_cons, List.any_map, hfs]; rfl)
  have H2 := Lib.hid (h2.below (hA0.mono hB))
  obtain ⟨a0, c0, rfl⟩ := h1.form
  obtain ⟨a9, c9, rfl⟩ := h2.form
  obtain ⟨_, _, ev, _, _, hr, _, hc⟩ := h1.below (hA0.mono hB)
  cases ev
  have HC := Lib.hid hc
  have l0 : (0 : Int) ≤ (fs.length : Int) := by omega
  have l1 : (fs.length : Int) ≤ 140737488351232 := by omega
  obtain ⟨bp, hbp⟩ : ∃ bp, bp = w.heap.size := ⟨_, rfl⟩
  obtain ⟨w0, hw0⟩ : ∃ w0, w0 = w.alloc (.cells #[.slice a0 fs.length c0, .slice a9 p.body.len c9] 47) := ⟨_, rfl⟩
  have hboxp : ∀ w1, Below w0.heap.size w0 w1 → w1.cell? ⟨bp, 0, none⟩ = some (.slice a0 fs.length c0) ∧ w1.cell? ⟨bp, 1, none⟩ = some (.slice a9 p.body.len c9) := by
    intro w1 hb1
    rw [hw0] at hb1
    rw [hbp]
    have q0 := box_later hb1 0
    have q1 := box_later hb1 1
    simp at q0 q1
    exact ⟨q0, q1⟩
  have HXP := Lib.hid hboxp
  rw [← hw0] at H2 HC hA0
  have Y0 := Lib.hid hA0
  have HBB := Lib.hid (Nat.le_trans hB hA0.size)
  obtain ⟨d, hd0⟩ : ∃ d, d = deep wrapI p.body := ⟨_, rfl⟩
  have hdw := deep_wraps p.body
  have HDB := Lib.hid (show Nd.great wrapI p.body = (decide (64 < d) || long p.body) by unfold Nd.great; rw [hd0])
  have HD1 := Lib.hid (rdeep_said tw p.body w0 B _ HBB.out H2.out)
  rw [← hd0] at hdw HD1
  clear hboxp hA0 hc hr h1 h2 hfs hB hd0
  go_enter Tryz.func61, Tryz.ntmps61
  go_upto_region 1 with fail
  rw [← hbp, ← hw0]
  clear hbp hw0
  obtain ⟨q0, q1⟩ := HXP.out w0 (Below.refl _ _)
  go_cut [3] (fun v3 wx => v3 = .bool (Nd.great wrapI p.body) ∧ Below w0.heap.size w0 wx)
  case first =>
    go_wp2_with fail
    refine HD1.out.mono ?_
    rintro e w1 ⟨rfl, hb⟩
    have K := Lib.hid hb
    obtain ⟨q0, q1⟩ := HXP.out w1 hb
    clear hb
    by_cases hg : 64 < d
    · have HG := Lib.hid (show Nd.great wrapI p.body = true by rw [HDB.out]; simp [hg])
      go_wp2_with fail
      go_meet
      case rel => exact ⟨by rw [HG.out], K.out⟩
    · have hg1 : d ≤ 64 := by omega
      have hg2 : decide (64 < d) = false := by simp; omega
      have HG := Lib.hid (show Nd.great wrapI p.body = long p.body by rw [HDB.out]; simp [hg])
      clear hg
      go_wp2_with fail
      refine (rlong_said tw p.body w1 B _ (Nat.le_trans HBB.out K.out.size) (H2.out.below (K.out.mono HBB.out))).mono ?_
      rintro e w2 ⟨rfl, hb⟩
      have K2 := Lib.hid (K.out.trans (hb.mono K.out.size))
      clear hb
      go_wp2_with fail
      go_meet
      case rel => exact ⟨by rw [HG.out], K2.out⟩
  case rest =>
    obtain ⟨rfl, hbc⟩ := hcut
    have KC := Lib.hid hbc
    clear hbc q0 q1 HD1 hdw
    generalize hgb : Nd.great wrapI p.body = gb at *
    clear hgb HDB
    go_wp2_with fail
    go_loopg [3, 4] fs.length (fun gk v3 v4 wr => RGreatAt w0 p fs gk v3 v4 wr)
    case atStart => exact ⟨0, gb, Nat.zero_le _, rfl, rfl, rfl, by rw [List.drop_zero, HGP.out], KC.out⟩
    case round =>
      obtain ⟨i, q, hi, rfl, rfl, rfl, hd, hb⟩ := hrel
      have i0 : (0 : Int) ≤ (i : Int) := by omega
      obtain ⟨q0, q1⟩ := HXP.out wr hb
      clear KC
      by_cases hlt : i < fs.length
      · have i1 : (i : Int) < (fs.length : Int) := by omega
        obtain ⟨b, off, v1, v2, rfl, hS, hN⟩ := HC.out i hlt
        have hN' := hN.frame hS fun k hk _ => hb.block k (Nat.lt_of_lt_of_le hk HBB.out)
        obtain ⟨f, hx⟩ : ∃ f, f = fs[i] := ⟨_, rfl⟩
        rw [← hx] at hN'
        have hdr := List.drop_eq_getElem_cons hlt
        rw [← hx] at hdr
        obtain ⟨fname, fargs, fbody⟩ := f
        have d2 := hN'.d2
        have hB1 := hN'.body
        obtain ⟨a2, c2, e2⟩ := hB1.form
        subst e2
        simp only at d2 hB1
        have hSr := Nat.lt_of_lt_of_le hS (Nat.le_trans HBB.out hb.size)
        have D2 := Lib.hid (And.intro d2 hSr)
        have N2 := Lib.hid hB1
        have HD := Lib.hid (And.intro hd hdr)
        have KB := Lib.hid hb
        have HBr := Lib.hid (Nat.le_trans HBB.out hb.size)
        clear hN hN' hS hx hB1 hd hdr hb hSr
        cases q with
        | true =>
          go_wp2_with fail
          go_roundg (fs.length - (i + 1))
          case measure => omega
          case rel => exact ⟨i + 1, true, hlt, rfl, rfl, by go_num, by rw [Bool.true_or]; have := HD.out.1; rw [Bool.true_or] at this; exact this, KB.out⟩
        | false =>
          obtain ⟨d, hd0⟩ : ∃ d, d = deep wrapI fbody := ⟨_, rfl⟩
          have hdw := deep_wraps fbody
          have HDB := Lib.hid (show Nd.great wrapI fbody = (decide (64 < d) || long fbody) by unfold Nd.great; rw [hd0])
          have HD1 := Lib.hid (rdeep_said tw fbody wr B _ HBr.out N2.out)
          rw [← hd0] at hdw HD1
          clear hd0
          go_wp2_with fail
          refine HD1.out.mono ?_
          rintro e w1 ⟨rfl, hb⟩
          have K := Lib.hid (KB.out.trans (hb.mono KB.out.size))
          have K1 := Lib.hid hb
          obtain ⟨q0, q1⟩ := HXP.out w1 K.out
          have d2 := cell_later K1.out D2.out.2 D2.out.1
          clear hb
          by_cases hg : 64 < d
          · have HG := Lib.hid (show Nd.great wrapI fbody = true by rw [HDB.out]; simp [hg])
            go_wp2_with fail
            go_roundg (fs.length - (i + 1))
            case measure => omega
            case rel =>
              refine ⟨i + 1, true, hlt, rfl, rfl, by go_num, ?_, K.out⟩
              have := HD.out.1
              rw [HD.out.2, Bool.false_or, List.any_cons, HG.out, Bool.true_or] at this
              rw [Bool.true_or]; exact this
          · have hg1 : d ≤ 64 := by omega
            have hg2 : decide (64 < d) = false := by simp; omega
            have HG := Lib.hid (show Nd.great wrapI fbody = long fbody by rw [HDB.out]; simp [hg])
            clear hg
            go_wp2_with fail
            refine (rlong_said tw fbody w1 B _ (Nat.le_trans HBr.out K1.out.size) (N2.out.below (K1.out.mono HBr.out))).mono ?_
            rintro e w2 ⟨rfl, hb⟩
            have K2 := Lib.hid (K.out.trans (hb.mono K.out.size))
            clear hb
            go_wp2_with fail
            go_roundg (fs.length - (i + 1))
            case measure => omega
            case rel =>
              refine ⟨i + 1, long fbody, hlt, rfl, rfl, by go_num, ?_, K2.out⟩
              have := HD.out.1
              rw [HD.out.2, Bool.false_or, List.any_cons, HG.out] at this
              exact this
      · have hie : i = fs.length := by omega
        have i1 : (fs.length : Int) ≤ (i : Int) := by omega
        have HQ := Lib.hid (show q = greatP wrapI p by rw [← hd, hie, List.drop_length]; simp)
        have K := Lib.hid hb
        clear hlt hie hd hb hi
        go_wp2_with fail
        go_ret
        exact ⟨by rw [← HQ.out]; rfl, Y0.out.trans (K.out.mono Y0.out.size)⟩

end Go.Proofs.YtcldcigopkfmmaaGreatDoor
