/- Texts put together: NdCheck3, NdLong3, NdRCheck, NdSize, NdSize2, NdTwin, BkMem, NdTwinM, NdTwin2, NdTwin3, NdFl, NdTwin4, NdTwin5, NdTwin6, NdLeft, NdLeft2, NdLeft3, Args, Args2, NdArgs, NdPArgs, NdTypes, NdBulk, MapIs. -/
import Derived.Test.YtmkhfonafcikdaaGreatDoorTrA2
import Derived.Deep.MidRow
import Derived.Deep.RegionHeld3
import Derived.Laws.MakeOwn
import Derived.SizedLaws
import Derived.Lib.SmallJoins
import Derived.Test.YtmkhfonafcikdaaGreatDoorRows
import Derived.Test.YtmkhfonafcikdaaGreatDoorTrA1
import Derived.Maps.Own
import Derived.Maps.OwnOps
import Derived.Maps.OwnSet
import Derived.Maps.Views

/- Trees: may a program be: Check. -/
namespace Go.Proofs.YtmkhfonafcikdaaGreatDoor
open Go.RowKit Go.My Go.Nd

def CheckAt (w : World) (fs : List Nd.Fn) (gk : Nat) (v8 : Value) (wr : World) : Prop :=
  ∃ i : Nat, i ≤ fs.length ∧ gk = fs.length - i ∧ v8 = .int .i64 (i : Int) ∧ (fs.drop i).all fnOne = fs.all fnOne ∧ Below w.heap.size w wr

theorem check_no {fs r : List Nd.Fn} {i : Nat} {f : Nd.Fn} {p : Pr} (hp : p.funcs = fs) (hd : (fs.drop i).all fnOne = fs.all fnOne) (hdr : fs.drop i = f :: r) (hf : fnOne f = false) : check wrapI p = false := by
  rw [check_is, hp, ← hd, hdr, List.all_cons, hf]; rfl

set_option maxRecDepth 100000 in
set_option maxHeartbeats 8000000 in
theorem check_t {w : World} {B : Nat} {tw : Bool} {p : Pr} {v1 v2 : Value} (hB : B ≤ w.heap.size) (h1 : FuncsIn w (· < B) tw v1 p.funcs) (h2 : Nodes w (· < B) tw v2 p.body) :
    Calls Tryz.prog 24 #[.agg #[v1, v2]] w fun e w' => e = .returned (.bool (check wrapI p)) ∧ Below w.heap.size w w' := by
  have hA0 := Below.alloc (Below.refl w.heap.size w) (Nat.le_refl _) (.cells #[v1, v2] 25)
  obtain ⟨fs, hfs⟩ : ∃ fs, fs = p.funcs := ⟨_, rfl⟩
  rw [← hfs] at h1
  have HF := Lib.hid hfs.symm
  have H1 := Lib.hid (h1.below (hA0.mono hB))
  have H2 := Lib.hid (h2.below (hA0.mono hB))
  obtain ⟨a0, c0, rfl⟩ := h1.form
  obtain ⟨a9, c9, rfl⟩ := h2.form
  obtain ⟨_, _, ev, _, _, hr, _, hc⟩ := h1.below (hA0.mono hB)
  cases ev
  have HC := Lib.hid hc
  have l0 : (0 : Int) ≤ (fs.length : Int) := by omega
  have l1 : (fs.length : Int) ≤ 140737488351232 := by omega
  obtain ⟨bp, hbp⟩ : ∃ bp, bp = w.heap.size := ⟨_, rfl⟩
  obtain ⟨w0, hw0⟩ : ∃ w0, w0 = w.alloc (.cells #[.slice a0 fs.length c0, .slice a9 p.body.len c9] 25) := ⟨_, rfl⟩
  have hboxp : ∀ w1, Below w0.heap.size w0 w1 → w1.cell? ⟨bp, 0, none⟩ = some (.slice a0 fs.length c0) ∧ w1.cell? ⟨bp, 1, none⟩ = some (.slice a9 p.body.len c9) := by
    intro w1 hb1
    rw [hw0] at hb1
    rw [hbp]
    have q0 := box_later hb1 0
    have q1 := box_later hb1 1
    simp at q0 q1
    exact ⟨q0, q1⟩
  have HXP := Lib.hid hboxp
  rw [← hw0] at H1 H2 HC hA0
  have Y0 := Lib.hid hA0
  have HBB := Lib.hid (Nat.le_trans hB hA0.size)
  clear hboxp hA0 hc hr h1 h2 hfs hB
  go_enter Tryz.func24, Tryz.ntmps24
  go_upto_region 1 with fail
  rw [← hbp, ← hw0]
  clear hbp hw0
  obtain ⟨q0, _⟩ := HXP.out w0 (Below.refl _ _)
  go_wp2_with fail
  go_loopg [8] fs.length (fun gk v8 wr => CheckAt w0 fs gk v8 wr)
  case atStart => exact ⟨0, Nat.zero_le _, rfl, rfl, rfl, Below.refl _ _⟩
  case round =>
    obtain ⟨i, hi, rfl, rfl, hd, hb⟩ := hrel
    have i0 : (0 : Int) ≤ (i : Int) := by omega
    clear q0
    by_cases hlt : i < fs.length
    · have i1 : (i : Int) < (fs.length : Int) := by omega
      obtain ⟨b, off, v1, v2, rfl, hS, hN⟩ := HC.out i hlt
      have hN' := hN.frame hS fun k hk _ => hb.block k (Nat.lt_of_lt_of_le hk HBB.out)
      obtain ⟨f, hx⟩ : ∃ f, f = fs[i] := ⟨_, rfl⟩
      rw [← hx] at hN'
      have hdr := List.drop_eq_getElem_cons hlt
      rw [← hx] at hdr
      obtain ⟨fname, fargs, fbody⟩ := f
      have d0 := hN'.d0
      have d1 := hN'.d1
      have d2 := hN'.d2
      have ht := hN'.name
      have hA1 := hN'.args
      have hB1 := hN'.body
      obtain ⟨a1, c1, e1⟩ := hA1.form
      obtain ⟨a2, c2, e2⟩ := hB1.form
      subst e1
      subst e2
      simp only at d0 d1 d2 ht hA1 hB1
      have etx : tx fname = bs fname := rfl
      rw [etx] at d0
      have hBr : B ≤ wr.heap.size := Nat.le_trans HBB.out hb.size
      have hA := Below.alloc (Below.refl wr.heap.size wr) (Nat.le_refl _) (.cells #[.string (bs fname), .slice a1 fargs.length c1, .slice a2 fbody.len c2] 57)
      obtain ⟨bx, hbx⟩ : ∃ bx, bx = wr.heap.size := ⟨_, rfl⟩
      obtain ⟨w4, hw4⟩ : ∃ w4, w4 = wr.alloc (.cells #[.string (bs fname), .slice a1 fargs.length c1, .slice a2 fbody.len c2] 57) := ⟨_, rfl⟩
      have hbox : ∀ w1, Below w4.heap.size w4 w1 → w1.cell? ⟨bx, 0, none⟩ = some (.string (bs fname)) ∧ w1.cell? ⟨bx, 1, none⟩ = some (.slice a1 fargs.length c1) ∧ w1.cell? ⟨bx, 2, none⟩ = some (.slice a2 fbody.len c2) := by
        intro w1 hb1
        rw [hw4] at hb1
        rw [hbx]
        have q0 := box_later hb1 0
        have q1 := box_later hb1 1
        have q2 := box_later hb1 2
        simp at q0 q1 q2
        exact ⟨q0, q1, q2⟩
      have hAB := hA.mono hBr
      rw [← hw4] at hA hAB
      have HX := Lib.hid hbox
      have K4 := Lib.hid (hb.trans (hA.mono hb.size))
      have N1 := Lib.hid (hA1.below hAB)
      have N2 := Lib.hid (hB1.below hAB)
      have HDR := Lib.hid hdr
      have HD := Lib.hid hd
      have HBr := Lib.hid (Nat.le_trans hBr hA.size)
      have HT := Lib.hid (show fname.length ≤ 9223372036854775807 by omega)
      clear hN hN' hA hAB hbox hb hd hx hdr hS ht etx hBr hA1 hB1
      go_upto_region 4 with fail
      rw [← hbx, ← hw4]
      clear hbx hw4 d0 d1 d2
      obtain ⟨q0, q1, q2⟩ := HX.out w4 (Below.refl _ _)
      go_wp2_with fail
      refine name_t fname HT.out fun w5 hb5 => ?_
      have K5 := Lib.hid hb5
      obtain ⟨q0, q1, q2⟩ := HX.out w5 K5.out
      clear hb5
      cases hnm : To.name fname with
      | false =>
        have HN := Lib.hid (check_no HF.out HD.out HDR.out (by unfold fnOne; simp only; rw [hnm]; rfl))
        clear hnm
        go_wp2_with fail
        go_ret
        exact ⟨by rw [HN.out]; rfl, Y0.out.trans ((K4.out.trans (K5.out.mono K4.out.size)).mono Y0.out.size)⟩
      | true =>
        have HNM := Lib.hid hnm
        clear hnm
        go_wp2_with fail
        refine (containsT_said (fn := 91) (p := fun x => !To.name x) (Nat.le_trans HBr.out K5.out.size) (N1.out.below (K5.out.mono HBr.out)) (fun x _ => check1_one x) (fun _ _ => by kernel_rfl)).mono ?_
        rintro e w6 ⟨rfl, hb6⟩
        rw [not_names]
        have K6 := Lib.hid (K5.out.trans (hb6.mono K5.out.size))
        obtain ⟨q0, q1, q2⟩ := HX.out w6 K6.out
        clear hb6
        cases hna : fargs.all To.name with
        | false =>
          have HN := Lib.hid (check_no HF.out HD.out HDR.out (by unfold fnOne; simp only; rw [hna, Bool.and_false]; rfl))
          clear hna
          go_wp2_with fail
          go_ret
          exact ⟨by rw [HN.out]; rfl, Y0.out.trans ((K4.out.trans (K6.out.mono K4.out.size)).mono Y0.out.size)⟩
        | true =>
          have HNA := Lib.hid hna
          clear hna
          go_wp2_with fail
          refine (stmt_said tw true fbody w6 B _ (Nat.le_trans HBr.out K6.out.size) (N2.out.below (K6.out.mono HBr.out))).mono ?_
          rintro e w7 ⟨rfl, hb7⟩
          have K7 := Lib.hid (K4.out.trans ((K6.out.trans (hb7.mono K6.out.size)).mono K4.out.size))
          clear hb7
          cases hst : stmts true fbody with
          | false =>
            have HN := Lib.hid (check_no HF.out HD.out HDR.out (by unfold fnOne; simp only; rw [hst, Bool.and_false]))
            clear hst
            go_wp2_with fail
            go_ret
            exact ⟨by rw [HN.out]; rfl, Y0.out.trans (K7.out.mono Y0.out.size)⟩
          | true =>
            have HST := Lib.hid hst
            clear hst
            go_wp2_with fail
            go_roundg (fs.length - (i + 1))
            case measure => omega
            case rel =>
              refine ⟨i + 1, hlt, rfl, by go_num, ?_, K7.out⟩
              have hd := HD.out
              rw [HDR.out, List.all_cons, show fnOne ⟨fname, fargs, fbody⟩ = true by unfold fnOne; simp only; rw [HNM.out, HNA.out, HST.out]; rfl, Bool.true_and] at hd
              exact hd
    · have hie : i = fs.length := by omega
      have i1 : (fs.length : Int) ≤ (i : Int) := by omega
      have HALL := Lib.hid (show p.funcs.all fnOne = true by rw [HF.out, ← hd, hie, List.drop_length]; rfl)
      have K := Lib.hid hb
      obtain ⟨q0, q1⟩ := HXP.out wr hb
      clear hlt hie hd hb hi
      go_wp2_with fail
      refine (stmt_said tw false p.body wr B _ (Nat.le_trans HBB.out K.out.size) (H2.out.below (K.out.mono HBB.out))).mono ?_
      rintro e w7 ⟨rfl, hb7⟩
      have K7 := Lib.hid (K.out.trans (hb7.mono K.out.size))
      clear hb7
      obtain ⟨q0, q1⟩ := HXP.out w7 K7.out
      cases hst : stmts false p.body with
      | false =>
        have HN := Lib.hid (show check wrapI p = false by rw [check_is, hst, Bool.and_false]; rfl)
        clear hst
        go_wp2_with fail
        go_ret
        exact ⟨by rw [HN.out]; rfl, Y0.out.trans (K7.out.mono Y0.out.size)⟩
      | true =>
        have HN := Lib.hid (show check wrapI p = !greatP wrapI p by rw [check_is, hst, HALL.out]; rfl)
        have h1' := H1.out.below (K7.out.mono HBB.out)
        rw [← HF.out] at h1'
        have G := Lib.hid (great_t (p := p) (Nat.le_trans HBB.out K7.out.size) h1' (H2.out.below (K7.out.mono HBB.out)))
        rw [show p.funcs.length = fs.length by rw [HF.out]] at *
        clear hst h1'
        go_wp2_with fail
        refine G.out.mono ?_
        rintro e w8 ⟨rfl, hb8⟩
        have K8 := Lib.hid (K7.out.trans (hb8.mono K7.out.size))
        clear hb8
        go_wp2_with fail
        go_ret
        exact ⟨by rw [HN.out]; rfl, Y0.out.trans (K8.out.mono Y0.out.size)⟩
end Go.Proofs.YtmkhfonafcikdaaGreatDoor

/- Trees: is a number too long, as the document has it. -/
namespace Go.Proofs.YtmkhfonafcikdaaGreatDoor
open Go.RowKit Go.My Go.Nd

def RLongSaid (tw : Bool) (x : Ns) : Prop := ∀ (w : World) (B : Nat) (v : Value), B ≤ w.heap.size → Nodes w (· < B) tw v x → Calls Tryz.prog 153 #[v] w fun e w' => e = .returned (.bool (long x)) ∧ Below w.heap.size w w'

theorem cell_later {w w1 : World} {n b o : Nat} {u : Value} (hb : Below n w w1) (hlt : b < n) (h : w.cell? ⟨b, o, none⟩ = some u) : w1.cell? ⟨b, o, none⟩ = some u := (World.cell?_of_block (hb.block b hlt)).trans h

def LongAt (w : World) (xs : Ns) (gk : Nat) (v3 : Value) (wr : World) : Prop :=
  ∃ i : Nat, i ≤ xs.items.length ∧ gk = xs.items.length - i ∧ v3 = .int .i64 (i : Int) ∧ (xs.items.drop i).any longOne = xs.items.any longOne ∧ Below w.heap.size w wr

set_option maxRecDepth 100000 in
set_option maxHeartbeats 8000000 in
theorem rlong_said (tw : Bool) : ∀ xs, RLongSaid tw xs := by
  refine Ns.each fun xs ih w B v hB hv => ?_
  obtain ⟨a, c, rfl, hr, hc⟩ := hv.open_
  have HI := Lib.hid ih
  have HC := Lib.hid hc
  have l0 : (0 : Int) ≤ (xs.items.length : Int) := by omega
  have l1 : (xs.items.length : Int) ≤ 140737488351232 := by have := hr.2.2.1; omega
  clear ih hv hc hr
  go_enter Tryz.func153, Tryz.ntmps153
  go_wp2_with fail
  go_loopg [3] xs.items.length (fun gk v3 wr => LongAt w xs gk v3 wr)
  case atStart => exact ⟨0, Nat.zero_le _, rfl, rfl, rfl, Below.refl _ _⟩
  case round =>
    obtain ⟨i, hi, rfl, rfl, hd, hb⟩ := hrel
    have i0 : (0 : Int) ≤ (i : Int) := by omega
    by_cases hlt : i < xs.items.length
    · have i1 : (i : Int) < (xs.items.length : Int) := by omega
      obtain ⟨b, off, v1, v2, v3, rfl, hS, hN⟩ := HC.out i hlt
      have hN' := hN.frame hS fun k hk _ => hb.block k (Nat.lt_of_lt_of_le hk hB)
      obtain ⟨x, hx⟩ : ∃ x, x = xs.items[i] := ⟨_, rfl⟩
      rw [← hx] at hN'
      have hI := HI.out _ (List.getElem_mem hlt)
      rw [← hx] at hI
      have hdr := items_cons_drop xs i hlt
      rw [← hx] at hdr
      obtain ⟨kd, tt, xl, xb, xe⟩ := x
      have d0 := hN'.d0
      have d1 := hN'.d1
      have d2 := hN'.d2
      have d3 := hN'.d3
      have d4 := hN'.d4
      have ht := hN'.text
      obtain ⟨a1, c1, rfl, s1, m1⟩ := hN'.l
      obtain ⟨a2, c2, rfl, s2, m2⟩ := hN'.body
      obtain ⟨a3, c3, rfl, s3, m3⟩ := hN'.els
      simp only at d0 d1 d2 d3 d4 ht
      have hBr : B ≤ wr.heap.size := Nat.le_trans hB hb.size
      have n1 : Nodes wr (· < B) tw (.slice a1 xl.len c1) xl := ⟨a1, c1, rfl, s1, m1⟩
      have n2 : Nodes wr (· < B) tw (.slice a2 xb.len c2) xb := ⟨a2, c2, rfl, s2, m2⟩
      have n3 : Nodes wr (· < B) tw (.slice a3 xe.len c3) xe := ⟨a3, c3, rfl, s3, m3⟩
      have Y := Lib.hid (And.intro hI (And.intro n1 (And.intro n2 (And.intro n3 (And.intro hBr (And.intro hb (And.intro hd (And.intro hdr (Nat.lt_of_lt_of_le hS hBr)))))))))
      have ts := tx_size tt
      have k0 : (0 : Int) ≤ (kd : Int) := by omega
      have tl : (tt.length : Int) ≤ 140737488351232 := by omega
      obtain ⟨p, hp⟩ : ∃ p, p = (kd == 1 && decide (200 < tt.length)) := ⟨_, rfl⟩
      have HR := Lib.hid (show longOne ⟨kd, tt, xl, xb, xe⟩ = (p || long xl || long xb || long xe) by rw [hp]; rfl)
      have D3 := Lib.hid d3
      have D4 := Lib.hid d4
      clear hN hN' s1 s2 s3 m1 m2 m3 hb hd hx hdr hI hS n1 n2 n3 hBr ht
      have fin : ∀ wz, longOne ⟨kd, tt, xl, xb, xe⟩ = true → Below w.heap.size w wz → Ending.returned (.bool true) = Ending.returned (.bool (long xs)) ∧ Below w.heap.size w wz := fun wz hone hz => by
        refine ⟨?_, hz⟩
        have hd := Y.out.2.2.2.2.2.2.1
        rw [Y.out.2.2.2.2.2.2.2.1, List.any_cons, hone, Bool.true_or] at hd
        rw [long_items, ← hd]
      have FIN := Lib.hid fin
      clear fin
      cases p with
      | true =>
        have hq : kd = 1 ∧ 200 < tt.length := by have := hp.symm; simpa using this
        obtain ⟨rfl, hq⟩ := hq
        have hq2 : (200 : Int) < (tt.length : Int) := by omega
        clear hp hq
        go_wp2_with fail
        go_ret
        exact FIN.out _ (by rw [HR.out]; rfl) Y.out.2.2.2.2.2.1
      | false =>
        have hq : ((kd : Int) == 1) = false ∨ (kd = 1 ∧ (tt.length : Int) ≤ 200) := by
          have := hp.symm
          by_cases hk1 : kd = 1
          · right; subst hk1; simp at this; omega
          · left; simp; omega
        clear hp
        rcases hq with hq | ⟨rfl, hq⟩
        all_goals
          (try have hq2 : decide ((200 : Int) < (tt.length : Int)) = false := by simp; omega)
          go_wp2_with fail
          refine (Y.out.1.1 _ B _ Y.out.2.2.2.2.1 Y.out.2.1).mono ?_
          rintro e w1 ⟨rfl, hb1⟩
          have e3 := cell_later hb1 Y.out.2.2.2.2.2.2.2.2 D3.out
          have K1 := Lib.hid (And.intro hb1 (Y.out.2.2.2.2.2.1.trans (hb1.mono Y.out.2.2.2.2.2.1.size)))
          clear hb1
          cases hl1 : long xl with
          | true =>
            have L1 := Lib.hid hl1
            clear hl1
            go_wp2_with fail
            go_ret
            exact FIN.out _ (by rw [HR.out, L1.out]; rfl) K1.out.2
          | false =>
            have L1 := Lib.hid hl1
            clear hl1
            go_wp2_with fail
            refine (Y.out.1.2.1 w1 B _ (Nat.le_trans Y.out.2.2.2.2.1 K1.out.1.size) (Y.out.2.2.1.below (K1.out.1.mono Y.out.2.2.2.2.1))).mono ?_
            rintro e w2 ⟨rfl, hb2⟩
            have hb12 := K1.out.1.trans (hb2.mono K1.out.1.size)
            have e4 := cell_later hb12 Y.out.2.2.2.2.2.2.2.2 D4.out
            have K2 := Lib.hid (And.intro hb12 (Y.out.2.2.2.2.2.1.trans (hb12.mono Y.out.2.2.2.2.2.1.size)))
            clear hb2 hb12 e3
            cases hl2 : long xb with
            | true =>
              have L2 := Lib.hid hl2
              clear hl2
              go_wp2_with fail
              go_ret
              exact FIN.out _ (by rw [HR.out, L1.out, L2.out]; rfl) K2.out.2
            | false =>
              have L2 := Lib.hid hl2
              clear hl2
              go_wp2_with fail
              refine (Y.out.1.2.2 w2 B _ (Nat.le_trans Y.out.2.2.2.2.1 K2.out.1.size) (Y.out.2.2.2.1.below (K2.out.1.mono Y.out.2.2.2.2.1))).mono ?_
              rintro e w3 ⟨rfl, hb3⟩
              have K3 := Lib.hid (K2.out.2.trans (hb3.mono K2.out.2.size))
              clear hb3
              cases hl3 : long xe with
              | true =>
                have L3 := Lib.hid hl3
                clear hl3
                go_wp2_with fail
                go_ret
                exact FIN.out _ (by rw [HR.out, L1.out, L2.out, L3.out]; rfl) K3.out
              | false =>
                have L3 := Lib.hid hl3
                clear hl3
                go_wp2_with fail
                go_roundg (xs.items.length - (i + 1))
                case measure => omega
                case rel =>
                  refine ⟨i + 1, hlt, rfl, by go_num, ?_, K3.out⟩
                  have hd := Y.out.2.2.2.2.2.2.1
                  rw [Y.out.2.2.2.2.2.2.2.1, List.any_cons, HR.out, L1.out, L2.out, L3.out] at hd
                  exact hd
    · obtain rfl : i = xs.items.length := by omega
      clear hlt
      go_wp2_with fail
      go_ret
      exact ⟨by rw [long_items, ← hd, List.drop_length]; rfl, hb⟩
end Go.Proofs.YtmkhfonafcikdaaGreatDoor

/- Trees: may a program be, as the document has it. -/
namespace Go.Proofs.YtmkhfonafcikdaaGreatDoor
open Go.RowKit Go.My Go.Nd


def RGreatAt (w : World) (p : Pr) (fs : List Nd.Fn) (gk : Nat) (v3 v4 : Value) (wr : World) : Prop :=
  ∃ (i : Nat) (q : Bool), i ≤ fs.length ∧ gk = fs.length - i ∧ v3 = .bool q ∧ v4 = .int .i64 (i : Int) ∧ (q || (fs.drop i).any (fun f => Nd.great wrapI f.body)) = greatP wrapI p ∧ Below w.heap.size w wr

theorem deep_wraps (x : Ns) : 0 ≤ deep wrapI x ∧ deep wrapI x ≤ 9223372036854775807 :=
  ⟨deep_nonneg wrapI x, deep_le wrapI 9223372036854775807 (by decide) (fun x => by unfold wrapI; rw [IntKind.wrap_i64]; omega) x⟩

set_option maxRecDepth 100000 in
set_option maxHeartbeats 8000000 in
theorem rgreat_t {w : World} {B : Nat} {tw : Bool} {p : Pr} {v1 v2 : Value} (hB : B ≤ w.heap.size) (h1 : FuncsIn w (· < B) tw v1 p.funcs) (h2 : Nodes w (· < B) tw v2 p.body) :
    Calls Tryz.prog 105 #[.agg #[v1, v2]] w fun e w' => e = .returned (.bool (greatP wrapI p)) ∧ Below w.heap.size w w' := by
  have hA0 := Below.alloc (Below.refl w.heap.size w) (Nat.le_refl _) (.cells #[v1, v2] 25)
  obtain ⟨fs, hfs⟩ : ∃ fs, fs = p.funcs := ⟨_, rfl⟩
  rw [← hfs] at h1
  have HGP := Lib.hid (show greatP wrapI p = (Nd.great wrapI p.body || fs.any (fun f => Nd.great wrapI f.body)) by unfold greatP bodiesOf; rw [List.any_cons, List.any_map, hfs]; rfl)
  have H2 := Lib.hid (h2.below (hA0.mono hB))
  obtain ⟨a0, c0, rfl⟩ := h1.form
  obtain ⟨a9, c9, rfl⟩ := h2.form
  obtain ⟨_, _, ev, _, _, hr, _, hc⟩ := h1.below (hA0.mono hB)
  cases ev
  have HC := Lib.hid hc
  have l0 : (0 : Int) ≤ (fs.length : Int) := by omega
  have l1 : (fs.length : Int) ≤ 140737488351232 := by omega
  obtain ⟨bp, hbp⟩ : ∃ bp, bp = w.heap.size := ⟨_, rfl⟩
  obtain ⟨w0, hw0⟩ : ∃ w0, w0 = w.alloc (.cells #[.slice a0 fs.length c0, .slice a9 p.body.len c9] 25) := ⟨_, rfl⟩
  have hboxp : ∀ w1, Below w0.heap.size w0 w1 → w1.cell? ⟨bp, 0, none⟩ = some (.slice a0 fs.length c0) ∧ w1.cell? ⟨bp, 1, none⟩ = some (.slice a9 p.body.len c9) := by
    intro w1 hb1
    rw [hw0] at hb1
    rw [hbp]
    have q0 := box_later hb1 0
    have q1 := box_later hb1 1
    simp at q0 q1
    exact ⟨q0, q1⟩
  have HXP := Lib.hid hboxp
  rw [← hw0] at H2 HC hA0
  have Y0 := Lib.hid hA0
  have HBB := Lib.hid (Nat.le_trans hB hA0.size)
  obtain ⟨d, hd0⟩ : ∃ d, d = deep wrapI p.body := ⟨_, rfl⟩
  have hdw := deep_wraps p.body
  have HDB := Lib.hid (show Nd.great wrapI p.body = (decide (64 < d) || long p.body) by unfold Nd.great; rw [hd0])
  have HD1 := Lib.hid (rdeep_said tw p.body w0 B _ HBB.out H2.out)
  rw [← hd0] at hdw HD1
  clear hboxp hA0 hc hr h1 h2 hfs hB hd0
  go_enter Tryz.func105, Tryz.ntmps105
  go_upto_region 1 with fail
  rw [← hbp, ← hw0]
  clear hbp hw0
  obtain ⟨q0, q1⟩ := HXP.out w0 (Below.refl _ _)
  go_cut [3] (fun v3 wx => v3 = .bool (Nd.great wrapI p.body) ∧ Below w0.heap.size w0 wx)
  case first =>
    go_wp2_with fail
    refine HD1.out.mono ?_
    rintro e w1 ⟨rfl, hb⟩
    have K := Lib.hid hb
    obtain ⟨q0, q1⟩ := HXP.out w1 hb
    clear hb
    by_cases hg : 64 < d
    · have HG := Lib.hid (show Nd.great wrapI p.body = true by rw [HDB.out]; simp [hg])
      go_wp2_with fail
      go_meet
      case rel => exact ⟨by rw [HG.out], K.out⟩
    · have hg1 : d ≤ 64 := by omega
      have hg2 : decide (64 < d) = false := by simp; omega
      have HG := Lib.hid (show Nd.great wrapI p.body = long p.body by rw [HDB.out]; simp [hg])
      clear hg
      go_wp2_with fail
      refine (rlong_said tw p.body w1 B _ (Nat.le_trans HBB.out K.out.size) (H2.out.below (K.out.mono HBB.out))).mono ?_
      rintro e w2 ⟨rfl, hb⟩
      have K2 := Lib.hid (K.out.trans (hb.mono K.out.size))
      clear hb
      go_wp2_with fail
      go_meet
      case rel => exact ⟨by rw [HG.out], K2.out⟩
  case rest =>
    obtain ⟨rfl, hbc⟩ := hcut
    have KC := Lib.hid hbc
    clear hbc q0 q1 HD1 hdw
    generalize hgb : Nd.great wrapI p.body = gb at *
    clear hgb HDB
    go_wp2_with fail
    go_loopg [3, 4] fs.length (fun gk v3 v4 wr => RGreatAt w0 p fs gk v3 v4 wr)
    case atStart => exact ⟨0, gb, Nat.zero_le _, rfl, rfl, rfl, by rw [List.drop_zero, HGP.out], KC.out⟩
    case round =>
      obtain ⟨i, q, hi, rfl, rfl, rfl, hd, hb⟩ := hrel
      have i0 : (0 : Int) ≤ (i : Int) := by omega
      obtain ⟨q0, q1⟩ := HXP.out wr hb
      clear KC
      by_cases hlt : i < fs.length
      · have i1 : (i : Int) < (fs.length : Int) := by omega
        obtain ⟨b, off, v1, v2, rfl, hS, hN⟩ := HC.out i hlt
        have hN' := hN.frame hS fun k hk _ => hb.block k (Nat.lt_of_lt_of_le hk HBB.out)
        obtain ⟨f, hx⟩ : ∃ f, f = fs[i] := ⟨_, rfl⟩
        rw [← hx] at hN'
        have hdr := List.drop_eq_getElem_cons hlt
        rw [← hx] at hdr
        obtain ⟨fname, fargs, fbody⟩ := f
        have d2 := hN'.d2
        have hB1 := hN'.body
        obtain ⟨a2, c2, e2⟩ := hB1.form
        subst e2
        simp only at d2 hB1
        have hSr := Nat.lt_of_lt_of_le hS (Nat.le_trans HBB.out hb.size)
        have D2 := Lib.hid (And.intro d2 hSr)
        have N2 := Lib.hid hB1
        have HD := Lib.hid (And.intro hd hdr)
        have KB := Lib.hid hb
        have HBr := Lib.hid (Nat.le_trans HBB.out hb.size)
        clear hN hN' hS hx hB1 hd hdr hb hSr
        cases q with
        | true =>
          go_wp2_with fail
          go_roundg (fs.length - (i + 1))
          case measure => omega
          case rel => exact ⟨i + 1, true, hlt, rfl, rfl, by go_num, by rw [Bool.true_or]; have := HD.out.1; rw [Bool.true_or] at this; exact this, KB.out⟩
        | false =>
          obtain ⟨d, hd0⟩ : ∃ d, d = deep wrapI fbody := ⟨_, rfl⟩
          have hdw := deep_wraps fbody
          have HDB := Lib.hid (show Nd.great wrapI fbody = (decide (64 < d) || long fbody) by unfold Nd.great; rw [hd0])
          have HD1 := Lib.hid (rdeep_said tw fbody wr B _ HBr.out N2.out)
          rw [← hd0] at hdw HD1
          clear hd0
          go_wp2_with fail
          refine HD1.out.mono ?_
          rintro e w1 ⟨rfl, hb⟩
          have K := Lib.hid (KB.out.trans (hb.mono KB.out.size))
          have K1 := Lib.hid hb
          obtain ⟨q0, q1⟩ := HXP.out w1 K.out
          have d2 := cell_later K1.out D2.out.2 D2.out.1
          clear hb
          by_cases hg : 64 < d
          · have HG := Lib.hid (show Nd.great wrapI fbody = true by rw [HDB.out]; simp [hg])
            go_wp2_with fail
            go_roundg (fs.length - (i + 1))
            case measure => omega
            case rel =>
              refine ⟨i + 1, true, hlt, rfl, rfl, by go_num, ?_, K.out⟩
              have := HD.out.1
              rw [HD.out.2, Bool.false_or, List.any_cons, HG.out, Bool.true_or] at this
              rw [Bool.true_or]; exact this
          · have hg1 : d ≤ 64 := by omega
            have hg2 : decide (64 < d) = false := by simp; omega
            have HG := Lib.hid (show Nd.great wrapI fbody = long fbody by rw [HDB.out]; simp [hg])
            clear hg
            go_wp2_with fail
            refine (rlong_said tw fbody w1 B _ (Nat.le_trans HBr.out K1.out.size) (N2.out.below (K1.out.mono HBr.out))).mono ?_
            rintro e w2 ⟨rfl, hb⟩
            have K2 := Lib.hid (K.out.trans (hb.mono K.out.size))
            clear hb
            go_wp2_with fail
            go_roundg (fs.length - (i + 1))
            case measure => omega
            case rel =>
              refine ⟨i + 1, long fbody, hlt, rfl, rfl, by go_num, ?_, K2.out⟩
              have := HD.out.1
              rw [HD.out.2, Bool.false_or, List.any_cons, HG.out] at this
              exact this
      · have hie : i = fs.length := by omega
        have i1 : (fs.length : Int) ≤ (i : Int) := by omega
        have HQ := Lib.hid (show q = greatP wrapI p by rw [← hd, hie, List.drop_length]; simp)
        have K := Lib.hid hb
        clear hlt hie hd hb hi
        go_wp2_with fail
        go_ret
        exact ⟨by rw [← HQ.out]; rfl, Y0.out.trans (K.out.mono Y0.out.size)⟩

def RCheckArg (w : World) (fargs : List (List UInt8)) (gk : Nat) (v5 : Value) (wr : World) : Prop :=
  ∃ k : Nat, k ≤ fargs.length ∧ gk = fargs.length - k ∧ v5 = .int .i64 (k : Int) ∧ (fargs.drop k).all To.name = fargs.all To.name ∧ wr = w

set_option maxRecDepth 100000 in
set_option maxHeartbeats 8000000 in
theorem rcheck_t {w : World} {B : Nat} {tw : Bool} {p : Pr} {v1 v2 : Value} (hB : B ≤ w.heap.size) (h1 : FuncsIn w (· < B) tw v1 p.funcs) (h2 : Nodes w (· < B) tw v2 p.body) :
    Calls Tryz.prog 41 #[.agg #[v1, v2]] w fun e w' => e = .returned (.bool (check wrapI p)) ∧ Below w.heap.size w w' := by
  have hA0 := Below.alloc (Below.refl w.heap.size w) (Nat.le_refl _) (.cells #[v1, v2] 25)
  obtain ⟨fs, hfs⟩ : ∃ fs, fs = p.funcs := ⟨_, rfl⟩
  rw [← hfs] at h1
  have HF := Lib.hid hfs.symm
  have H1 := Lib.hid (h1.below (hA0.mono hB))
  have H2 := Lib.hid (h2.below (hA0.mono hB))
  obtain ⟨a0, c0, rfl⟩ := h1.form
  obtain ⟨a9, c9, rfl⟩ := h2.form
  obtain ⟨_, _, ev, _, _, hr, _, hc⟩ := h1.below (hA0.mono hB)
  cases ev
  have HC := Lib.hid hc
  have l0 : (0 : Int) ≤ (fs.length : Int) := by omega
  have l1 : (fs.length : Int) ≤ 140737488351232 := by omega
  obtain ⟨bp, hbp⟩ : ∃ bp, bp = w.heap.size := ⟨_, rfl⟩
  obtain ⟨w0, hw0⟩ : ∃ w0, w0 = w.alloc (.cells #[.slice a0 fs.length c0, .slice a9 p.body.len c9] 25) := ⟨_, rfl⟩
  have hboxp : ∀ w1, Below w0.heap.size w0 w1 → w1.cell? ⟨bp, 0, none⟩ = some (.slice a0 fs.length c0) ∧ w1.cell? ⟨bp, 1, none⟩ = some (.slice a9 p.body.len c9) := by
    intro w1 hb1
    rw [hw0] at hb1
    rw [hbp]
    have q0 := box_later hb1 0
    have q1 := box_later hb1 1
    simp at q0 q1
    exact ⟨q0, q1⟩
  have HXP := Lib.hid hboxp
  rw [← hw0] at H1 H2 HC hA0
  have Y0 := Lib.hid hA0
  have HBB := Lib.hid (Nat.le_trans hB hA0.size)
  clear hboxp hA0 hc hr h1 h2 hfs hB
  go_enter Tryz.func41, Tryz.ntmps41
  go_upto_region 1 with fail
  rw [← hbp, ← hw0]
  clear hbp hw0
  go_wp2_with fail
  go_loopg [3] fs.length (fun gk v3 wr => CheckAt w0 fs gk v3 wr)
  case atStart => exact ⟨0, Nat.zero_le _, rfl, rfl, rfl, Below.refl _ _⟩
  case round =>
    obtain ⟨i, hi, rfl, rfl, hd, hb⟩ := hrel
    have i0 : (0 : Int) ≤ (i : Int) := by omega
    obtain ⟨p0, p1⟩ := HXP.out wr hb
    by_cases hlt : i < fs.length
    · have i1 : (i : Int) < (fs.length : Int) := by omega
      obtain ⟨b, off, v1, v2, rfl, hS, hN⟩ := HC.out i hlt
      have hN' := hN.frame hS fun k hk _ => hb.block k (Nat.lt_of_lt_of_le hk HBB.out)
      obtain ⟨f, hx⟩ : ∃ f, f = fs[i] := ⟨_, rfl⟩
      rw [← hx] at hN'
      have hdr := List.drop_eq_getElem_cons hlt
      rw [← hx] at hdr
      obtain ⟨fname, fargs, fbody⟩ := f
      have d0 := hN'.d0
      have d1 := hN'.d1
      have d2 := hN'.d2
      have ht := hN'.name
      have hA1 := hN'.args
      have hB1 := hN'.body
      obtain ⟨a1, c1, e1⟩ := hA1.form
      obtain ⟨a2, c2, e2⟩ := hB1.form
      subst e1
      subst e2
      simp only at d0 d1 d2 ht hA1 hB1
      have etx : tx fname = bs fname := rfl
      rw [etx] at d0
      have hBr : B ≤ wr.heap.size := Nat.le_trans HBB.out hb.size
      have hA := Below.alloc (Below.refl wr.heap.size wr) (Nat.le_refl _) (.cells #[.string (bs fname), .slice a1 fargs.length c1, .slice a2 fbody.len c2] 57)
      obtain ⟨bx, hbx⟩ : ∃ bx, bx = wr.heap.size := ⟨_, rfl⟩
      obtain ⟨w4, hw4⟩ : ∃ w4, w4 = wr.alloc (.cells #[.string (bs fname), .slice a1 fargs.length c1, .slice a2 fbody.len c2] 57) := ⟨_, rfl⟩
      have hbox : ∀ w1, Below w4.heap.size w4 w1 → w1.cell? ⟨bx, 0, none⟩ = some (.string (bs fname)) ∧ w1.cell? ⟨bx, 1, none⟩ = some (.slice a1 fargs.length c1) ∧ w1.cell? ⟨bx, 2, none⟩ = some (.slice a2 fbody.len c2) := by
        intro w1 hb1
        rw [hw4] at hb1
        rw [hbx]
        have q0 := box_later hb1 0
        have q1 := box_later hb1 1
        have q2 := box_later hb1 2
        simp at q0 q1 q2
        exact ⟨q0, q1, q2⟩
      have hAB := hA.mono hBr
      rw [← hw4] at hA hAB
      have HX := Lib.hid hbox
      have K4 := Lib.hid (hb.trans (hA.mono hb.size))
      have N1 := Lib.hid (hA1.below hAB)
      have N2 := Lib.hid (hB1.below hAB)
      have HDR := Lib.hid hdr
      have HD := Lib.hid hd
      have HBr := Lib.hid (Nat.le_trans hBr hA.size)
      have HT := Lib.hid (show fname.length ≤ 9223372036854775807 by omega)
      clear hN hN' hA hAB hbox hb hd hx hdr hS ht etx hBr hA1 hB1
      go_upto_region 5 with fail
      rw [← hbx, ← hw4]
      clear hbx hw4 d0 d1 d2 p0 p1
      obtain ⟨q0, q1, q2⟩ := HX.out w4 (Below.refl _ _)
      go_wp2_with fail
      refine refname_t fname HT.out ?_
      cases hnm : To.name fname with
      | false =>
        have HN := Lib.hid (check_no HF.out HD.out HDR.out (by unfold fnOne; simp only; rw [hnm]; rfl))
        clear hnm
        go_wp2_with fail
        go_ret
        exact ⟨by rw [HN.out]; rfl, Y0.out.trans (K4.out.mono Y0.out.size)⟩
      | true =>
        have HNM := Lib.hid hnm
        clear hnm
        go_wp2_with fail
        refine (rstmt_said tw true fbody w4 B _ HBr.out N2.out).mono ?_
        rintro e w6 ⟨rfl, hb6⟩
        have K6 := Lib.hid hb6
        obtain ⟨q0, q1, q2⟩ := HX.out w6 K6.out
        clear hb6
        cases hst : stmts true fbody with
        | false =>
          have HN := Lib.hid (check_no HF.out HD.out HDR.out (by unfold fnOne; simp only; rw [hst, Bool.and_false]))
          clear hst
          go_wp2_with fail
          go_ret
          exact ⟨by rw [HN.out]; rfl, Y0.out.trans ((K4.out.trans (K6.out.mono K4.out.size)).mono Y0.out.size)⟩
        | true =>
          have HST := Lib.hid hst
          clear hst
          obtain ⟨_, _, ev, _, _, hr2, _, hc2⟩ := N1.out.below (K6.out.mono HBr.out)
          cases ev
          have HC2 := Lib.hid hc2
          have m0 : (0 : Int) ≤ (fargs.length : Int) := by omega
          have m1 : (fargs.length : Int) ≤ 140737488351232 := by omega
          clear hc2 hr2
          go_wp2_with fail
          have KW := Lib.hid (K4.out.trans (K6.out.mono K4.out.size))
          go_loopg [5] fargs.length (fun gk v5 wx => RCheckArg w6 fargs gk v5 wx)
          case atStart => exact ⟨0, Nat.zero_le _, rfl, rfl, rfl, rfl⟩
          case round =>
            obtain ⟨k, hk, rfl, rfl, hdk, hwk⟩ := hrel
            subst hwk
            have k0 : (0 : Int) ≤ (k : Int) := by omega
            by_cases hlk : k < fargs.length
            · have k1 : (k : Int) < (fargs.length : Int) := by omega
              obtain ⟨b3, off3, ea, _, hN3, hl3⟩ := HC2.out k hlk
              subst ea
              obtain ⟨x, hx⟩ : ∃ x, x = fargs[k] := ⟨_, rfl⟩
              rw [← hx] at hN3 hl3
              have etx : tx x = bs x := rfl
              rw [etx] at hN3
              have hdr := List.drop_eq_getElem_cons hlk
              rw [← hx] at hdr
              have HDK := Lib.hid (And.intro hdk hdr)
              have HL3 := Lib.hid (show x.length ≤ 9223372036854775807 by omega)
              clear hx hdr hdk hl3 etx
              go_wp2_with fail
              refine refname_t x HL3.out ?_
              cases hnx : To.name x with
              | false =>
                have HNA := Lib.hid (show fargs.all To.name = false by rw [← HDK.out.1, HDK.out.2, List.all_cons, hnx]; rfl)
                have HN := Lib.hid (check_no HF.out HD.out HDR.out (by unfold fnOne; simp only; rw [HNA.out, Bool.and_false]; rfl))
                clear hnx
                go_wp2_with fail
                go_ret
                exact ⟨by rw [HN.out]; rfl, Y0.out.trans (KW.out.mono Y0.out.size)⟩
              | true =>
                have HNX := Lib.hid hnx
                clear hnx
                go_wp2_with fail
                go_roundg (fargs.length - (k + 1))
                case measure => omega
                case rel =>
                  refine ⟨k + 1, hlk, rfl, by go_num, ?_, rfl⟩
                  have := HDK.out.1
                  rw [HDK.out.2, List.all_cons, HNX.out, Bool.true_and] at this
                  exact this
            · have hke : k = fargs.length := by omega
              have k1 : (fargs.length : Int) ≤ (k : Int) := by omega
              have HNA := Lib.hid (show fargs.all To.name = true by rw [← hdk, hke, List.drop_length]; rfl)
              clear hlk hke hdk hk
              go_wp2_with fail
              go_roundg (fs.length - (i + 1))
              case measure => omega
              case rel =>
                refine ⟨i + 1, hlt, rfl, by go_num, ?_, KW.out⟩
                have hd := HD.out
                rw [HDR.out, List.all_cons, show fnOne ⟨fname, fargs, fbody⟩ = true by unfold fnOne; simp only; rw [HNM.out, HNA.out, HST.out]; rfl, Bool.true_and] at hd
                exact hd
    · have hie : i = fs.length := by omega
      have i1 : (fs.length : Int) ≤ (i : Int) := by omega
      have HALL := Lib.hid (show p.funcs.all fnOne = true by rw [HF.out, ← hd, hie, List.drop_length]; rfl)
      have K := Lib.hid hb
      clear hlt hie hd hb hi
      go_wp2_with fail
      refine (rstmt_said tw false p.body wr B _ (Nat.le_trans HBB.out K.out.size) (H2.out.below (K.out.mono HBB.out))).mono ?_
      rintro e w7 ⟨rfl, hb7⟩
      have K7 := Lib.hid (K.out.trans (hb7.mono K.out.size))
      clear hb7
      obtain ⟨q0, q1⟩ := HXP.out w7 K7.out
      cases hst : stmts false p.body with
      | false =>
        have HN := Lib.hid (show check wrapI p = false by rw [check_is, hst, Bool.and_false]; rfl)
        clear hst
        go_wp2_with fail
        go_ret
        exact ⟨by rw [HN.out]; rfl, Y0.out.trans (K7.out.mono Y0.out.size)⟩
      | true =>
        have HN := Lib.hid (show check wrapI p = !greatP wrapI p by rw [check_is, hst, HALL.out]; rfl)
        have h1' := H1.out.below (K7.out.mono HBB.out)
        rw [← HF.out] at h1'
        have G := Lib.hid (rgreat_t (p := p) (Nat.le_trans HBB.out K7.out.size) h1' (H2.out.below (K7.out.mono HBB.out)))
        rw [show p.funcs.length = fs.length by rw [HF.out]] at *
        clear hst h1'
        go_wp2_with fail
        refine G.out.mono ?_
        rintro e w8 ⟨rfl, hb8⟩
        have K8 := Lib.hid (K7.out.trans (hb8.mono K7.out.size))
        clear hb8
        go_wp2_with fail
        go_ret
        exact ⟨by rw [HN.out]; rfl, Y0.out.trans (K8.out.mono Y0.out.size)⟩
end Go.Proofs.YtmkhfonafcikdaaGreatDoor

/- Trees: how great programs are (only that it is told). -/
namespace Go.Proofs.YtmkhfonafcikdaaGreatDoor
open Go.RowKit Go.My Go.Nd

def Told1 (w : World) (e : Ending) (w' : World) : Prop := ∃ n : Int, e = .returned (.int .i64 n) ∧ Below w.heap.size w w'

def SizeSaid (tw : Bool) (x : Ns) : Prop := ∀ (w : World) (B : Nat) (v : Value), B ≤ w.heap.size → Nodes w (· < B) tw v x → Calls Tryz.prog 29 #[v] w (Told1 w)

def CutN (w : World) (v3 : Value) (wx : World) : Prop := ∃ n : Int, v3 = .int .i64 n ∧ Below w.heap.size w wx


set_option maxRecDepth 100000 in
set_option maxHeartbeats 4000000 in
theorem size_one {tw : Bool} {B : Nat} {x : Nd} (h1 : SizeSaid tw x.l) (h2 : SizeSaid tw x.body) (h3 : SizeSaid tw x.els) {w : World} {a1 a2 a3 : Option Addr} {c1 c2 c3 : Nat} (hB : B ≤ w.heap.size)
    (n1 : Nodes w (· < B) tw (.slice a1 x.l.len c1) x.l) (n2 : Nodes w (· < B) tw (.slice a2 x.body.len c2) x.body) (n3 : Nodes w (· < B) tw (.slice a3 x.els.len c3) x.els) (ht : x.text.length ≤ 140737488351232) :
    Calls Tryz.prog 95 #[.agg #[.int .u8 (x.kind : Int), .string (tx x.text), .slice a1 x.l.len c1, .slice a2 x.body.len c2, .slice a3 x.els.len c3]] w (Told1 w) := by
  obtain ⟨kd, tt, xl, xb, xe⟩ := x
  simp only at *
  have hA := Below.alloc (Below.refl w.heap.size w) (Nat.le_refl _) (.cells #[.int .u8 (kd : Int), .string (tx tt), .slice a1 xl.len c1, .slice a2 xb.len c2, .slice a3 xe.len c3] 61)
  obtain ⟨bx, hbx⟩ : ∃ bx, bx = w.heap.size := ⟨_, rfl⟩
  obtain ⟨w0, hw0⟩ : ∃ w0, w0 = w.alloc (.cells #[.int .u8 (kd : Int), .string (tx tt), .slice a1 xl.len c1, .slice a2 xb.len c2, .slice a3 xe.len c3] 61) := ⟨_, rfl⟩
  have hbox : ∀ w1, Below w0.heap.size w0 w1 → w1.cell? ⟨bx, 2, none⟩ = some (.slice a1 xl.len c1) ∧ w1.cell? ⟨bx, 3, none⟩ = some (.slice a2 xb.len c2) ∧ w1.cell? ⟨bx, 4, none⟩ = some (.slice a3 xe.len c3) := by
    intro w1 hb1
    rw [hw0] at hb1
    rw [hbx]
    have q2 := box_later hb1 2
    have q3 := box_later hb1 3
    have q4 := box_later hb1 4
    simp at q2 q3 q4
    exact ⟨q2, q3, q4⟩
  rw [← hw0] at hA
  have HX := Lib.hid hbox
  have Y0 := Lib.hid hA
  have H1 := Lib.hid h1
  have H2 := Lib.hid h2
  have H3 := Lib.hid h3
  have N1 := Lib.hid (n1.below (hA.mono hB))
  have N2 := Lib.hid (n2.below (hA.mono hB))
  have N3 := Lib.hid (n3.below (hA.mono hB))
  have HBB := Lib.hid (Nat.le_trans hB hA.size)
  have ts := tx_size tt
  have t0 : (0 : Int) ≤ (tt.length : Int) := by omega
  have t1 : (tt.length : Int) ≤ 140737488351232 := by omega
  clear hbox hA h1 h2 h3 n1 n2 n3 hB ht
  go_enter Tryz.func95, Tryz.ntmps95
  go_upto_if 9 with fail
  rw [← hbx, ← hw0]
  clear hbx hw0
  go_cut [3] (fun v3 wx => CutN w0 v3 wx)
  case first =>
    by_cases hm : (1 : Int) + (tt.length : Int) ≤ 1048576
    · obtain ⟨q2, q3, q4⟩ := HX.out w0 (Below.refl _ _)
      go_wp2_with fail
      refine (H1.out w0 B _ HBB.out N1.out).mono ?_
      rintro e w1 ⟨m, rfl, hb⟩
      have K := Lib.hid hb
      clear hb
      obtain ⟨r, hr⟩ : ∃ r, IntKind.i64.wrap ((1 : Int) + (tt.length : Int) + m) = r := ⟨_, rfl⟩
      go_wp2_with fail
      go_meet
      case rel => exact ⟨_, rfl, K.out⟩
    · have hm2 : (1048576 : Int) < (1 : Int) + (tt.length : Int) := by omega
      clear hm
      go_wp2_with fail
      go_meet
      case rel => exact ⟨_, rfl, Below.refl _ _⟩
  case rest =>
    obtain ⟨n, rfl, hb⟩ := hcut
    have K := Lib.hid hb
    obtain ⟨q2, q3, q4⟩ := HX.out wc hb
    clear hb
    go_upto_if 16 with fail
    go_cut [3] (fun v3 wx => CutN w0 v3 wx)
    case first =>
      by_cases hm : n ≤ 1048576
      · go_wp2_with fail
        refine (H2.out wc B _ (Nat.le_trans HBB.out K.out.size) (N2.out.below (K.out.mono HBB.out))).mono ?_
        rintro e w1 ⟨m, rfl, hb⟩
        have K2 := Lib.hid (K.out.trans (hb.mono K.out.size))
        clear hb
        obtain ⟨r, hr⟩ : ∃ r, IntKind.i64.wrap (n + m) = r := ⟨_, rfl⟩
        go_wp2_with fail
        go_meet
        case rel => exact ⟨_, rfl, K2.out⟩
      · have hm2 : (1048576 : Int) < n := by omega
        clear hm
        go_wp2_with fail
        go_meet
        case rel => exact ⟨_, rfl, K.out⟩
    case rest =>
      clear q2 q3 q4
      obtain ⟨n3, rfl, hb3⟩ := hcut
      have K3 := Lib.hid hb3
      obtain ⟨q2, q3, q4⟩ := HX.out wc hb3
      clear hb3
      go_upto_if 23 with fail
      go_cut [3] (fun v3 wx => CutN w0 v3 wx)
      case first =>
        by_cases hm : n3 ≤ 1048576
        · go_wp2_with fail
          refine (H3.out wc B _ (Nat.le_trans HBB.out K3.out.size) (N3.out.below (K3.out.mono HBB.out))).mono ?_
          rintro e w1 ⟨m, rfl, hb⟩
          have K2 := Lib.hid (K3.out.trans (hb.mono K3.out.size))
          clear hb
          obtain ⟨r, hr⟩ : ∃ r, IntKind.i64.wrap (n3 + m) = r := ⟨_, rfl⟩
          go_wp2_with fail
          go_meet
          case rel => exact ⟨_, rfl, K2.out⟩
        · have hm2 : (1048576 : Int) < n3 := by omega
          clear hm
          go_wp2_with fail
          go_meet
          case rel => exact ⟨_, rfl, K3.out⟩
      case rest =>
        clear q2 q3 q4
        obtain ⟨n4, rfl, hb4⟩ := hcut
        have K4 := Lib.hid hb4
        clear hb4
        go_wp2_with fail
        go_ret
        exact ⟨n4, rfl, Y0.out.trans (K4.out.mono Y0.out.size)⟩

def SizeAt (w : World) (m : Nat) (gk : Nat) (v3 v4 : Value) (wr : World) : Prop :=
  ∃ (i : Nat) (n : Int), i ≤ m ∧ gk = m - i ∧ v3 = .int .i64 n ∧ v4 = .int .i64 (i : Int) ∧ Below w.heap.size w wr

set_option maxRecDepth 100000 in
set_option maxHeartbeats 4000000 in
theorem size_said (tw : Bool) : ∀ xs, SizeSaid tw xs := by
  refine Ns.each fun xs ih w B v hB hv => ?_
  obtain ⟨a, c, rfl, hr, hc⟩ := hv.open_
  have HI := Lib.hid ih
  have HC := Lib.hid hc
  have HBB := Lib.hid hB
  have l0 : (0 : Int) ≤ (xs.items.length : Int) := by omega
  have l1 : (xs.items.length : Int) ≤ 140737488351232 := by have := hr.2.2.1; omega
  clear ih hv hc hr hB
  go_enter Tryz.func29, Tryz.ntmps29
  go_wp2_with fail
  go_loopg [3, 4] xs.items.length (fun gk v3 v4 wr => SizeAt w xs.items.length gk v3 v4 wr)
  case atStart => exact ⟨0, _, Nat.zero_le _, rfl, rfl, rfl, Below.refl _ _⟩
  case round =>
    obtain ⟨i, n, hi, rfl, rfl, rfl, hb⟩ := hrel
    have i0 : (0 : Int) ≤ (i : Int) := by omega
    have K := Lib.hid hb
    by_cases hlt : i < xs.items.length
    · have i1 : (i : Int) < (xs.items.length : Int) := by omega
      by_cases hm : n ≤ 1048576
      · obtain ⟨b, off, v1, v2, v3, rfl, hS, hN⟩ := HC.out i hlt
        have hN' := hN.frame hS fun k hk _ => hb.block k (Nat.lt_of_lt_of_le hk HBB.out)
        obtain ⟨x, hx⟩ : ∃ x, x = xs.items[i] := ⟨_, rfl⟩
        rw [← hx] at hN'
        have hI := HI.out _ (List.getElem_mem hlt)
        rw [← hx] at hI
        obtain ⟨kd, tt, xl, xb, xe⟩ := x
        have d0 := hN'.d0
        have d1 := hN'.d1
        have d2 := hN'.d2
        have d3 := hN'.d3
        have d4 := hN'.d4
        obtain ⟨a1, c1, e1⟩ := hN'.l.form
        obtain ⟨a2, c2, e2⟩ := hN'.body.form
        obtain ⟨a3, c3, e3⟩ := hN'.els.form
        subst e1 e2 e3
        simp only at d0 d1 d2 d3 d4
        have C := Lib.hid (size_one (x := ⟨kd, tt, xl, xb, xe⟩) hI.1 hI.2.1 hI.2.2 (Nat.le_trans HBB.out hb.size) hN'.l hN'.body hN'.els hN'.text)
        clear hN hN' hx hI hS hb
        go_wp2_with fail
        refine C.out.mono ?_
        rintro e w1 ⟨m, rfl, hb1⟩
        have K1 := Lib.hid (K.out.trans (hb1.mono K.out.size))
        clear hb1
        obtain ⟨r, hr⟩ : ∃ r, IntKind.i64.wrap (n + m) = r := ⟨_, rfl⟩
        go_wp2_with fail
        go_roundg (xs.items.length - (i + 1))
        case measure => omega
        case rel => exact ⟨i + 1, _, hlt, rfl, rfl, by go_num, K1.out⟩
      · have hm2 : (1048576 : Int) < n := by omega
        clear hm hb
        go_wp2_with fail
        go_ret
        exact ⟨n, rfl, K.out⟩
    · have i1 : (xs.items.length : Int) ≤ (i : Int) := by omega
      clear hlt hb hi
      go_wp2_with fail
      go_ret
      exact ⟨n, rfl, K.out⟩
end Go.Proofs.YtmkhfonafcikdaaGreatDoor

/- Trees: how great programs are: texts, functions, programs. -/
namespace Go.Proofs.YtmkhfonafcikdaaGreatDoor
open Go.RowKit Go.My Go.Nd

set_option maxRecDepth 100000 in
set_option maxHeartbeats 4000000 in
theorem textsSize_t {w : World} {B : Nat} {tw : Bool} {v : Value} {ts : List (List UInt8)} (hB : B ≤ w.heap.size) (hv : TextsIn w (· < B) tw v ts) : Calls Tryz.prog 146 #[v] w (Told1 w) := by
  obtain ⟨a, c, rfl, _, _, hr, _, hc⟩ := hv
  have HC := Lib.hid hc
  have HBB := Lib.hid hB
  have l0 : (0 : Int) ≤ (ts.length : Int) := by omega
  have l1 : (ts.length : Int) ≤ 140737488351232 := by omega
  clear hc hr hB
  go_enter Tryz.func146, Tryz.ntmps146
  go_wp2_with fail
  go_loopg [3, 4] ts.length (fun gk v3 v4 wr => SizeAt w ts.length gk v3 v4 wr)
  case atStart => exact ⟨0, _, Nat.zero_le _, rfl, rfl, rfl, Below.refl _ _⟩
  case round =>
    obtain ⟨i, n, hi, rfl, rfl, rfl, hb⟩ := hrel
    have i0 : (0 : Int) ≤ (i : Int) := by omega
    have K := Lib.hid hb
    by_cases hlt : i < ts.length
    · have i1 : (i : Int) < (ts.length : Int) := by omega
      by_cases hm : n ≤ 1048576
      · obtain ⟨b, off, ea, hS, hN, hl⟩ := HC.out i hlt
        subst ea
        have d0 := (World.cell?_of_block (hb.block b (Nat.lt_of_lt_of_le hS HBB.out))).trans hN
        have tsz := tx_size ts[i]
        obtain ⟨x, hx⟩ : ∃ x, x = ts[i] := ⟨_, rfl⟩
        rw [← hx] at d0 hl tsz
        obtain ⟨r, hr⟩ : ∃ r, IntKind.i64.wrap (n + (x.length : Int)) = r := ⟨_, rfl⟩
        have x1 : (x.length : Int) ≤ 140737488351232 := by omega
        clear hN hS hx hb hl
        go_wp2_with fail
        go_roundg (ts.length - (i + 1))
        case measure => omega
        case rel => exact ⟨i + 1, _, hlt, rfl, rfl, by go_num, K.out⟩
      · have hm2 : (1048576 : Int) < n := by omega
        clear hm hb
        go_wp2_with fail
        go_ret
        exact ⟨n, rfl, K.out⟩
    · have i1 : (ts.length : Int) ≤ (i : Int) := by omega
      clear hlt hb hi
      go_wp2_with fail
      go_ret
      exact ⟨n, rfl, K.out⟩

set_option maxRecDepth 100000 in
set_option maxHeartbeats 4000000 in
theorem funcSize_t {w : World} {B : Nat} {tw : Bool} {nm : List UInt8} {v1 v2 : Value} {ts : List (List UInt8)} {x : Ns} (hB : B ≤ w.heap.size) (hn : nm.length ≤ 140737488351232) (h1 : TextsIn w (· < B) tw v1 ts) (h2 : Nodes w (· < B) tw v2 x) :
    Calls Tryz.prog 94 #[.agg #[.string (tx nm), v1, v2]] w (Told1 w) := by
  have hA := Below.alloc (Below.refl w.heap.size w) (Nat.le_refl _) (.cells #[.string (tx nm), v1, v2] 57)
  obtain ⟨bx, hbx⟩ : ∃ bx, bx = w.heap.size := ⟨_, rfl⟩
  obtain ⟨w0, hw0⟩ : ∃ w0, w0 = w.alloc (.cells #[.string (tx nm), v1, v2] 57) := ⟨_, rfl⟩
  have hbox : ∀ w1, Below w0.heap.size w0 w1 → w1.cell? ⟨bx, 1, none⟩ = some v1 ∧ w1.cell? ⟨bx, 2, none⟩ = some v2 := by
    intro w1 hb1
    rw [hw0] at hb1
    rw [hbx]
    have q2 := box_later hb1 1
    have q3 := box_later hb1 2
    simp at q2 q3
    exact ⟨q2, q3⟩
  rw [← hw0] at hA
  have HX := Lib.hid hbox
  have Y0 := Lib.hid hA
  have N1 := Lib.hid (h1.below (hA.mono hB))
  have N2 := Lib.hid (h2.below (hA.mono hB))
  have HBB := Lib.hid (Nat.le_trans hB hA.size)
  have ts0 := tx_size nm
  have t0 : (0 : Int) ≤ (nm.length : Int) := by omega
  have t1 : (nm.length : Int) ≤ 140737488351232 := by omega
  obtain ⟨a1, c1, rfl⟩ := h1.form
  obtain ⟨a2, c2, rfl⟩ := h2.form
  clear hbox hA h1 h2 hB hn
  go_enter Tryz.func94, Tryz.ntmps94
  go_upto_if 9 with fail
  rw [← hbx, ← hw0]
  clear hbx hw0
  go_cut [3] (fun v3 wx => CutN w0 v3 wx)
  case first =>
    by_cases hm : (1 : Int) + (nm.length : Int) ≤ 1048576
    · obtain ⟨q2, q3⟩ := HX.out w0 (Below.refl _ _)
      go_wp2_with fail
      refine (textsSize_t HBB.out N1.out).mono ?_
      rintro e w1 ⟨m, rfl, hb⟩
      have K := Lib.hid hb
      clear hb
      obtain ⟨r, hr⟩ : ∃ r, IntKind.i64.wrap ((1 : Int) + (nm.length : Int) + m) = r := ⟨_, rfl⟩
      go_wp2_with fail
      go_meet
      case rel => exact ⟨_, rfl, K.out⟩
    · have hm2 : (1048576 : Int) < (1 : Int) + (nm.length : Int) := by omega
      clear hm
      go_wp2_with fail
      go_meet
      case rel => exact ⟨_, rfl, Below.refl _ _⟩
  case rest =>
    obtain ⟨n, rfl, hb⟩ := hcut
    have K := Lib.hid hb
    obtain ⟨q2, q3⟩ := HX.out wc hb
    clear hb
    go_upto_if 16 with fail
    go_cut [3] (fun v3 wx => CutN w0 v3 wx)
    case first =>
      by_cases hm : n ≤ 1048576
      · go_wp2_with fail
        refine (size_said tw x wc B _ (Nat.le_trans HBB.out K.out.size) (N2.out.below (K.out.mono HBB.out))).mono ?_
        rintro e w1 ⟨m, rfl, hb⟩
        have K2 := Lib.hid (K.out.trans (hb.mono K.out.size))
        clear hb
        obtain ⟨r, hr⟩ : ∃ r, IntKind.i64.wrap (n + m) = r := ⟨_, rfl⟩
        go_wp2_with fail
        go_meet
        case rel => exact ⟨_, rfl, K2.out⟩
      · have hm2 : (1048576 : Int) < n := by omega
        clear hm
        go_wp2_with fail
        go_meet
        case rel => exact ⟨_, rfl, K.out⟩
    case rest =>
      clear q2 q3
      obtain ⟨n4, rfl, hb4⟩ := hcut
      have K4 := Lib.hid hb4
      clear hb4
      go_wp2_with fail
      go_ret
      exact ⟨n4, rfl, Y0.out.trans (K4.out.mono Y0.out.size)⟩

set_option maxRecDepth 100000 in
set_option maxHeartbeats 4000000 in
theorem funcsSize_t {w : World} {B : Nat} {tw : Bool} {v : Value} {fs : List Nd.Fn} (hB : B ≤ w.heap.size) (hv : FuncsIn w (· < B) tw v fs) : Calls Tryz.prog 28 #[v] w (Told1 w) := by
  obtain ⟨a, c, rfl, _, _, hr, _, hc⟩ := hv
  have HC := Lib.hid hc
  have HBB := Lib.hid hB
  have l0 : (0 : Int) ≤ (fs.length : Int) := by omega
  have l1 : (fs.length : Int) ≤ 140737488351232 := by omega
  clear hc hr hB
  go_enter Tryz.func28, Tryz.ntmps28
  go_wp2_with fail
  go_loopg [3, 4] fs.length (fun gk v3 v4 wr => SizeAt w fs.length gk v3 v4 wr)
  case atStart => exact ⟨0, _, Nat.zero_le _, rfl, rfl, rfl, Below.refl _ _⟩
  case round =>
    obtain ⟨i, n, hi, rfl, rfl, rfl, hb⟩ := hrel
    have i0 : (0 : Int) ≤ (i : Int) := by omega
    have K := Lib.hid hb
    by_cases hlt : i < fs.length
    · have i1 : (i : Int) < (fs.length : Int) := by omega
      by_cases hm : n ≤ 1048576
      · obtain ⟨b, off, v1, v2, rfl, hS, hN⟩ := HC.out i hlt
        have hN' := hN.frame hS fun k hk _ => hb.block k (Nat.lt_of_lt_of_le hk HBB.out)
        obtain ⟨f, hx⟩ : ∃ f, f = fs[i] := ⟨_, rfl⟩
        rw [← hx] at hN'
        obtain ⟨fname, fargs, fbody⟩ := f
        have d0 := hN'.d0
        have d1 := hN'.d1
        have d2 := hN'.d2
        have C := Lib.hid (funcSize_t (Nat.le_trans HBB.out hb.size) hN'.name hN'.args hN'.body)
        obtain ⟨a1, c1, e1⟩ := hN'.args.form
        obtain ⟨a2, c2, e2⟩ := hN'.body.form
        subst e1
        subst e2
        simp only at d0 d1 d2
        clear hN hN' hx hS hb
        go_wp2_with fail
        refine C.out.mono ?_
        rintro e w1 ⟨m, rfl, hb1⟩
        have K1 := Lib.hid (K.out.trans (hb1.mono K.out.size))
        clear hb1
        obtain ⟨r, hr⟩ : ∃ r, IntKind.i64.wrap (n + m) = r := ⟨_, rfl⟩
        go_wp2_with fail
        go_roundg (fs.length - (i + 1))
        case measure => omega
        case rel => exact ⟨i + 1, _, hlt, rfl, rfl, by go_num, K1.out⟩
      · have hm2 : (1048576 : Int) < n := by omega
        clear hm hb
        go_wp2_with fail
        go_ret
        exact ⟨n, rfl, K.out⟩
    · have i1 : (fs.length : Int) ≤ (i : Int) := by omega
      clear hlt hb hi
      go_wp2_with fail
      go_ret
      exact ⟨n, rfl, K.out⟩

set_option maxRecDepth 100000 in
set_option maxHeartbeats 4000000 in
theorem progSize_t {w : World} {B : Nat} {tw : Bool} {p : Pr} {v1 v2 : Value} (hB : B ≤ w.heap.size) (h1 : FuncsIn w (· < B) tw v1 p.funcs) (h2 : Nodes w (· < B) tw v2 p.body) :
    Calls Tryz.prog 10 #[.agg #[v1, v2]] w (Told1 w) := by
  have hA := Below.alloc (Below.refl w.heap.size w) (Nat.le_refl _) (.cells #[v1, v2] 25)
  obtain ⟨bx, hbx⟩ : ∃ bx, bx = w.heap.size := ⟨_, rfl⟩
  obtain ⟨w0, hw0⟩ : ∃ w0, w0 = w.alloc (.cells #[v1, v2] 25) := ⟨_, rfl⟩
  have hbox : ∀ w1, Below w0.heap.size w0 w1 → w1.cell? ⟨bx, 0, none⟩ = some v1 ∧ w1.cell? ⟨bx, 1, none⟩ = some v2 := by
    intro w1 hb1
    rw [hw0] at hb1
    rw [hbx]
    have q2 := box_later hb1 0
    have q3 := box_later hb1 1
    simp at q2 q3
    exact ⟨q2, q3⟩
  rw [← hw0] at hA
  have HX := Lib.hid hbox
  have Y0 := Lib.hid hA
  have N1 := Lib.hid (h1.below (hA.mono hB))
  have N2 := Lib.hid (h2.below (hA.mono hB))
  have HBB := Lib.hid (Nat.le_trans hB hA.size)
  obtain ⟨a1, c1, rfl⟩ := h1.form
  obtain ⟨a2, c2, rfl⟩ := h2.form
  clear hbox hA h1 h2 hB
  go_enter Tryz.func10, Tryz.ntmps10
  go_upto_region 1 with fail
  rw [← hbx, ← hw0]
  clear hbx hw0
  obtain ⟨q2, q3⟩ := HX.out w0 (Below.refl _ _)
  go_wp2_with fail
  refine (funcsSize_t HBB.out N1.out).mono ?_
  rintro e w1 ⟨m, rfl, hb⟩
  have K := Lib.hid hb
  clear q2 q3
  obtain ⟨q2, q3⟩ := HX.out w1 hb
  clear hb
  obtain ⟨n, hr⟩ : ∃ r, IntKind.i64.wrap ((1 : Int) + m) = r := ⟨_, rfl⟩
  by_cases hm : n ≤ 1048576
  · go_wp2_with fail
    refine (size_said tw p.body w1 B _ (Nat.le_trans HBB.out K.out.size) (N2.out.below (K.out.mono HBB.out))).mono ?_
    rintro e w2 ⟨m2, rfl, hb⟩
    have K2 := Lib.hid (K.out.trans (hb.mono K.out.size))
    clear hb
    obtain ⟨r, hr2⟩ : ∃ r, IntKind.i64.wrap (n + m2) = r := ⟨_, rfl⟩
    go_wp2_with fail
    go_ret
    exact ⟨_, rfl, Y0.out.trans (K2.out.mono Y0.out.size)⟩
  · have hm2 : (1048576 : Int) < n := by omega
    clear hm
    go_wp2_with fail
    go_ret
    exact ⟨_, rfl, Y0.out.trans (K.out.mono Y0.out.size)⟩
end Go.Proofs.YtmkhfonafcikdaaGreatDoor

/- Trees: twins of nodes. -/
namespace Go.My
open Go.RowKit Go.Nd

/-- The five cells of a node, its kind, its text, its lists as values. -/
structure El where
  kind : Nat
  text : List UInt8
  v1 : Value
  v2 : Value
  v3 : Value
def El.cells (x : El) : List Value := [.int .u8 (x.kind : Int), .string (tx x.text), x.v1, x.v2, x.v3]
def elCells (l : List El) : List Value := l.flatMap El.cells
theorem elCells_cons (x : El) (l : List El) : elCells (x :: l) = .int .u8 (x.kind : Int) :: .string (tx x.text) :: x.v1 :: x.v2 :: x.v3 :: elCells l := by simp [elCells, El.cells]
theorem elCells_length (l : List El) : (elCells l).length = l.length * 5 := by
  induction l with
  | nil => rfl
  | cons x l ih => rw [elCells_cons]; simp only [List.length_cons, ih]; omega
theorem elCells_append (a b : List El) : elCells (a ++ b) = elCells a ++ elCells b := by simp [elCells]

/-- It is this node. -/
structure ElIs (w : World) (S : Nat → Prop) (tw : Bool) (e : El) (x : Nd) : Prop where
  kind : e.kind = x.kind ∧ x.kind < 256
  text : e.text = x.text ∧ x.text.length ≤ 140737488351232
  l : Nodes w S tw e.v1 x.l
  body : Nodes w S tw e.v2 x.body
  els : Nodes w S tw e.v3 x.els
theorem ElIs.frame {w w' : World} {S : Nat → Prop} {tw : Bool} {e : El} {x : Nd} (h : ElIs w S tw e x) (hs : ∀ b, S b → b < w.heap.size → w'.heap[b]? = w.heap[b]?) : ElIs w' S tw e x := ⟨h.kind, h.text, h.l.frame hs, h.body.frame hs, h.els.frame hs⟩
theorem ElIs.mono {w : World} {S T : Nat → Prop} {tw : Bool} {e : El} {x : Nd} (h : ElIs w S tw e x) (hs : ∀ b, b < w.heap.size → S b → T b) : ElIs w T tw e x := ⟨h.kind, h.text, h.l.mono hs, h.body.mono hs, h.els.mono hs⟩

/-- Cells in a row read as nodes. -/
theorem nodesAt_of {w : World} {S : Nat → Prop} {tw : Bool} {b : Nat} (hS : S b) : ∀ (xs : Ns) (els : List El) (off : Nat), els.length = xs.items.length → (∀ j (h : j < els.length) (h' : j < xs.items.length), ElIs w S tw els[j] xs.items[j]) →
    (∀ j u, (elCells els)[j]? = some u → w.cell? ⟨b, off + j, none⟩ = some u) → (tw = true → NodeMark w b (off + els.length * 5)) → NodesAt w S tw (some ⟨b, off, none⟩) xs := by
  intro xs
  induction xs with
  | nil =>
    intro els off hl _ _ hm
    have : els = [] := List.eq_nil_of_length_eq_zero hl
    subst this
    exact .nil _ fun e => ⟨b, off, rfl, hS, by simpa using hm e⟩
  | cons k t l body el r _ _ _ ihr =>
    intro els off hl he hc hm
    rw [Ns.items_cons, List.length_cons] at hl
    obtain ⟨e, els, rfl⟩ : ∃ e q, els = e :: q := by cases els with | nil => simp at hl | cons e q => exact ⟨e, q, rfl⟩
    have h0 := he 0 (by simp) (by simp [Ns.items_cons])
    simp only [List.getElem_cons_zero, Ns.items_cons] at h0
    obtain ⟨a1, c1, f1, r1, n1⟩ := h0.l
    obtain ⟨a2, c2, f2, r2, n2⟩ := h0.body
    obtain ⟨a3, c3, f3, r3, n3⟩ := h0.els
    have q : ∀ j u, j < 5 → (e.cells)[j]? = some u → w.cell? ⟨b, off + j, none⟩ = some u := fun j u hj hu => hc j u (by
      rw [elCells_cons]
      match j, hj with
      | 0, _ => exact hu
      | 1, _ => exact hu
      | 2, _ => exact hu
      | 3, _ => exact hu
      | 4, _ => exact hu)
    have q0 := q 0 _ (by decide) rfl
    rw [Nat.add_zero, h0.kind.1] at q0
    have q1 := q 1 _ (by decide) rfl
    rw [h0.text.1] at q1
    have q2 := q 2 _ (by decide) rfl
    have q3 := q 3 _ (by decide) rfl
    have q4 := q 4 _ (by decide) rfl
    rw [f1] at q2
    rw [f2] at q3
    rw [f3] at q4
    refine .cons hS h0.kind.2 h0.text.2 q0 q1 q2 q3 q4 r1 r2 r3 n1 n2 n3 (ihr els (off + 5) (by simpa using hl) (fun j h h' => ?_) (fun j u hu => ?_) (fun et => ?_))
    · have := he (j + 1) (by simpa using h) (by rw [Ns.items_cons]; simpa using h')
      simpa [Ns.items_cons] using this
    · have := hc (j + 5) u (by rw [elCells_cons]; exact hu)
      rw [show off + 5 + j = off + (j + 5) by omega]; exact this
    · have := hm et
      rw [List.length_cons] at this
      rw [show off + 5 + els.length * 5 = off + (els.length + 1) * 5 by omega]; exact this
end Go.My
namespace Go.Proofs.YtmkhfonafcikdaaGreatDoor
open Go.RowKit Go.My Go.Nd

theorem there_of_row {w : World} {b n : Nat} {cs : Array Value} {ty : TypeId} (h : w.heap[b]? = some (.cells cs ty (0, 0))) (hn : n ≤ cs.size) : w.there b 0 n := fun j hj => by
  rw [Nat.zero_add]
  exact ⟨by rw [cell_of_row w b j _ _ _ h]; simp; omega, frozen_of_row w b j _ _ h⟩

theorem store5 {w : World} {b : Nat} {z0 z1 z2 z3 z4 : Value} {ty : TypeId} (h : w.heap[b]? = some (.cells #[z0, z1, z2, z3, z4] ty (0, 0))) (v0 v1 v2 v3 v4 : Value) :
    (w.cell? ⟨b, 0, none⟩ = some z0 ∧ w.frozen? ⟨b, 0, none⟩ = false) ∧
    ((w.setCell ⟨b, 0, none⟩ v0).cell? ⟨b, 1, none⟩ = some z1 ∧ (w.setCell ⟨b, 0, none⟩ v0).frozen? ⟨b, 1, none⟩ = false) ∧
    (((w.setCell ⟨b, 0, none⟩ v0).setCell ⟨b, 1, none⟩ v1).cell? ⟨b, 2, none⟩ = some z2 ∧ ((w.setCell ⟨b, 0, none⟩ v0).setCell ⟨b, 1, none⟩ v1).frozen? ⟨b, 2, none⟩ = false) ∧
    ((((w.setCell ⟨b, 0, none⟩ v0).setCell ⟨b, 1, none⟩ v1).setCell ⟨b, 2, none⟩ v2).cell? ⟨b, 3, none⟩ = some z3 ∧ (((w.setCell ⟨b, 0, none⟩ v0).setCell ⟨b, 1, none⟩ v1).setCell ⟨b, 2, none⟩ v2).frozen? ⟨b, 3, none⟩ = false) ∧
    (((((w.setCell ⟨b, 0, none⟩ v0).setCell ⟨b, 1, none⟩ v1).setCell ⟨b, 2, none⟩ v2).setCell ⟨b, 3, none⟩ v3).cell? ⟨b, 4, none⟩ = some z4 ∧ ((((w.setCell ⟨b, 0, none⟩ v0).setCell ⟨b, 1, none⟩ v1).setCell ⟨b, 2, none⟩ v2).setCell ⟨b, 3, none⟩ v3).frozen? ⟨b, 4, none⟩ = false) ∧
    (((((w.setCell ⟨b, 0, none⟩ v0).setCell ⟨b, 1, none⟩ v1).setCell ⟨b, 2, none⟩ v2).setCell ⟨b, 3, none⟩ v3).setCell ⟨b, 4, none⟩ v4).heap[b]? = some (.cells #[v0, v1, v2, v3, v4] ty (0, 0)) := by
  have r1 := heap_setCell_same w b 0 _ _ v0 h
  have r2 := heap_setCell_same _ b 1 _ _ v1 r1
  have r3 := heap_setCell_same _ b 2 _ _ v2 r2
  have r4 := heap_setCell_same _ b 3 _ _ v3 r3
  have r5 := heap_setCell_same _ b 4 _ _ v4 r4
  refine ⟨⟨?_, frozen_of_row _ b _ _ _ h⟩, ⟨?_, frozen_of_row _ b _ _ _ r1⟩, ⟨?_, frozen_of_row _ b _ _ _ r2⟩, ⟨?_, frozen_of_row _ b _ _ _ r3⟩, ⟨?_, frozen_of_row _ b _ _ _ r4⟩, ?_⟩
  · rw [cell_of_row _ b _ _ _ _ h]; rfl
  · rw [cell_of_row _ b _ _ _ _ r1]; rfl
  · rw [cell_of_row _ b _ _ _ _ r2]; rfl
  · rw [cell_of_row _ b _ _ _ _ r3]; rfl
  · rw [cell_of_row _ b _ _ _ _ r4]; rfl
  · rw [r5]; rfl

theorem below_set {w0 w : World} {n b : Nat} (h : Below n w0 w) (hb : n ≤ b) (o : Nat) (v : Value) : Below n w0 (w.setCell ⟨b, o, none⟩ v) :=
  ⟨h.os, h.tape, h.output, by rw [show (w.setCell ⟨b, o, none⟩ v).heap.size = w.heap.size by simp]; exact h.size, fun k hk => (Below.heap_setCell w ⟨b, o, none⟩ v k (by simp; omega)).trans (h.block k hk)⟩

theorem range_of_row {w : World} {b : Nat} {cs : List Value} {ty : TypeId} (h : w.heap[b]? = some (.cells cs.toArray ty (0, 0))) : w.rangeAt b 0 cs := fun j v hv => by
  rw [Nat.zero_add, cell_of_row w b j _ _ _ h, ← hv]; simp

theorem nodeElem : Elem Tryz.prog 23 61 5 96 (.agg #[.int .u8 0, .string ⟨#[]⟩, .slice none 0 0, .slice none 0 0, .slice none 0 0]) := Elem.mk' Tryz.underlying23 (by kernel_rfl) rfl (by decide)

/-- What is new reads as the nodes, with marks behind the lists. -/
def Fresh (w w' : World) (v : Value) (x : Ns) : Prop := Nodes w' (fun b => w.heap.size ≤ b) true v x

def TwinSaid (x : Ns) : Prop := ∀ (w : World) (B : Nat) (v : Value), B ≤ w.heap.size → Nodes w (· < B) false v x → ∀ (Q : Ending → World → Prop), (∀ v' w', Below w.heap.size w w' → Fresh w w' v' x → Q (.returned v') w') → Calls Tryz.prog 31 #[v] w Q

theorem Fresh.later {w w1 w2 : World} {v : Value} {x : Ns} (h : Fresh w w1 v x) (hb : Below w1.heap.size w1 w2) : Fresh w w2 v x := Nodes.frame h fun b _ hlt => hb.block b hlt
theorem Fresh.earlier {w w0 w1 : World} {v : Value} {x : Ns} (h : Fresh w w1 v x) (hb : w0.heap.size ≤ w.heap.size) : Fresh w0 w1 v x := Nodes.mono h fun _ _ hS => Nat.le_trans hb hS

theorem fresh_at {w wa wb w3 wz : World} {v : Value} {x : Ns} {c : Nat} (f : Fresh wa wb v x) (hb : Below wb.heap.size wb w3) (ho : ∀ k, k ≠ c → wz.heap[k]? = w3.heap[k]?) (hc : c < wa.heap.size) (hw : w.heap.size ≤ wa.heap.size) : Fresh w wz v x :=
  Nodes.mono (Nodes.frame (f.later hb) fun b hS _ => ho b (by have : wa.heap.size ≤ b := hS; omega)) fun b _ hS => Nat.le_trans hw hS

/-- What is kept through the calls: all that was there, and the place of the result. -/
def Held (w : World) (b : Nat) (w' : World) : Prop := Below w.heap.size w w' ∧ ∃ z0 z1 z2 z3 z4, w'.heap[b]? = some (.cells #[z0, z1, z2, z3, z4] 61 (0, 0))
theorem twin_arm {x : Ns} (hI : TwinSaid x) {w w' : World} {b B : Nat} {v : Value} (hB : B ≤ w.heap.size) (hN : Nodes w (· < B) false v x) {X : Prop} (hS : X ∧ Held w b w') (Q : Ending → World → Prop)
    (h : ∀ v' w'', Below w'.heap.size w' w'' → Fresh w' w'' v' x → Q (.returned v') w'') : Calls Tryz.prog 31 #[v] w' Q :=
  hI w' B v (Nat.le_trans hB hS.2.1.size) (hN.below (hS.2.1.mono hB)) Q h
theorem Held.later {w w' w'' : World} {b : Nat} (h : Held w b w') (hk : Below w'.heap.size w' w'') : Held w b w'' := by
  obtain ⟨h1, z0, z1, z2, z3, z4, h2⟩ := h
  exact ⟨h1.trans (hk.mono h1.size), z0, z1, z2, z3, z4, (hk.block b (Array.getElem?_eq_some_iff.1 h2).1).trans h2⟩
theorem keep5 {w w' w'' : World} {b c : Nat} {u0 u1 u2 u3 u4 : Value}
    (hS : (w'.cell? ⟨b, 0, none⟩ = some u0 ∧ w'.cell? ⟨b, 1, none⟩ = some u1 ∧ w'.cell? ⟨b, 2, none⟩ = some u2 ∧ w'.cell? ⟨b, 3, none⟩ = some u3 ∧ w'.cell? ⟨b, 4, none⟩ = some u4) ∧ Held w c w') (hk : Below w'.heap.size w' w'') :
    (w''.cell? ⟨b, 0, none⟩ = some u0 ∧ w''.cell? ⟨b, 1, none⟩ = some u1 ∧ w''.cell? ⟨b, 2, none⟩ = some u2 ∧ w''.cell? ⟨b, 3, none⟩ = some u3 ∧ w''.cell? ⟨b, 4, none⟩ = some u4) ∧ Held w c w'' := by
  obtain ⟨⟨h0, h1, h2, h3, h4⟩, hb⟩ := hS
  have e : ∀ o, w''.cell? ⟨b, o, none⟩ = w'.cell? ⟨b, o, none⟩ := fun o => World.cell?_of_block (hk.block b (World.block_lt_of_cell? _ _ h0))
  exact ⟨⟨(e _).trans h0, (e _).trans h1, (e _).trans h2, (e _).trans h3, (e _).trans h4⟩, hb.later hk⟩

/-- The result's cells are written: what is kept, and what it is. -/
theorem wrote5 {w w' : World} {b c : Nat} {u0 u1 u2 u3 u4 : Value}
    (hS : (w'.cell? ⟨b, 0, none⟩ = some u0 ∧ w'.cell? ⟨b, 1, none⟩ = some u1 ∧ w'.cell? ⟨b, 2, none⟩ = some u2 ∧ w'.cell? ⟨b, 3, none⟩ = some u3 ∧ w'.cell? ⟨b, 4, none⟩ = some u4) ∧ Held w c w') (hbc : b ≠ c) (hc : w.heap.size ≤ c) (v0 v1 v2 v3 v4 : Value) :
    ∃ z0 z1 z2 z3 z4, ((w'.cell? ⟨c, 0, none⟩ = some z0 ∧ w'.frozen? ⟨c, 0, none⟩ = false) ∧
    ((w'.setCell ⟨c, 0, none⟩ v0).cell? ⟨c, 1, none⟩ = some z1 ∧ (w'.setCell ⟨c, 0, none⟩ v0).frozen? ⟨c, 1, none⟩ = false) ∧
    (((w'.setCell ⟨c, 0, none⟩ v0).setCell ⟨c, 1, none⟩ v1).cell? ⟨c, 2, none⟩ = some z2 ∧ ((w'.setCell ⟨c, 0, none⟩ v0).setCell ⟨c, 1, none⟩ v1).frozen? ⟨c, 2, none⟩ = false) ∧
    ((((w'.setCell ⟨c, 0, none⟩ v0).setCell ⟨c, 1, none⟩ v1).setCell ⟨c, 2, none⟩ v2).cell? ⟨c, 3, none⟩ = some z3 ∧ (((w'.setCell ⟨c, 0, none⟩ v0).setCell ⟨c, 1, none⟩ v1).setCell ⟨c, 2, none⟩ v2).frozen? ⟨c, 3, none⟩ = false) ∧
    (((((w'.setCell ⟨c, 0, none⟩ v0).setCell ⟨c, 1, none⟩ v1).setCell ⟨c, 2, none⟩ v2).setCell ⟨c, 3, none⟩ v3).cell? ⟨c, 4, none⟩ = some z4 ∧ ((((w'.setCell ⟨c, 0, none⟩ v0).setCell ⟨c, 1, none⟩ v1).setCell ⟨c, 2, none⟩ v2).setCell ⟨c, 3, none⟩ v3).frozen? ⟨c, 4, none⟩ = false)) ∧
    (∀ wz, wz = ((((w'.setCell ⟨c, 0, none⟩ v0).setCell ⟨c, 1, none⟩ v1).setCell ⟨c, 2, none⟩ v2).setCell ⟨c, 3, none⟩ v3).setCell ⟨c, 4, none⟩ v4 → wz.heap[c]? = some (.cells #[v0, v1, v2, v3, v4] 61 (0, 0)) ∧ Below w.heap.size w wz ∧ wz.heap.size = w'.heap.size ∧ (∀ k, k ≠ c → wz.heap[k]? = w'.heap[k]?) ∧
      ((wz.cell? ⟨b, 0, none⟩ = some u0 ∧ wz.cell? ⟨b, 1, none⟩ = some u1 ∧ wz.cell? ⟨b, 2, none⟩ = some u2 ∧ wz.cell? ⟨b, 3, none⟩ = some u3 ∧ wz.cell? ⟨b, 4, none⟩ = some u4) ∧ Held w c wz)) := by
  obtain ⟨⟨h0, h1, h2, h3, h4⟩, hb, z0, z1, z2, z3, z4, hr⟩ := hS
  have s5 := store5 hr v0 v1 v2 v3 v4
  refine ⟨z0, z1, z2, z3, z4, ⟨s5.1, s5.2.1, s5.2.2.1, s5.2.2.2.1, s5.2.2.2.2.1⟩, fun wz hw => ?_⟩
  have hrow := s5.2.2.2.2.2
  have hbel := below_set (below_set (below_set (below_set (below_set hb hc 0 v0) hc 1 v1) hc 2 v2) hc 3 v3) hc 4 v4
  have hoth : ∀ k, k ≠ c → (((((w'.setCell ⟨c, 0, none⟩ v0).setCell ⟨c, 1, none⟩ v1).setCell ⟨c, 2, none⟩ v2).setCell ⟨c, 3, none⟩ v3).setCell ⟨c, 4, none⟩ v4).heap[k]? = w'.heap[k]? := fun k hk => by
    rw [Below.heap_setCell _ _ _ k (by simpa using hk), Below.heap_setCell _ _ _ k (by simpa using hk), Below.heap_setCell _ _ _ k (by simpa using hk), Below.heap_setCell _ _ _ k (by simpa using hk), Below.heap_setCell _ _ _ k (by simpa using hk)]
  have hsz : (((((w'.setCell ⟨c, 0, none⟩ v0).setCell ⟨c, 1, none⟩ v1).setCell ⟨c, 2, none⟩ v2).setCell ⟨c, 3, none⟩ v3).setCell ⟨c, 4, none⟩ v4).heap.size = w'.heap.size := by simp
  rw [← hw] at hrow hbel hoth hsz
  have e : ∀ o, wz.cell? ⟨b, o, none⟩ = w'.cell? ⟨b, o, none⟩ := fun o => World.cell?_of_block (hoth b hbc)
  exact ⟨hrow, hbel, hsz, hoth, ⟨(e _).trans h0, (e _).trans h1, (e _).trans h2, (e _).trans h3, (e _).trans h4⟩, hbel, _, _, _, _, _, hrow⟩

set_option maxRecDepth 100000 in
set_option maxHeartbeats 6000000 in
theorem twin_one {B : Nat} {x : Nd} (h1 : TwinSaid x.l) (h2 : TwinSaid x.body) (h3 : TwinSaid x.els) {w : World} {a1 a2 a3 : Option Addr} {c1 c2 c3 : Nat} (hB : B ≤ w.heap.size)
    (n1 : Nodes w (· < B) false (.slice a1 x.l.len c1) x.l) (n2 : Nodes w (· < B) false (.slice a2 x.body.len c2) x.body) (n3 : Nodes w (· < B) false (.slice a3 x.els.len c3) x.els) {Q : Ending → World → Prop}
    (h : ∀ v1 v2 v3 w', Below w.heap.size w w' → Fresh w w' v1 x.l → Fresh w w' v2 x.body → Fresh w w' v3 x.els → Q (.returned (.agg #[.int .u8 (x.kind : Int), .string (tx x.text), v1, v2, v3])) w') :
    Calls Tryz.prog 97 #[.agg #[.int .u8 (x.kind : Int), .string (tx x.text), .slice a1 x.l.len c1, .slice a2 x.body.len c2, .slice a3 x.els.len c3]] w Q := by
  obtain ⟨kd, tt, xl, xb, xe⟩ := x
  simp only at *
  have H := Lib.hid h
  have H1 := Lib.hid h1
  have H2 := Lib.hid h2
  have H3 := Lib.hid h3
  have HB := Lib.hid hB
  have N1 := Lib.hid n1
  have N2 := Lib.hid n2
  have N3 := Lib.hid n3
  clear h h1 h2 h3 n1 n2 n3 hB
  go_enter Tryz.func97, Tryz.ntmps97
  have hA1 := Below.alloc (Below.refl w.heap.size w) (Nat.le_refl _) (.cells #[.int .u8 (kd : Int), .string (tx tt), .slice a1 xl.len c1, .slice a2 xb.len c2, .slice a3 xe.len c3] 61)
  have hA := Below.alloc hA1 (Nat.le_trans (Nat.le_refl _) hA1.size) (.cells #[.int .u8 0, .string ⟨#[]⟩, .slice none 0 0, .slice none 0 0, .slice none 0 0] 61)
  obtain ⟨bx, hbx⟩ : ∃ bx, bx = w.heap.size := ⟨_, rfl⟩
  obtain ⟨w0, hw0⟩ : ∃ w0, w0 = (w.alloc (.cells #[.int .u8 (kd : Int), .string (tx tt), .slice a1 xl.len c1, .slice a2 xb.len c2, .slice a3 xe.len c3] 61)).alloc (.cells #[.int .u8 0, .string ⟨#[]⟩, .slice none 0 0, .slice none 0 0, .slice none 0 0] 61) := ⟨_, rfl⟩
  have hr0 : w0.heap[bx]? = some (.cells #[.int .u8 (kd : Int), .string (tx tt), .slice a1 xl.len c1, .slice a2 xb.len c2, .slice a3 xe.len c3] 61 (0, 0)) := by
    rw [hw0, hbx, Below.heap_alloc _ _ _ (by simp)]; exact heap_alloc_new w _
  have hr1 : w0.heap[bx + 1]? = some (.cells #[.int .u8 0, .string ⟨#[]⟩, .slice none 0 0, .slice none 0 0, .slice none 0 0] 61 (0, 0)) := by
    have := heap_alloc_new (w.alloc (.cells #[.int .u8 (kd : Int), .string (tx tt), .slice a1 xl.len c1, .slice a2 xb.len c2, .slice a3 xe.len c3] 61)) (.cells #[.int .u8 0, .string ⟨#[]⟩, .slice none 0 0, .slice none 0 0, .slice none 0 0] 61)
    rw [hw0, hbx]; simpa using this
  have hrow : ∀ w1, Below w0.heap.size w0 w1 → w1.heap[bx]? = _ ∧ w1.heap[bx + 1]? = _ := fun w1 hb => ⟨(hb.block _ (Array.getElem?_eq_some_iff.1 hr0).1).trans hr0, (hb.block _ (Array.getElem?_eq_some_iff.1 hr1).1).trans hr1⟩
  have hbox : ∀ w1, Below w0.heap.size w0 w1 → w1.cell? ⟨bx, 0, none⟩ = some (.int .u8 (kd : Int)) ∧ w1.cell? ⟨bx, 1, none⟩ = some (.string (tx tt)) ∧ w1.cell? ⟨bx, 2, none⟩ = some (.slice a1 xl.len c1) ∧ w1.cell? ⟨bx, 3, none⟩ = some (.slice a2 xb.len c2) ∧ w1.cell? ⟨bx, 4, none⟩ = some (.slice a3 xe.len c3) := fun w1 hb =>
    ⟨cell_of_row w1 bx 0 _ _ _ (hrow w1 hb).1, cell_of_row w1 bx 1 _ _ _ (hrow w1 hb).1, cell_of_row w1 bx 2 _ _ _ (hrow w1 hb).1, cell_of_row w1 bx 3 _ _ _ (hrow w1 hb).1, cell_of_row w1 bx 4 _ _ _ (hrow w1 hb).1⟩
  have hres : ∀ w1, Below w0.heap.size w0 w1 → w1.heap[bx + 1]? = some (.cells #[.int .u8 0, .string ⟨#[]⟩, .slice none 0 0, .slice none 0 0, .slice none 0 0] 61 (0, 0)) := fun w1 hb => (hrow w1 hb).2
  rw [← hw0] at hA
  have HX := Lib.hid hbox
  have HR := Lib.hid hres
  have Y0 := Lib.hid hA
  have M1 := Lib.hid (N1.out.below (hA.mono HB.out))
  have M2 := Lib.hid (N2.out.below (hA.mono HB.out))
  have M3 := Lib.hid (N3.out.below (hA.mono HB.out))
  have HB0 := Lib.hid (Nat.le_trans HB.out hA.size)
  clear hA1 hA hr0 hr1 hrow hbox hres
  go_upto_region 1 with fail
  rw [← hbx, ← hw0]
  have hbw : w.heap.size ≤ bx + 1 := by omega
  clear hbx hw0
  obtain ⟨q0, q1, q2, q3, q4⟩ := HX.out w0.drew (Below.refl _ _).drew
  have hH0 : Held w (bx + 1) w0.drew := ⟨Y0.out.drew, _, _, _, _, _, HR.out w0.drew (Below.refl _ _).drew⟩
  have hHS : (w0.drew.cell? ⟨bx, 0, none⟩ = some (.int .u8 (kd : Int)) ∧ w0.drew.cell? ⟨bx, 1, none⟩ = some (.string (tx tt)) ∧ w0.drew.cell? ⟨bx, 2, none⟩ = some (.slice a1 xl.len c1) ∧ w0.drew.cell? ⟨bx, 3, none⟩ = some (.slice a2 xb.len c2) ∧ w0.drew.cell? ⟨bx, 4, none⟩ = some (.slice a3 xe.len c3)) ∧ Held w (bx + 1) w0.drew := ⟨⟨q0, q1, q2, q3, q4⟩, hH0⟩
  clear HX HR M1 M2 M3 HB0 hH0 q0 q1 q2 q3 q4
  go_region_held3 (fun w' => (w'.cell? ⟨bx, 0, none⟩ = some (.int .u8 (kd : Int)) ∧ w'.cell? ⟨bx, 1, none⟩ = some (.string (tx tt)) ∧ w'.cell? ⟨bx, 2, none⟩ = some (.slice a1 xl.len c1) ∧ w'.cell? ⟨bx, 3, none⟩ = some (.slice a2 xb.len c2) ∧ w'.cell? ⟨bx, 4, none⟩ = some (.slice a3 xe.len c3)) ∧ Held w (bx + 1) w')
    (first | assumption | exact keep5 (by assumption) (by assumption))
    (first
      | (go_at_call_of 31 (Value.slice a1 xl.len c1); refine twin_arm H1.out HB.out N1.out (by assumption) _ ?_; intro v1 w1 hb1 f1; obtain ⟨u1, k1, rfl⟩ := Nodes.form f1; have G1 := Lib.hid f1; clear f1)
      | (go_at_call_of 31 (Value.slice a2 xb.len c2); refine twin_arm H2.out HB.out N2.out (by assumption) _ ?_; intro v2 w2 hb2 f2; obtain ⟨u2, k2, rfl⟩ := Nodes.form f2; have G2 := Lib.hid (And.intro f2 hb2); clear f2)
      | (go_at_call_of 31 (Value.slice a3 xe.len c3); refine twin_arm H3.out HB.out N3.out (by assumption) _ ?_; intro v3 w3 hb3 f3; obtain ⟨u3, k3, rfl⟩ := Nodes.form f3; have G3 := Lib.hid (And.intro f3 hb3); clear f3; have hS3 := keep5 (w := w) (c := bx + 1) (u0 := .int .u8 (kd : Int)) (u1 := .string (tx tt)) (u2 := .slice a1 xl.len c1) (u3 := .slice a2 xb.len c2) (u4 := .slice a3 xe.len c3) (by assumption) hb3; have hst := wrote5 hS3 (Nat.ne_of_lt (Nat.lt_succ_self bx)) hbw (.int .u8 (kd : Int)) (.string (tx tt)) (.slice u1 xl.len k1) (.slice u2 xb.len k2) (.slice u3 xe.len k3); obtain ⟨z0, z1, z2, z3, z4, ⟨⟨p0, p0'⟩, ⟨p1, p1'⟩, ⟨p2, p2'⟩, ⟨p3, p3'⟩, ⟨p4, p4'⟩⟩, hz⟩ := hst; have HZ := Lib.hid hz; have hSF := (hz _ rfl).2.2.2.2; clear hz))
  all_goals
    generalize hwz : ((((w3.setCell ⟨bx + 1, 0, none⟩ (.int .u8 (kd : Int))).setCell ⟨bx + 1, 1, none⟩ (.string (tx tt))).setCell ⟨bx + 1, 2, none⟩ (.slice u1 xl.len k1)).setCell ⟨bx + 1, 3, none⟩ (.slice u2 xb.len k2)).setCell ⟨bx + 1, 4, none⟩ (.slice u3 xe.len k3) = wz at *
    have hZ := HZ.out wz rfl
    obtain ⟨_, _, _, _, _, hrw⟩ := hHS.2.2
    have s0 : bx + 1 < w0.drew.heap.size := (Array.getElem?_eq_some_iff.1 hrw).1
    have s1 := hHS.2.1.size
    have s2 := hb1.size
    have s3 := hb2.size
    have c0 : wz.cell? ⟨bx + 1, 0, none⟩ = some (.int .u8 (kd : Int)) := (cell_of_row wz (bx + 1) 0 _ _ _ hZ.1).trans rfl
    have c1 : wz.cell? ⟨bx + 1, 1, none⟩ = some (.string (tx tt)) := (cell_of_row wz (bx + 1) 1 _ _ _ hZ.1).trans rfl
    have c2 : wz.cell? ⟨bx + 1, 2, none⟩ = some (.slice u1 xl.len k1) := (cell_of_row wz (bx + 1) 2 _ _ _ hZ.1).trans rfl
    have c3 : wz.cell? ⟨bx + 1, 3, none⟩ = some (.slice u2 xb.len k2) := (cell_of_row wz (bx + 1) 3 _ _ _ hZ.1).trans rfl
    have c4 : wz.cell? ⟨bx + 1, 4, none⟩ = some (.slice u3 xe.len k3) := (cell_of_row wz (bx + 1) 4 _ _ _ hZ.1).trans rfl
    have e1 : Fresh w wz (.slice u1 xl.len k1) xl := fresh_at G1.out (hb2.trans (hb3.mono hb2.size)) hZ.2.2.2.1 s0 s1
    have e2 : Fresh w wz (.slice u2 xb.len k2) xb := fresh_at G2.out.1 hb3 hZ.2.2.2.1 (Nat.lt_of_lt_of_le s0 s2) (Nat.le_trans s1 s2)
    have e3 : Fresh w wz (.slice u3 xe.len k3) xe := fresh_at G3.out.1 (Below.refl _ w3) hZ.2.2.2.1 (Nat.lt_of_lt_of_le s0 (Nat.le_trans s2 s3)) (Nat.le_trans s1 (Nat.le_trans s2 s3))
    have HE := Lib.hid (And.intro hZ.2.1 (And.intro e1 (And.intro e2 e3)))
    clear p0 p0' p1 p1' p2 p2' p3 p3' p4 p4' hSF hS3 hwz hZ e1 e2 e3 hrw s0 s1 s2 s3
    go_wp2_with fail
    exact bodyPost_ret (v := .agg #[.int .u8 (kd : Int), .string (tx tt), .slice u1 xl.len k1, .slice u2 xb.len k2, .slice u3 xe.len k3]) (by simp [results, Tryz.results97, go_sem, c0, c1, c2, c3, c4]) rfl (H.out _ _ _ _ HE.out.1 HE.out.2.1 HE.out.2.2.1 HE.out.2.2.2)
end Go.Proofs.YtmkhfonafcikdaaGreatDoor

/- Lists that a book keeps, each in memory of its own: what an append leaves of the shorter list. No program in sight. -/
namespace Go.My
open Go.RowKit

section
variable {P : Program} (w : World)

/-- APPEND, and where the longer list lies: at the old place, or in a new block (then all old blocks are as they were). -/
theorem run_append_at {t e : TypeId} {size bytes : Nat} {z : Value} (E : Elem P t e size bytes z) (ty : TypeId)
    {v : Value} {n : Nat} {xs : List Value} {g : Option Nat} (hown : Own w e size v n xs g) {ad : Addr} {c : Nat} {m : Nat} {news : List Value} (hl : news.length = m * size) (hnews : ∀ j u, news[j]? = some u → w.cell? (ad.add j) = some u) (h1 : ∀ u ∈ news, u.oneCell' = true)
    (h63 : n + m ≤ maxLen) (hbytes : (n + m) * bytes ≤ 140737488355328) (hm : 0 < m) :
    ∃ v' w' g', (Builtin.append_ #[t, t] ty #[v, .slice (some ad) m c]).run P w = .ok v' w' ∧ Own w' e size v' (n + m) (xs ++ news) g' ∧
      ((∃ b off cap, v = .slice (some ⟨b, off, none⟩) n cap ∧ v' = .slice (some ⟨b, off, none⟩) (n + m) cap ∧ g = some b ∧ g' = some b ∧ Step w w' (some b)) ∨
       (Below w.heap.size w w' ∧ ∃ k cap, v' = .slice (some ⟨k, 0, none⟩) (n + m) cap ∧ g' = some k ∧ w.heap.size ≤ k)) := by
  obtain ⟨ht, ⟨i, hi, hz, hsize, hby⟩, hzs, hsz⟩ := E
  subst hsize
  subst hby
  have hsmall : n + m ≤ 9223372036854775807 := by simp only [maxLen] at h63; omega
  have hlen : (xs ++ news).length = (n + m) * i.size := by rw [List.length_append, hown.1, hl, Nat.add_mul]
  have grown : ∀ (old : Nat), old < n + m →
      Own (w.drew.alloc (.cells (xs.toArray ++ news.toArray ++ Builtin.zeroCells z.cells (grownCap w (n + m) old e - (n + m))) e)) e i.size
        (.slice (some ⟨w.heap.size, 0, none⟩) (n + m) (grownCap w (n + m) old e)) (n + m) (xs ++ news) (some w.heap.size) ∧
      Below w.heap.size w (w.drew.alloc (.cells (xs.toArray ++ news.toArray ++ Builtin.zeroCells z.cells (grownCap w (n + m) old e - (n + m))) e)) := by
    intro old ho
    have hge := grownCap_ge w (n + m) old e
    have hcm : grownCap w (n + m) old e ≤ maxLen := grownCap_le_maxLen w (n + m) old e h63
    refine ⟨⟨hlen, .inr ⟨w.heap.size, 0, _, _, rfl, rfl, heap_alloc_new w.drew _, hge, hcm, ?_, ?_⟩⟩, ⟨rfl, rfl, rfl, by simp, fun k hk => Below.heap_alloc w.drew _ k hk⟩⟩
    · simp only [Array.size_append, List.size_toArray, size_zeroCells, hzs, hown.1, hl, ← Nat.add_mul, Nat.zero_add]
      apply Nat.mul_le_mul_right
      omega
    · simp only [Array.toList_append, List.append_assoc, List.drop_zero]
      rw [← List.append_assoc, ← hlen]
      exact List.take_left
  rcases hown.2 with ⟨rfl, rfl, rfl⟩ | ⟨b, off, cap, cur, rfl, rfl, hh, h3, h4, h5, h6⟩
  · have hxs : xs = [] := List.eq_nil_of_length_eq_zero (by simpa using hown.1)
    subst hxs
    have hr := run_append_nil (P := P) w t ty e i z ht hi hz ad m c news hl hnews (by omega) (by omega) (by have hb := hbytes; simp only [Nat.zero_add] at hb; omega)
    have hgr := grown 0 (by omega)
    simp only [Nat.zero_add, List.nil_append, Array.empty_append] at hgr ⊢
    exact ⟨_, _, _, hr, hgr.1, .inr ⟨hgr.2, _, _, rfl, rfl, Nat.le_refl _⟩⟩
  · by_cases hroom : n + m ≤ cap
    · have hfit : off + n * i.size + news.length ≤ cur.size := by
        have := Nat.mul_le_mul_right i.size hroom
        rw [hl]; rw [Nat.add_mul] at this; omega
      have hf := run_firstCells_some (P := P) w i.size m ad m c news hl hnews
      have hst := run_storeCells_at P b (off + n * i.size) e news 0 cur w hh (by simpa using hfit) h1
      simp only [Nat.add_zero] at hst
      have hr : (Builtin.append_ #[t, t] ty #[.slice (some ⟨b, off, none⟩) n cap, .slice (some ad) m c]).run P w =
          .ok (.slice (some ⟨b, off, none⟩) (n + m) cap) (w.setRow b (cur.toList.take (off + n * i.size) ++ news ++ cur.toList.drop (off + n * i.size + news.length)).toArray) := by
        simp [Builtin.append_, run_underlying ht, sizeOf, typeInfo, hi, Builtin.lenOf, hroom, hf, Addr.add_lit, hst]
      refine ⟨_, _, some b, hr, ⟨hlen, .inr ⟨b, off, cap, _, rfl, rfl, setRow_heap w b cur _ e _ hh, hroom, h4, ?_, ?_⟩⟩,
        .inl ⟨b, off, cap, rfl, rfl, rfl, rfl, rfl, rfl, rfl, by simp, fun k _ hk => setRow_other w b k _ (fun e => hk (by simp [e]))⟩⟩
      · simp only [List.size_toArray, List.length_append, List.length_take, List.length_drop, Array.length_toList]
        omega
      · have hx1 : xs.length = n * i.size := hown.1
        have hpre : (cur.toList.take (off + n * i.size)).drop off = xs := by
          rw [List.drop_take, ← h6]; congr 1; omega
        have hlo : off ≤ (cur.toList.take (off + n * i.size)).length := by simp; omega
        show List.take ((n + m) * i.size) (List.drop off (cur.toList.take (off + n * i.size) ++ news ++ cur.toList.drop (off + n * i.size + news.length))) = xs ++ news
        rw [List.append_assoc, List.drop_append_of_le_length hlo, hpre, ← List.append_assoc, ← hlen]
        exact List.take_left
    · have holds : ∀ j u, xs[j]? = some u → w.cell? ((⟨b, off, none⟩ : Addr).add j) = some u := by
        intro j u hj
        rw [add_none, cell_of_row w b (off + j) cur e (0, 0) hh, ← hj, ← h6, List.getElem?_take, List.getElem?_drop]
        rw [if_pos (by have := (List.getElem?_eq_some_iff.1 hj).1; rw [hown.1] at this; exact this)]; simp
      have hr := run_append_grow (P := P) w t ty e i z ht hi hz ⟨b, off, none⟩ n cap xs hown.1 holds ad m c news hl hnews (by omega) (by omega) (growslice_fits (by omega) hbytes)
      have hgr := grown cap (by omega)
      exact ⟨_, _, _, hr, hgr.1, .inr ⟨hgr.2, _, _, rfl, rfl, Nat.le_refl _⟩⟩
end

/-- A list v of n elements, and a longer one, u, that began as it: the first reads as xs, the second as xs and more. Both are t's. -/
def Grown (w : World) (g : Tags) (t : Nat) (e : TypeId) (size : Nat) (v : Value) (n : Nat) (xs : List Value) (u : Value) (m : Nat) (more : List Value) : Prop :=
  xs.length = n * size ∧ Owns w g t e size u (n + m) (xs ++ more) ∧
  ∃ ao cap, v = .slice ao n cap ∧ ((ao = none ∧ n = 0) ∨ ∃ b off, ao = some ⟨b, off, none⟩ ∧ g b = t ∧ b < w.heap.size ∧ ∀ j c, xs[j]? = some c → w.cell? ⟨b, off + j, none⟩ = some c) ∧
    (∀ b off c, u = .slice (some ⟨b, off, none⟩) (n + m) c → ao = some ⟨b, off, none⟩ ∨ ∀ o, ao = some o → o.block ≠ b)

theorem Owns.grown {w : World} {g : Tags} {t : Nat} {e : TypeId} {size : Nat} {v : Value} {n : Nat} {xs : List Value} (h : Owns w g t e size v n xs) : Grown w g t e size v n xs v 0 [] := by
  obtain ⟨k, ho, hk⟩ := h
  refine ⟨ho.1, ⟨k, by simpa using ho, hk⟩, ?_⟩
  rcases ho.2 with ⟨rfl, rfl, _⟩ | ⟨b, off, cap, cur, rfl, hg, hh, h3, h4, h5, h6⟩
  · exact ⟨none, 0, rfl, .inl ⟨rfl, rfl⟩, fun b off c hu => by cases hu⟩
  · refine ⟨_, cap, rfl, .inr ⟨b, off, rfl, hk b hg, (Array.getElem?_eq_some_iff.1 hh).1, fun j c hj => ?_⟩, fun b' off' c hu => by cases hu; exact .inl rfl⟩
    rw [cell_of_row w b (off + j) cur e (0, 0) hh, ← hj, ← h6, List.getElem?_take, List.getElem?_drop]
    rw [if_pos (by have := (List.getElem?_eq_some_iff.1 hj).1; rw [ho.1] at this; exact this)]; simp

/-- The shorter one reads as it did. -/
theorem Grown.cell {w : World} {g : Tags} {t : Nat} {e : TypeId} {size : Nat} {v : Value} {n : Nat} {xs : List Value} {u : Value} {m : Nat} {more : List Value} (h : Grown w g t e size v n xs u m more) (hn : 0 < n) :
    ∃ b off cap, v = .slice (some ⟨b, off, none⟩) n cap ∧ ∀ j c, xs[j]? = some c → w.cell? ⟨b, off + j, none⟩ = some c := by
  obtain ⟨_, _, ao, cap, hv, hc, _⟩ := h
  rcases hc with ⟨_, h0⟩ | ⟨b, off, rfl, _, _, hcell⟩
  · omega
  · exact ⟨b, off, cap, hv, hcell⟩

theorem Grown.turn {w w' : World} {g g' : Tags} {T : List Nat} {t : Nat} {e : TypeId} {size : Nat} {v : Value} {n : Nat} {xs : List Value} {u : Value} {m : Nat} {more : List Value} (h : Grown w g t e size v n xs u m more) (k : Turn w g w' g' T) (ht : t ∉ T) : Grown w' g' t e size v n xs u m more := by
  obtain ⟨hl, ho, ao, cap, hv, hc, hu⟩ := h
  refine ⟨hl, ho.turn k ht, ao, cap, hv, ?_, hu⟩
  rcases hc with h0 | ⟨b, off, ha, hg, hb, hcell⟩
  · exact .inl h0
  refine .inr ⟨b, off, ha, (k.old b hb).trans hg, Nat.lt_of_lt_of_le hb k.size, fun j c hj => ?_⟩
  exact (World.cell?_of_block (k.block b hb (by rw [hg]; exact ht))).trans (hcell j c hj)

section
variable {P : Program} (w : World)
/-- ONE MORE BEHIND THE LONGER ONE, FOR THE WALK. -/
theorem wpList_append_grown {ops : Array Oper} {rest : List Oper} {o : Oper} {a : Act} {Q : Exit → Act → World → Prop} (hgd : o.guard = none) (s x : Operand) {t e : TypeId}
    (ho : o.op = .call { callee := .builtin .append, args := #[s, x], argTypes := #[t, t] }) {size bytes : Nat} {z : Value} (E : Elem P t e size bytes z)
    {v u : Value} {n m : Nat} {xs more : List Value} {g : Tags} {tg : Nat} (hs : a.eval s = u) (hG : Grown w g tg e size v n xs u m more) {y : Value} {ad : Addr} {c : Nat} {news : List Value} (hy : a.eval x = y) (hyy : y = .slice (some ad) 1 c) (hl : news.length = size) (hnews : ∀ j q, news[j]? = some q → w.cell? (ad.add j) = some q) (h1 : ∀ q ∈ news, q.oneCell' = true)
    (h63 : n + m + 1 ≤ maxLen) (hbytes : (n + m + 1) * bytes ≤ 140737488355328)
    (h : ∀ ao cap w' g', Grown w' g' tg e size v n xs (.slice ao (n + (m + 1)) cap) (m + 1) (more ++ news) → Turn w g w' g' [tg] → wpList P ops Q rest (a.put o.dst (.slice ao (n + (m + 1)) cap)) w') : wpList P ops Q (o :: rest) a w := by
  obtain ⟨hxl, ⟨k, hown, hk⟩, ao, cap, hv, hcell, hap⟩ := hG
  subst hyy
  obtain ⟨v', w', g', hr, hown', hor⟩ := run_append_at w E o.type hown (m := 1) (c := c) (by omega) hnews h1 h63 hbytes (by decide)
  refine wpList_plain hgd fun _ hK => ?_
  unfold Oper.wp execOp
  simp only [ho, resolve, invoke, builtin, Sem.run_bind, Sem.run_pure, Result.andThen_ok, List.map_toArray, List.map_cons, List.map_nil, hs, hy, hr]
  refine hK _ _ ?_
  rw [List.append_assoc] at hown'
  rcases hor with ⟨b, off, cp, hu, hv', hkb, hkb', hst⟩ | ⟨hb, k', cp, hv', hk', hge⟩
  · subst hv'
    have hT := Turn.of_step hst g tg (fun q e => by cases e; exact hk b hkb)
    refine h _ _ w' _ ⟨hxl, ⟨g', hown', fun q hq => ?_⟩, ao, cap, hv, ?_, fun b2 off2 c2 h2 => ?_⟩ hT
    · rw [hkb'] at hq; cases hq
      rw [Tags.ext_old _ _ _ _ (hown.lt b hkb)]; exact hk b hkb
    · rcases hcell with h0 | ⟨b3, off3, ha3, hg3, hlt3, hc3⟩
      · exact .inl h0
      refine .inr ⟨b3, off3, ha3, by rw [Tags.ext_old _ _ _ _ hlt3]; exact hg3, Nat.lt_of_lt_of_le hlt3 hst.size, fun j q hj => ?_⟩
      rcases hap b off cp (by rw [hu]) with h4 | h4
      · rw [ha3] at h4; cases h4
        rcases hown'.2 with ⟨e1, _⟩ | ⟨b5, off5, cap5, cur5, e5, _, hh5, h35, h45, h55, h65⟩
        · cases e1
        · cases e5
          have hj2 := (List.getElem?_eq_some_iff.1 hj).1
          rw [cell_of_row w' b (off + j) cur5 e (0, 0) hh5]
          have h7 : (xs ++ (more ++ news))[j]? = some q := by rw [List.getElem?_append_left hj2]; exact hj
          rw [← h65, List.getElem?_take] at h7
          split at h7
          · rw [List.getElem?_drop, Array.getElem?_toList] at h7; exact h7
          · cases h7
      · have hne : b3 ≠ b := h4 _ ha3
        exact (hst.cell (a := ⟨b3, off3 + j, none⟩) hlt3 (fun e => hne (by cases e; rfl))).trans (hc3 j q hj)
    · cases h2
      rcases hap b off cp (by rw [hu]) with h4 | h4
      · exact .inl h4
      · exact .inr h4
  · subst hv'
    have hT := (Turn.of_below hb g tg)
    refine h _ _ w' _ ⟨hxl, ⟨g', hown', fun q hq => ?_⟩, ao, cap, hv, ?_, fun b2 off2 c2 h2 => ?_⟩ (hT.mono (by simp))
    · rw [hk'] at hq; cases hq
      exact Tags.ext_new _ _ _ _ hge
    · rcases hcell with h0 | ⟨b3, off3, ha3, hg3, hlt3, hc3⟩
      · exact .inl h0
      refine .inr ⟨b3, off3, ha3, by rw [Tags.ext_old _ _ _ _ hlt3]; exact hg3, Nat.lt_of_lt_of_le hlt3 hb.size, fun j q hj => ?_⟩
      exact (World.cell?_of_block (hb.block b3 hlt3)).trans (hc3 j q hj)
    · cases h2
      rcases hcell with ⟨h0, _⟩ | ⟨b3, off3, ha3, hg3, hlt3, hc3⟩
      · exact .inr fun q hq => by rw [h0] at hq; cases hq
      · refine .inr fun q hq => ?_
        rw [ha3] at hq; cases hq
        show b3 ≠ k'
        omega
end

theorem oneCell_set {w : World} {b o : Nat} {cur : Array Value} {e : TypeId} (u : Value) (h : w.heap[b]? = some (.cells cur e (0, 0))) : (w.setCell ⟨b, o, none⟩ u).heap[b]? = some (.cells (cur.setIfInBounds o u) e (0, 0)) := heap_setCell_same w b o _ _ u h

theorem drop_set_take (l : List Value) (off j n : Nat) (u : Value) (hj : j < n) (_ : off + n ≤ l.length) : ((l.set (off + j) u).drop off).take n = ((l.drop off).take n).set j u := by
  apply List.ext_getElem
  · simp
  · intro i h1 h2
    simp only [List.getElem_take, List.getElem_drop, List.getElem_set]
    by_cases hij : i = j
    · subst hij; simp
    · rw [if_neg (by omega), if_neg (by omega)]

/-- A cell of a list that the call owns. -/
theorem Owns.cell {w : World} {g : Tags} {t : Nat} {e : TypeId} {size : Nat} {v : Value} {n : Nat} {xs : List Value} (h : Owns w g t e size v n xs) (hn : 0 < n) :
    ∃ b off cap, v = .slice (some ⟨b, off, none⟩) n cap ∧ g b = t ∧ n ≤ cap ∧ cap ≤ maxLen ∧ b < w.heap.size ∧ ∀ j, j < n * size → w.cell? ⟨b, off + j, none⟩ = xs[j]? ∧ w.frozen? ⟨b, off + j, none⟩ = false := by
  obtain ⟨k, ho, hk⟩ := h
  rcases ho.2 with ⟨_, rfl, _⟩ | ⟨b, off, cap, cur, rfl, hg, hh, h3, h4, h5, h6⟩
  · exact absurd hn (Nat.lt_irrefl _)
  · refine ⟨b, off, cap, rfl, hk b hg, h3, h4, (Array.getElem?_eq_some_iff.1 hh).1, fun j hj => ⟨?_, frozen_of_row w b (off + j) _ _ hh⟩⟩
    rw [cell_of_row w b (off + j) cur e (0, 0) hh, ← h6, List.getElem?_take, if_pos hj, List.getElem?_drop, Array.getElem?_toList]

/-- A STORE INTO IT. -/
theorem Owns.set {w : World} {g : Tags} {t : Nat} {e : TypeId} {size b off n cap : Nat} {xs : List Value} (h : Owns w g t e size (.slice (some ⟨b, off, none⟩) n cap) n xs) (j : Nat) (hj : j < n * size) (u : Value) :
    Owns (w.setCell ⟨b, off + j, none⟩ u) g t e size (.slice (some ⟨b, off, none⟩) n cap) n (xs.set j u) ∧ Turn w g (w.setCell ⟨b, off + j, none⟩ u) g [t] := by
  obtain ⟨k, ho, hk⟩ := h
  rcases ho.2 with ⟨hv, _⟩ | ⟨b', off', cap', cur, hv, hg, hh, h3, h4, h5, h6⟩
  · cases hv
  · cases hv
    have hb : g b = t := hk b hg
    refine ⟨⟨k, ⟨by rw [List.length_set]; exact ho.1, .inr ⟨b, off, cap, _, rfl, hg, oneCell_set u hh, h3, h4, by simpa using h5, ?_⟩⟩, hk⟩, ?_⟩
    · have h7 : n * size ≤ cap * size := Nat.mul_le_mul_right _ h3
      rw [← h6, Array.toList_setIfInBounds]
      exact drop_set_take _ _ _ _ _ hj (by rw [Array.length_toList]; omega)
    · have := Turn.setCell w g ⟨b, off + j, none⟩ u (by simp) rfl rfl rfl
      rw [hb] at this; exact this

/-- Many are not one of many. -/
theorem not_mem_upto (t m k : Nat) (h : t < k ∨ k + m ≤ t) : t ∉ (List.range m).map (k + ·) := by
  intro hm
  obtain ⟨j, hj, he⟩ := List.mem_map.1 hm
  have := List.mem_range.1 hj
  omega

/-- A block of cells that the call made. -/
def Bx (w : World) (g : Tags) (b : Nat) (ty : TypeId) (t : Nat) (cs : Array Value) : Prop := w.heap[b]? = some (.cells cs ty (0, 0)) ∧ g b = t
theorem Bx.lt {w : World} {g : Tags} {b : Nat} {ty : TypeId} {t : Nat} {cs : Array Value} (h : Bx w g b ty t cs) : b < w.heap.size := (Array.getElem?_eq_some_iff.1 h.1).1
theorem Bx.turn {w w' : World} {g g' : Tags} {T : List Nat} {b : Nat} {ty : TypeId} {t : Nat} {cs : Array Value} (h : Bx w g b ty t cs) (k : Turn w g w' g' T) (ht : t ∉ T) : Bx w' g' b ty t cs :=
  ⟨(k.block b h.lt (by rw [h.2]; exact ht)).trans h.1, (k.old b h.lt).trans h.2⟩
theorem Bx.cell {w : World} {g : Tags} {b : Nat} {ty : TypeId} {t : Nat} {cs : Array Value} (h : Bx w g b ty t cs) (i : Nat) : w.cell? ⟨b, i, none⟩ = cs[i]? ∧ w.frozen? ⟨b, i, none⟩ = false :=
  ⟨cell_of_row w b i _ _ _ h.1, frozen_of_row w b i _ _ h.1⟩
theorem Bx.alloc (w : World) (g : Tags) (ty : TypeId) (t : Nat) (cs : Array Value) : Bx (w.alloc (.cells cs ty)) (g.ext w.heap.size t) w.heap.size ty t cs :=
  ⟨heap_alloc_new w _, Tags.ext_new _ _ _ _ (Nat.le_refl _)⟩
theorem Bx.store {w : World} {g : Tags} {b : Nat} {ty : TypeId} {t : Nat} {cs : Array Value} (h : Bx w g b ty t cs) (i : Nat) (v : Value) :
    Turn w g (w.setCell ⟨b, i, none⟩ v) g [t] ∧ Bx (w.setCell ⟨b, i, none⟩ v) g b ty t (cs.setIfInBounds i v) := by
  refine ⟨?_, heap_setCell_same w b i _ _ v h.1, h.2⟩
  have := Turn.setCell w g ⟨b, i, none⟩ v (by simp) rfl rfl rfl
  rw [h.2] at this; exact this
end Go.My

/- Trees: lists of twins, as they grow. -/
namespace Go.My
open Go.RowKit Go.Nd
section
variable {P : Program}
/-- A shorter piece of what the call owns. -/
theorem Owns.lessN {w : World} {g : Tags} {t : Nat} {e : TypeId} {size b off n m cap : Nat} {xs ys : List Value} (h : Owns w g t e size (.slice (some ⟨b, off, none⟩) (n + m) cap) (n + m) (xs ++ ys)) (hx : xs.length = n * size) : Owns w g t e size (.slice (some ⟨b, off, none⟩) n cap) n xs := by
  obtain ⟨k, ho, hk⟩ := h
  rcases ho.2 with ⟨hv, _⟩ | ⟨b', off', cap', cur, hv, hg, hh, h3, h4, h5, h6⟩
  · cases hv
  · cases hv
    refine ⟨k, ⟨hx, .inr ⟨b, off, cap, cur, rfl, hg, hh, by omega, h4, h5, ?_⟩⟩, hk⟩
    have h7 : ((cur.toList.drop off).take ((n + m) * size)).take (n * size) = (xs ++ ys).take (n * size) := by rw [h6]
    rw [List.take_take, Nat.min_eq_left (Nat.mul_le_mul_right _ (Nat.le_add_right _ _)), ← hx, List.take_left] at h7
    rw [← hx]; exact h7

/-- 'x[:h]', as a fact for the walk, whatever the elements' size. -/
theorem slice_hs {t e : TypeId} {size : Nat} (ht : P.underlying t = some (.slice e)) (h1 : (P.info? e).map (·.size) = some size) (b off n cap j : Nat) (h : Int) (hh : h = j) (hn : j ≤ cap) :
    ∀ wx, (Instr.slice t (.slice (some ⟨b, off, none⟩) n cap) none (some (.int .i64 h)) none).run P wx = .ok (.slice (some ⟨b, off, none⟩) j cap) wx := by
  subst hh
  have he : P.elem t = e := by simp [Program.elem, ht]
  obtain ⟨i, hi, hs⟩ : ∃ i, P.info? e = some i ∧ i.size = size := by
    cases h : P.info? e with
    | none => rw [h] at h1; cases h1
    | some i => rw [h] at h1; exact ⟨i, rfl, by simpa using h1⟩
  intro wx
  rw [run_slice_h wx t _ _ _ (by rw [he]; exact ht) .i64 _ (by omega) (by omega), he]
  simp [sizeOf, typeInfo, hi, sliced, add_none]

/-- A new row, nothing in it yet. -/
theorem owns_madeN (w : World) (g : Tags) (t : Nat) (e : TypeId) (z : Array Value) (m size : Nat) (hm : m ≤ maxLen) : Owns (w.alloc (.cells (madeCells z (m * size)) e)) (g.ext w.heap.size t) t e size (.slice (some ⟨w.heap.size, 0, none⟩) 0 m) 0 [] := by
  refine ⟨some w.heap.size, ⟨by simp, .inr ⟨w.heap.size, 0, m, _, rfl, rfl, heap_alloc_new w _, Nat.zero_le _, hm, ?_, by simp⟩⟩, fun b hb => by cases hb; exact Tags.ext_new _ _ _ _ (Nat.le_refl _)⟩
  rw [size_madeCells]; omega

theorem owns_someN {w : World} {g : Tags} {t : Nat} {e : TypeId} {size n : Nat} {xs : List Value} {ao : Option Addr} {cap : Nat} (h : Owns w g t e size (.slice ao (n + 1) cap) (n + 1) xs) : ∃ b off c, ao = some ⟨b, off, none⟩ ∧ c = cap ∧ n + 1 ≤ c := by
  obtain ⟨b, off, cap', hv, _, h1, _⟩ := Owns.cell h (Nat.succ_pos n)
  cases hv
  exact ⟨b, off, cap, rfl, rfl, h1⟩
/-- MAKE WITH ROOM, NOTHING IN IT YET, FOR THE WALK. -/
theorem wpList_make_t (w : World) {ops : Array Oper} {rest : List Oper} {o : Oper} {a : Act} {Q : Exit → Act → World → Prop} (hgd : o.guard = none) (s s' : Operand) {t e : TypeId}
    (ho : o.op = .makeSlice t s s') {size bytes : Nat} {z : Value} (E : Elem P t e size bytes z) {kl kc : IntKind} {ci : Int} {cn : Nat} (g : Tags) (tg : Nat) (hs : a.eval s = .int kl 0) (hs' : a.eval s' = .int kc ci)
    (hc : ci = (cn : Int)) (hbytes : (bytes : Int) * ci ≤ 281474976710656) (hm : cn ≤ maxLen)
    (h : ∀ b w' g', Owns w' g' tg e size (.slice (some ⟨b, 0, none⟩) 0 cn) 0 [] → Turn w g w' g' [] → wpList P ops Q rest (a.put o.dst (.slice (some ⟨b, 0, none⟩) 0 cn)) w') : wpList P ops Q (o :: rest) a w := by
  subst hc
  have hm' : cn ≤ 9223372036854775807 := by simp only [maxLen] at hm; omega
  refine wpList_make w hgd s s' ho E hs hs' (by omega) (by omega) hbytes (by omega) ?_
  have := h w.heap.size _ _ (owns_madeN w g tg e z.cells cn size hm) (Turn.alloc w g tg _)
  simpa using this
end

/-- The first nodes of a list have twins, in blocks of owner 1. -/
def ElsAre (w : World) (g : Tags) (els : List El) (xs : Ns) : Prop := ∀ j (h : j < els.length) (h' : j < xs.items.length), ElIs w (fun b => g b = 1) true els[j] xs.items[j]

theorem ElIs.turn {w w' : World} {g g' : Tags} {T : List Nat} {e : El} {x : Nd} (h : ElIs w (fun b => g b = 1) true e x) (k : Turn w g w' g' T) (h1 : 1 ∉ T) : ElIs w' (fun b => g' b = 1) true e x :=
  (h.mono (T := fun b => g' b = 1) fun b hb hg => (k.old b hb).trans hg).frame fun b hb hlt => k.keeps h1 b hb hlt
theorem ElsAre.turn {w w' : World} {g g' : Tags} {T : List Nat} {els : List El} {xs : Ns} (h : ElsAre w g els xs) (k : Turn w g w' g' T) (h1 : 1 ∉ T) : ElsAre w' g' els xs := fun j hj hj' => (h j hj hj').turn k h1
theorem ElsAre.snoc {w : World} {g : Tags} {els : List El} {xs : Ns} {e : El} (h : ElsAre w g els xs) (hlt : els.length < xs.items.length) (he : ElIs w (fun b => g b = 1) true e xs.items[els.length]) : ElsAre w g (els ++ [e]) xs := by
  intro j hj hj'
  by_cases hje : j = els.length
  · subst hje; simpa using he
  · have hj2 : j < els.length := by rw [List.length_append, List.length_singleton] at hj; omega
    rw [List.getElem_append_left hj2]; exact h j hj2 hj'

/-- The cells with the mark behind read as the nodes, all in what is new. -/
theorem nodes_made {w w2 : World} {g2 : Tags} {e : TypeId} {b off c n : Nat} {els : List El} {xs : Ns} (hn : n = xs.items.length) (hE : els.length = n) (hS : Since w w2 g2) (hA : ElsAre w2 g2 els xs)
    (hO : Owns w2 g2 2 e 5 (.slice (some ⟨b, off, none⟩) (n + 1) c) (n + 1) (elCells els ++ [.int .u8 0, .string (tx spare), .slice none 0 0, .slice none 0 0, .slice none 0 0])) (hR : n * 96 ≤ 140737488351232) :
    Nodes w2 (fun b => w.heap.size ≤ b) true (.slice (some ⟨b, off, none⟩) n c) xs := by
  have new : ∀ k t, t ≠ 0 → g2 k = t → w.heap.size ≤ k := fun k t ht hk => Nat.le_of_not_lt fun hlt => ht (hk.symm.trans (hS.zero k hlt))
  obtain ⟨b', off', c', hv, hg, h1, h2, _, hc⟩ := hO.cell (Nat.succ_pos n)
  cases hv
  have hb := new b 2 (by decide) hg
  have hlen : (elCells els).length = n * 5 := by rw [elCells_length, hE]
  refine ⟨_, c, by rw [hn]; rfl, ⟨by have : xs.len = n := hn.symm; omega, h2, by have : xs.len = n := hn.symm; omega, fun _ => by have : xs.len = n := hn.symm; omega⟩, ?_⟩
  refine nodesAt_of (S := fun b => w.heap.size ≤ b) hb xs els off (by omega) (fun j h h' => (hA j h h').mono fun k _ hk => new k 1 (by decide) hk) (fun j u hu => ?_) fun _ => ?_
  · have hj : j < n * 5 := by rw [← hlen]; exact (List.getElem?_eq_some_iff.1 hu).1
    rw [(hc j (by omega)).1, List.getElem?_append_left (by omega)]; exact hu
  · have q : ∀ o, o < 5 → w2.cell? ⟨b, off + n * 5 + o, none⟩ = [Value.int .u8 0, .string (tx spare), .slice none 0 0, .slice none 0 0, .slice none 0 0][o]? := fun o ho => by
      have := (hc (n * 5 + o) (by omega)).1
      rw [List.getElem?_append_right (by omega), hlen, Nat.add_sub_cancel_left, ← Nat.add_assoc] at this
      exact this
    rw [hE]
    exact ⟨q 0 (by decide), q 1 (by decide), q 2 (by decide), q 3 (by decide), q 4 (by decide)⟩
end Go.My

/- Trees: twins of lists of nodes. -/
namespace Go.Proofs.YtmkhfonafcikdaaGreatDoor
open Go.RowKit Go.My Go.Nd

def TNAt (w : World) (xs : Ns) (gk : Nat) (v2 v3 : Value) (wr : World) : Prop :=
  ∃ (k : Nat) (a : Option Addr) (c : Nat) (g : Tags) (els : List El), k ≤ xs.items.length ∧ gk = xs.items.length - k ∧ v2 = .slice a k c ∧ v3 = .int .i64 (k : Int) ∧ Since w wr g ∧ Owns wr g 2 61 5 (.slice a k c) k (elCells els) ∧ els.length = k ∧ ElsAre wr g els xs

theorem fresh_tag {w w' : World} {g : Tags} {v : Value} {x : Ns} (f : Fresh w w' v x) : Nodes w' (fun b => g.ext w.heap.size 1 b = 1) true v x := Nodes.mono f fun _ _ hb => Tags.ext_new _ _ _ _ hb

theorem node_one {e : El} : ∀ u ∈ elCells [e], e.v1.oneCell' = true → e.v2.oneCell' = true → e.v3.oneCell' = true → u.oneCell' = true := by
  intro u hu h1 h2 h3
  rw [elCells_cons] at hu
  simp [elCells] at hu
  rcases hu with rfl | rfl | rfl | rfl | rfl
  · rfl
  · rfl
  · exact h1
  · exact h2
  · exact h3

set_option maxRecDepth 100000 in
set_option maxHeartbeats 4000000 in
theorem twin_nodes : ∀ xs, TwinSaid xs := by
  refine Ns.each fun xs ih w B v hB hv Q h => ?_
  obtain ⟨a0, cp, rfl, hr, hcell⟩ := hv.open_
  have H := Lib.hid h
  have HI := Lib.hid ih
  have HC := Lib.hid hcell
  have HB := Lib.hid hB
  have HR := Lib.hid hr
  have l0 : (0 : Int) ≤ (xs.items.length : Int) := by omega
  have l1 : (xs.items.length : Int) * 96 ≤ 140737488351232 := by have := hr.2.2.1; omega
  clear h hv hcell hr hB ih
  go_enter Tryz.func31, Tryz.ntmps31
  go_wp2_with (refine wpList_make_t _ rfl (.const (.int .i64 0)) (.tmp 7) rfl nodeElem (cn := xs.items.length + 1) (fun _ => 0) 2 rfl rfl (by omega) (by omega) (by unfold maxLen; omega) ?_; intro bm w0 g0 O0 T0; have X0 := Lib.hid (And.intro ((Since.start w).turn T0 (by decide)) O0); clear O0 T0)
  go_loopg [3, 4] xs.items.length (fun gk v2 v3 wr => TNAt w xs gk v2 v3 wr)
  case atStart => exact ⟨0, _, _, g0, [], Nat.zero_le _, rfl, rfl, rfl, X0.out.1, X0.out.2, rfl, fun j h _ => absurd h (Nat.not_lt_zero _)⟩
  case round =>
    obtain ⟨k, a, c, g1, els, hk, rfl, rfl, rfl, hS, hO, hE, hA⟩ := hrel
    have k0 : (0 : Int) ≤ (k : Int) := by omega
    have X := Lib.hid (And.intro hS (And.intro hO (And.intro hE hA)))
    clear hS hO hE hA X0
    by_cases hlt : k < xs.items.length
    · have k1 : (k : Int) < (xs.items.length : Int) := by omega
      obtain ⟨b, off, v1, v2, v3, hb1, hS', hN⟩ := HC.out k hlt
      cases hb1
      have hbl := X.out.1.below
      have hM := hN.frame hS' fun j hj _ => hbl.block j (Nat.lt_of_lt_of_le hj HB.out)
      obtain ⟨x, hx⟩ : ∃ x, x = xs.items[k] := ⟨_, rfl⟩
      have hI := HI.out _ (List.getElem_mem hlt)
      rw [← hx] at hM hI
      have d0 := hM.d0
      have d1 := hM.d1
      have d2 := hM.d2
      have d3 := hM.d3
      have d4 := hM.d4
      have M1 := Lib.hid hM.l
      have M2 := Lib.hid hM.body
      have M3 := Lib.hid hM.els
      obtain ⟨z1, y1, rfl⟩ := M1.out.form
      obtain ⟨z2, y2, rfl⟩ := M2.out.form
      obtain ⟨z3, y3, rfl⟩ := M3.out.form
      have HK := Lib.hid (And.intro hlt (And.intro hx (And.intro hI (And.intro hM.kind hM.text))))
      have HBr := Lib.hid (Nat.le_trans HB.out hbl.size)
      clear hN hM hI hx hbl hk hS'
      obtain ⟨kd, tt, xl, xb, xe⟩ := x
      simp only at d0 d1 d2 d3 d4
      go_wp2_with fail
      refine twin_one (x := ⟨kd, tt, xl, xb, xe⟩) HK.out.2.2.1.1 HK.out.2.2.1.2.1 HK.out.2.2.1.2.2 HBr.out M1.out M2.out M3.out fun v1 v2 v3 w1 hb1 f1 f2 f3 => ?_
      obtain ⟨u1, q1, rfl⟩ := Nodes.form f1
      obtain ⟨u2, q2, rfl⟩ := Nodes.form f2
      obtain ⟨u3, q3, rfl⟩ := Nodes.form f3
      have T1 := Turn.of_below hb1 g1 1
      have hel : ElIs w1 (fun b => g1.ext wr.heap.size 1 b = 1) true ⟨kd, tt, .slice u1 xl.len q1, .slice u2 xb.len q2, .slice u3 xe.len q3⟩ ⟨kd, tt, xl, xb, xe⟩ := ⟨⟨rfl, HK.out.2.2.2.1⟩, ⟨rfl, HK.out.2.2.2.2⟩, fresh_tag f1, fresh_tag f2, fresh_tag f3⟩
      have S1 := X.out.1.turn T1 (by decide)
      have O1 := X.out.2.1.turn T1 (by decide)
      have A1 := X.out.2.2.2.turn T1 (by decide)
      generalize g1.ext wr.heap.size 1 = g2 at *
      have T4 := Turn.alloc w1 g2 3 (.cells #[.int .u8 (kd : Int), .string (tx tt), .slice u1 xl.len q1, .slice u2 xb.len q2, .slice u3 xe.len q3] 61)
      have X4 := Lib.hid (And.intro (S1.turn T4 (by decide)) (And.intro (O1.turn T4 (by decide)) (And.intro (A1.turn T4 (by decide)) (hel.turn T4 (by decide)))))
      clear T1 T4 S1 O1 A1 hel f1 f2 f3 hb1 d0 d1 d2 d3 d4
      go_wp2_with (at_builtin; refine wpList_append_t _ rfl (.tmp 15) (.tmp 21) rfl nodeElem (v := .slice a k c) (y := .slice (some ⟨w1.heap.size, 0, none⟩) 1 1) rfl X4.out.2.1 rfl (Src.lit #[.int .u8 (kd : Int), .string (tx tt), .slice u1 xl.len q1, .slice u2 xb.len q2, .slice u3 xe.len q3] 61 rfl rfl) (by simp [Value.oneCell']) (by unfold maxLen; omega) (by omega) ?_; intro a2 c2 w2 g3 O2 T2; have X2 := Lib.hid (And.intro O2 T2); clear O2 T2)
      have e1 : elCells els ++ [.int .u8 (kd : Int), .string (tx tt), .slice u1 xl.len q1, .slice u2 xb.len q2, .slice u3 xe.len q3] = elCells (els ++ [⟨kd, tt, .slice u1 xl.len q1, .slice u2 xb.len q2, .slice u3 xe.len q3⟩]) := by rw [elCells_append, elCells_cons]; rfl
      have hE := X.out.2.2.1
      have X7 := Lib.hid (And.intro (X4.out.1.turn X2.out.2 (by decide)) (And.intro (show Owns w2 g3 2 61 5 (.slice a2 (k + 1) c2) (k + 1) _ from e1 ▸ X2.out.1) ((X4.out.2.2.1.turn X2.out.2 (by decide)).snoc (by rw [hE]; exact HK.out.1) (by subst hE; rw [← HK.out.2.1]; exact X4.out.2.2.2.turn X2.out.2 (by decide)))))
      clear e1 X4 X2
      go_roundg (xs.items.length - (k + 1))
      case measure => have := HK.out.1; omega
      case rel => exact ⟨k + 1, a2, c2, g3, _, HK.out.1, rfl, rfl, by go_num, X7.out.1, X7.out.2.1, by rw [List.length_append, hE]; rfl, X7.out.2.2⟩
    · obtain rfl : k = xs.items.length := by omega
      have T4 := Turn.alloc wr g1 3 (.cells #[.int .u8 0, .string ⟨#[115, 112, 97, 114, 101]⟩, .slice none 0 0, .slice none 0 0, .slice none 0 0] 61)
      have X4 := Lib.hid (And.intro (X.out.1.turn T4 (by decide)) (And.intro (X.out.2.1.turn T4 (by decide)) (X.out.2.2.2.turn T4 (by decide))))
      clear T4 hlt hk
      go_wp2_with (at_builtin; (refine wpList_append_t _ rfl (.tmp 23) (.tmp 25) rfl nodeElem (v := .slice a xs.items.length c) (y := .slice (some ⟨wr.heap.size, 0, none⟩) 1 1) rfl X4.out.2.1 rfl (Src.lit #[.int .u8 0, .string ⟨#[115, 112, 97, 114, 101]⟩, .slice none 0 0, .slice none 0 0, .slice none 0 0] 61 rfl rfl) (by simp [Value.oneCell']) (by unfold maxLen; omega) (by omega) ?_; intro a2 c2 w2 g2 O2 T2; obtain ⟨b3, off3, cap3, hv3, hcc, hcap3⟩ := owns_someN O2; subst hv3; subst hcc; have X2 := Lib.hid (And.intro O2 T2); clear O2 T2; have hsl := slice_hs (P := Tryz.prog) (size := 5) Tryz.underlying23 (by kernel_rfl) b3 off3 (xs.items.length + 1) cap3 xs.items.length (xs.items.length : Int) rfl (by omega)))
      have hS2 := X4.out.1.turn X2.out.2 (by decide)
      exact H.out _ w2 hS2.below (nodes_made rfl X.out.2.2.1 hS2 (X4.out.2.2.turn X2.out.2 (by decide)) X2.out.1 (by omega))
end Go.Proofs.YtmkhfonafcikdaaGreatDoor

/- Programs: twins of lists of texts; whether they are as they were. -/
namespace Go.My
open Go.RowKit Go.Nd
def txc (t : List UInt8) : Value := .string (tx t)
/-- The cells with the mark behind read as the texts. -/
theorem texts_made {w w2 : World} {g2 : Tags} {e : TypeId} {b off c n : Nat} {ts : List (List UInt8)} (hn : n = ts.length) (hS : Since w w2 g2) (hl : ∀ t ∈ ts, t.length ≤ 140737488351232)
    (hO : Owns w2 g2 2 e 1 (.slice (some ⟨b, off, none⟩) (n + 1) c) (n + 1) (ts.map txc ++ [.string (tx spare)])) (hR : n * 16 ≤ 140737488351232) :
    TextsIn w2 (fun b => w.heap.size ≤ b) true (.slice (some ⟨b, off, none⟩) n c) ts := by
  subst hn
  have new : ∀ k t, t ≠ 0 → g2 k = t → w.heap.size ≤ k := fun k t ht hk => Nat.le_of_not_lt fun hlt => ht (hk.symm.trans (hS.zero k hlt))
  obtain ⟨b', off', c', hv, hg, h1, h2, _, hc⟩ := hO.cell (Nat.succ_pos _)
  cases hv
  have hb := new b 2 (by decide) hg
  refine ⟨_, c, rfl, by omega, h2, hR, fun _ => ⟨by omega, b, off, rfl, hb, ?_⟩, fun i hi => ⟨b, off, rfl, hb, ?_, hl _ (List.getElem_mem hi)⟩⟩
  · rw [(hc ts.length (by omega)).1, List.getElem?_append_right (by simp)]; simp
  · rw [(hc i (by omega)).1, List.getElem?_append_left (by simpa using hi)]; simp [hi, txc]
end Go.My
namespace Go.Proofs.YtmkhfonafcikdaaGreatDoor
open Go.RowKit Go.My Go.Nd

theorem strElem : Elem Tryz.prog 32 9 1 16 (.string ⟨#[]⟩) := Elem.mk' Tryz.underlying32 (by kernel_rfl) rfl (by decide)

def FreshT (w w' : World) (v : Value) (ts : List (List UInt8)) : Prop := TextsIn w' (fun b => w.heap.size ≤ b) true v ts
theorem FreshT.later {w w1 w2 : World} {v : Value} {x : List (List UInt8)} (h : FreshT w w1 v x) (hb : Below w1.heap.size w1 w2) : FreshT w w2 v x := TextsIn.frame h fun b _ hlt => hb.block b hlt

def TTAt (w : World) (ts : List (List UInt8)) (gk : Nat) (v2 v3 : Value) (wr : World) : Prop :=
  ∃ (k : Nat) (a : Option Addr) (c : Nat) (g : Tags), k ≤ ts.length ∧ gk = ts.length - k ∧ v2 = .slice a k c ∧ v3 = .int .i64 (k : Int) ∧ Since w wr g ∧ Owns wr g 2 9 1 (.slice a k c) k ((ts.take k).map txc)

set_option maxRecDepth 100000 in
set_option maxHeartbeats 4000000 in
theorem twin_texts {w : World} {B : Nat} {v : Value} {ts : List (List UInt8)} (hB : B ≤ w.heap.size) (hv : TextsIn w (· < B) false v ts) {Q : Ending → World → Prop}
    (h : ∀ v' w', Below w.heap.size w w' → FreshT w w' v' ts → Q (.returned v') w') : Calls Tryz.prog 147 #[v] w Q := by
  obtain ⟨a0, cp, hf, h1, h2, h3, _, h5⟩ := hv
  subst hf
  have H := Lib.hid h
  have HC := Lib.hid h5
  have HB := Lib.hid hB
  have hll : ∀ t ∈ ts, t.length ≤ 140737488351232 := fun t ht => by
    obtain ⟨i, hi, rfl⟩ := List.getElem_of_mem ht
    obtain ⟨_, _, _, _, _, h⟩ := h5 i hi
    exact h
  have HL := Lib.hid hll
  have l0 : (0 : Int) ≤ (ts.length : Int) := by omega
  have l1 : (ts.length : Int) * 16 ≤ 140737488351232 := by omega
  clear h h1 h2 h3 h5 hB hll
  go_enter Tryz.func147, Tryz.ntmps147
  go_wp2_with (refine wpList_make_t _ rfl (.const (.int .i64 0)) (.tmp 7) rfl strElem (cn := ts.length + 1) (fun _ => 0) 2 rfl rfl (by omega) (by omega) (by unfold maxLen; omega) ?_; intro bm w0 g0 O0 T0; have X0 := Lib.hid (And.intro ((Since.start w).turn T0 (by decide)) O0); clear O0 T0)
  go_loopg [3, 4] ts.length (fun gk v2 v3 wr => TTAt w ts gk v2 v3 wr)
  case atStart => exact ⟨0, _, _, g0, Nat.zero_le _, rfl, rfl, rfl, X0.out.1, X0.out.2⟩
  case round =>
    obtain ⟨k, a, c, g1, hk, rfl, rfl, rfl, hS, hO⟩ := hrel
    have k0 : (0 : Int) ≤ (k : Int) := by omega
    have X := Lib.hid (And.intro hS hO)
    clear hO X0
    by_cases hlt : k < ts.length
    · have k1 : (k : Int) < (ts.length : Int) := by omega
      obtain ⟨b, off, rfl, hb, hc, _⟩ := HC.out k hlt
      have c0 : wr.cell? ⟨b, off + k, none⟩ = some (.string (tx ts[k])) := (World.cell?_of_block (hS.below.block b (Nat.lt_of_lt_of_le hb HB.out))).trans hc
      have e1 : ((ts.take (k + 1)).map txc) = (ts.take k).map txc ++ [.string (tx ts[k])] := by
        rw [List.take_succ_eq_append_getElem hlt, List.map_append]; rfl
      generalize ts[k] = y at *
      have T4 := Turn.alloc wr g1 3 (.cells #[.string (tx y)] 9)
      have X4 := Lib.hid (And.intro (X.out.1.turn T4 (by decide)) (And.intro (X.out.2.turn T4 (by decide)) e1))
      have hL := Lib.hid hlt
      clear T4 e1 hc hk hlt hb hS
      go_wp2_with (at_builtin; refine wpList_append_t _ rfl (.tmp 15) (.tmp 20) rfl strElem (v := .slice a k c) (y := .slice (some ⟨wr.heap.size, 0, none⟩) 1 1) rfl X4.out.2.1 rfl (Src.lit #[.string (tx y)] 9 rfl rfl) (by simp [Value.oneCell']) (by unfold maxLen; omega) (by omega) ?_; intro a2 c2 w2 g2 O2 T2; have X2 := Lib.hid (And.intro O2 T2); clear O2 T2)
      have X7 := Lib.hid (And.intro (X4.out.1.turn X2.out.2 (by decide)) (show Owns w2 g2 2 9 1 (.slice a2 (k + 1) c2) (k + 1) ((ts.take (k + 1)).map txc) by rw [X4.out.2.2]; exact X2.out.1))
      clear X4 X2
      go_roundg (ts.length - (k + 1))
      case measure => have := hL.out; omega
      case rel => exact ⟨k + 1, a2, c2, g2, hL.out, rfl, rfl, by go_num, X7.out.1, X7.out.2⟩
    · obtain rfl : k = ts.length := by omega
      have T4 := Turn.alloc wr g1 3 (.cells #[.string (tx spare)] 9)
      have X4 := Lib.hid (And.intro (X.out.1.turn T4 (by decide)) (X.out.2.turn T4 (by decide)))
      clear T4 hlt hk hS
      go_wp2_with (at_builtin; refine wpList_append_t _ rfl (.tmp 22) (.tmp 23) rfl strElem (v := .slice a ts.length c) (y := .slice (some ⟨wr.heap.size, 0, none⟩) 1 1) rfl X4.out.2 rfl (Src.lit #[.string (tx spare)] 9 rfl rfl) (by simp [Value.oneCell']) (by unfold maxLen; omega) (by omega) ?_; intro a2 c2 w2 g2 O2 T2; obtain ⟨b3, off3, cap3, hv3, hcc, hcap3⟩ := owns_someN O2; subst hv3; subst hcc; have X2 := Lib.hid (And.intro O2 T2); clear O2 T2; have hsl := slice_hs (P := Tryz.prog) (size := 1) Tryz.underlying32 (by kernel_rfl) b3 off3 (ts.length + 1) cap3 ts.length (ts.length : Int) rfl (by omega))
      have hO := X2.out.1
      rw [List.take_length] at hO
      have hS2 := X4.out.1.turn X2.out.2 (by decide)
      exact H.out _ w2 hS2.below (texts_made rfl hS2 HL.out hO (by omega))

def LeftAtT (w : World) (n gk : Nat) (v3 : Value) (wr : World) : Prop := ∃ k q : Nat, k ≤ n ∧ gk = n - k ∧ v3 = .int .i64 (k : Int) ∧ wr = w.drewN q

set_option maxHeartbeats 4000000 in
theorem left_texts {w : World} {S : Nat → Prop} {tv v : Value} {ts : List (List UInt8)} (ht : TextsIn w S true tv ts) (hv : TextsIn w S false v ts) :
    Calls Tryz.prog 154 #[tv, v] w fun e w' => e = .returned (.bool true) ∧ Below w.heap.size w w' := by
  obtain ⟨a0, cp, hf, h1, h2, h3, _, h5⟩ := hv
  subst hf
  obtain ⟨ta, ct, hf, t1, t2, t3, t4, t5⟩ := ht
  subst hf
  obtain ⟨hct, bt, ot, rfl, _, hmk⟩ := t4 rfl
  have HC := Lib.hid h5
  have HT := Lib.hid t5
  have l0 : (0 : Int) ≤ (ts.length : Int) := by omega
  have l1 : (ts.length : Int) * 16 ≤ 140737488351232 := by omega
  have l2 : (ts.length : Int) < (ct : Int) := by omega
  have hsl := slice_hs (P := Tryz.prog) (size := 1) Tryz.underlying32 (by kernel_rfl) bt ot ts.length ct (ts.length + 1) ((ts.length : Int) + 1) rfl hct
  clear h1 h2 h3 h5 t1 t2 t3 t4 t5 hct
  go_enter Tryz.func154, Tryz.ntmps154
  go_wp2_with fail
  go_loopg [5] ts.length (fun gk v3 wr => LeftAtT w ts.length gk v3 wr)
  case atStart => exact ⟨0, 0, Nat.zero_le _, rfl, rfl, rfl⟩
  case round =>
    obtain ⟨k, q, hk, rfl, rfl, rfl⟩ := hrel
    have k0 : (0 : Int) ≤ (k : Int) := by omega
    by_cases hlt : k < ts.length
    · have k1 : (k : Int) < (ts.length : Int) := by omega
      obtain ⟨b1, off1, hb, _, c0, _⟩ := HC.out k hlt
      subst hb
      obtain ⟨b2, off2, hb, _, c1, _⟩ := HT.out k hlt
      cases hb
      generalize ts[k] = y at *
      go_wp2_with fail
      go_quiet (fail)
      go_wp2
      go_roundg (ts.length - (k + 1))
      case measure => omega
      case rel => exact ⟨k + 1, q + nq, by omega, rfl, by go_num, rfl⟩
    · obtain rfl : k = ts.length := by omega
      clear hlt hk
      go_wp2_with fail
      go_ret
      exact ⟨by simp [tx, spare], below_drewN' w q⟩
end Go.Proofs.YtmkhfonafcikdaaGreatDoor

/- Programs: functions, as cells of a list. -/
namespace Go.My
open Go.RowKit Go.Nd
structure Fl where
  name : List UInt8
  v1 : Value
  v2 : Value
def Fl.cells (x : Fl) : List Value := [.string (tx x.name), x.v1, x.v2]
def flCells (l : List Fl) : List Value := l.flatMap Fl.cells
theorem flCells_cons (x : Fl) (l : List Fl) : flCells (x :: l) = .string (tx x.name) :: x.v1 :: x.v2 :: flCells l := by simp [flCells, Fl.cells]
theorem flCells_length (l : List Fl) : (flCells l).length = l.length * 3 := by
  induction l with
  | nil => rfl
  | cons x l ih => rw [flCells_cons]; simp only [List.length_cons, ih]; omega
theorem flCells_append (a b : List Fl) : flCells (a ++ b) = flCells a ++ flCells b := by simp [flCells]
theorem flCells_at (l : List Fl) (i : Nat) (hi : i < l.length) : (flCells l)[i * 3]? = some (.string (tx l[i].name)) ∧ (flCells l)[i * 3 + 1]? = some l[i].v1 ∧ (flCells l)[i * 3 + 2]? = some l[i].v2 := by
  induction l generalizing i with
  | nil => exact absurd hi (Nat.not_lt_zero _)
  | cons x l ih =>
    rw [flCells_cons]
    cases i with
    | zero => exact ⟨rfl, rfl, rfl⟩
    | succ i =>
      have := ih i (by simpa using hi)
      rw [show (i + 1) * 3 = i * 3 + 3 by omega]
      exact this

structure FlIs (w : World) (S : Nat → Prop) (tw : Bool) (e : Fl) (f : Nd.Fn) : Prop where
  name : e.name = f.name ∧ f.name.length ≤ 140737488351232
  args : TextsIn w S tw e.v1 f.args
  body : Nodes w S tw e.v2 f.body
end Go.My
namespace Go.Proofs.YtmkhfonafcikdaaGreatDoor
open Go.RowKit Go.My Go.Nd
theorem fnElem : Elem Tryz.prog 22 57 3 64 (.agg #[.string ⟨#[]⟩, .slice none 0 0, .slice none 0 0]) := Elem.mk' Tryz.underlying22 (by kernel_rfl) rfl (by decide)
end Go.Proofs.YtmkhfonafcikdaaGreatDoor

/- Programs: twins of functions. -/
namespace Go.My
open Go.RowKit Go.Nd
def FlsAre (w : World) (g : Tags) (els : List Fl) (fs : List Nd.Fn) : Prop := ∀ j (h : j < els.length) (h' : j < fs.length), FlIs w (fun b => g b = 1) true els[j] fs[j]

theorem FlIs.turn {w w' : World} {g g' : Tags} {T : List Nat} {e : Fl} {f : Nd.Fn} (h : FlIs w (fun b => g b = 1) true e f) (k : Turn w g w' g' T) (h1 : 1 ∉ T) : FlIs w' (fun b => g' b = 1) true e f :=
  have hm : ∀ b, b < w.heap.size → g b = 1 → g' b = 1 := fun b hb hg => (k.old b hb).trans hg
  have hf : ∀ b, g' b = 1 → b < w.heap.size → w'.heap[b]? = w.heap[b]? := fun b hb hlt => k.keeps h1 b hb hlt
  ⟨h.name, (h.args.mono (T := fun b => g' b = 1) hm).frame hf, (h.body.mono (T := fun b => g' b = 1) hm).frame hf⟩
theorem FlsAre.turn {w w' : World} {g g' : Tags} {T : List Nat} {els : List Fl} {xs : List Nd.Fn} (h : FlsAre w g els xs) (k : Turn w g w' g' T) (h1 : 1 ∉ T) : FlsAre w' g' els xs := fun j hj hj' => (h j hj hj').turn k h1
theorem FlsAre.snoc {w : World} {g : Tags} {els : List Fl} {xs : List Nd.Fn} {e : Fl} (h : FlsAre w g els xs) (hlt : els.length < xs.length) (he : FlIs w (fun b => g b = 1) true e xs[els.length]) : FlsAre w g (els ++ [e]) xs := by
  intro j hj hj'
  by_cases hje : j = els.length
  · subst hje; simpa using he
  · have hj2 : j < els.length := by rw [List.length_append, List.length_singleton] at hj; omega
    rw [List.getElem_append_left hj2]; exact h j hj2 hj'

theorem funcs_made {w w2 : World} {g2 : Tags} {e : TypeId} {b off c n : Nat} {els : List Fl} {xs : List Nd.Fn} (hn : n = xs.length) (hE : els.length = n) (hS : Since w w2 g2) (hA : FlsAre w2 g2 els xs)
    (hO : Owns w2 g2 2 e 3 (.slice (some ⟨b, off, none⟩) (n + 1) c) (n + 1) (flCells els ++ [.string (tx spare), .slice none 0 0, .slice none 0 0])) (hR : n * 64 ≤ 140737488351232) :
    FuncsIn w2 (fun b => w.heap.size ≤ b) true (.slice (some ⟨b, off, none⟩) n c) xs := by
  have new : ∀ k t, t ≠ 0 → g2 k = t → w.heap.size ≤ k := fun k t ht hk => Nat.le_of_not_lt fun hlt => ht (hk.symm.trans (hS.zero k hlt))
  obtain ⟨b', off', c', hv, hg, h1, h2, _, hc⟩ := hO.cell (Nat.succ_pos n)
  cases hv
  have hb := new b 2 (by decide) hg
  have hlen : (flCells els).length = n * 3 := by rw [flCells_length, hE]
  have q : ∀ o, o < 3 → w2.cell? ⟨b, off + n * 3 + o, none⟩ = [Value.string (tx spare), .slice none 0 0, .slice none 0 0][o]? := fun o ho => by
    have := (hc (n * 3 + o) (by omega)).1
    rw [List.getElem?_append_right (by omega), hlen, Nat.add_sub_cancel_left, ← Nat.add_assoc] at this
    exact this
  have r : ∀ j u, (flCells els)[j]? = some u → w2.cell? ⟨b, off + j, none⟩ = some u := fun j u hu => by
    have hj : j < n * 3 := by rw [← hlen]; exact (List.getElem?_eq_some_iff.1 hu).1
    rw [(hc j (by omega)).1, List.getElem?_append_left (by omega)]; exact hu
  refine ⟨_, c, by rw [hn], by omega, h2, by omega, fun _ => ⟨by omega, b, off, rfl, hb, ?_⟩, fun i hi => ?_⟩
  · rw [← hn]; exact ⟨q 0 (by decide), q 1 (by decide), q 2 (by decide)⟩
  · have hi' : i < els.length := by omega
    obtain ⟨r0, r1, r2⟩ := flCells_at els i hi'
    have hI := hA i hi' hi
    have d0 := r _ _ r0
    rw [hI.name.1] at d0
    exact ⟨b, off, els[i].v1, els[i].v2, rfl, hb, ⟨hI.name.2, d0, r _ _ r1, r _ _ r2, hI.args.mono fun k _ hk => new k 1 (by decide) hk, hI.body.mono fun k _ hk => new k 1 (by decide) hk⟩⟩
end Go.My
namespace Go.Proofs.YtmkhfonafcikdaaGreatDoor
open Go.RowKit Go.My Go.Nd


theorem FreshT.earlier {w w0 w1 : World} {v : Value} {x : List (List UInt8)} (h : FreshT w w1 v x) (hb : w0.heap.size ≤ w.heap.size) : FreshT w0 w1 v x := TextsIn.mono h fun _ _ hS => Nat.le_trans hb hS
theorem freshT_at {w wa wb w3 wz : World} {v : Value} {x : List (List UInt8)} {c : Nat} (f : FreshT wa wb v x) (hb : Below wb.heap.size wb w3) (ho : ∀ k, k ≠ c → wz.heap[k]? = w3.heap[k]?) (hc : c < wa.heap.size) (hw : w.heap.size ≤ wa.heap.size) : FreshT w wz v x :=
  TextsIn.mono (TextsIn.frame (f.later hb) fun b hS _ => ho b (by have : wa.heap.size ≤ b := hS; omega)) fun b _ hS => Nat.le_trans hw hS

theorem store3 {w : World} {b : Nat} {z0 z1 z2 : Value} {ty : TypeId} (h : w.heap[b]? = some (.cells #[z0, z1, z2] ty (0, 0))) (v0 v1 v2 : Value) :
    (w.cell? ⟨b, 0, none⟩ = some z0 ∧ w.frozen? ⟨b, 0, none⟩ = false) ∧
    ((w.setCell ⟨b, 0, none⟩ v0).cell? ⟨b, 1, none⟩ = some z1 ∧ (w.setCell ⟨b, 0, none⟩ v0).frozen? ⟨b, 1, none⟩ = false) ∧
    (((w.setCell ⟨b, 0, none⟩ v0).setCell ⟨b, 1, none⟩ v1).cell? ⟨b, 2, none⟩ = some z2 ∧ ((w.setCell ⟨b, 0, none⟩ v0).setCell ⟨b, 1, none⟩ v1).frozen? ⟨b, 2, none⟩ = false) ∧
    (((w.setCell ⟨b, 0, none⟩ v0).setCell ⟨b, 1, none⟩ v1).setCell ⟨b, 2, none⟩ v2).heap[b]? = some (.cells #[v0, v1, v2] ty (0, 0)) := by
  have r1 := heap_setCell_same w b 0 _ _ v0 h
  have r2 := heap_setCell_same _ b 1 _ _ v1 r1
  have r3 := heap_setCell_same _ b 2 _ _ v2 r2
  refine ⟨⟨?_, frozen_of_row _ b _ _ _ h⟩, ⟨?_, frozen_of_row _ b _ _ _ r1⟩, ⟨?_, frozen_of_row _ b _ _ _ r2⟩, ?_⟩
  · rw [cell_of_row _ b _ _ _ _ h]; rfl
  · rw [cell_of_row _ b _ _ _ _ r1]; rfl
  · rw [cell_of_row _ b _ _ _ _ r2]; rfl
  · rw [r3]; rfl

def HeldF (w : World) (b : Nat) (w' : World) : Prop := Below w.heap.size w w' ∧ ∃ z0 z1 z2, w'.heap[b]? = some (.cells #[z0, z1, z2] 57 (0, 0))
theorem HeldF.later {w w' w'' : World} {b : Nat} (h : HeldF w b w') (hk : Below w'.heap.size w' w'') : HeldF w b w'' := by
  obtain ⟨h1, z0, z1, z2, h2⟩ := h
  exact ⟨h1.trans (hk.mono h1.size), z0, z1, z2, (hk.block b (Array.getElem?_eq_some_iff.1 h2).1).trans h2⟩
theorem keepF {w w' w'' : World} {b c : Nat} {u0 u1 u2 : Value}
    (hS : (w'.cell? ⟨b, 0, none⟩ = some u0 ∧ w'.cell? ⟨b, 1, none⟩ = some u1 ∧ w'.cell? ⟨b, 2, none⟩ = some u2) ∧ HeldF w c w') (hk : Below w'.heap.size w' w'') :
    (w''.cell? ⟨b, 0, none⟩ = some u0 ∧ w''.cell? ⟨b, 1, none⟩ = some u1 ∧ w''.cell? ⟨b, 2, none⟩ = some u2) ∧ HeldF w c w'' := by
  obtain ⟨⟨h0, h1, h2⟩, hb⟩ := hS
  have e : ∀ o, w''.cell? ⟨b, o, none⟩ = w'.cell? ⟨b, o, none⟩ := fun o => World.cell?_of_block (hk.block b (World.block_lt_of_cell? _ _ h0))
  exact ⟨⟨(e _).trans h0, (e _).trans h1, (e _).trans h2⟩, hb.later hk⟩
theorem wroteF {w w' : World} {b c : Nat} {u0 u1 u2 : Value}
    (hS : (w'.cell? ⟨b, 0, none⟩ = some u0 ∧ w'.cell? ⟨b, 1, none⟩ = some u1 ∧ w'.cell? ⟨b, 2, none⟩ = some u2) ∧ HeldF w c w') (hbc : b ≠ c) (hc : w.heap.size ≤ c) (v0 v1 v2 : Value) :
    ∃ z0 z1 z2, ((w'.cell? ⟨c, 0, none⟩ = some z0 ∧ w'.frozen? ⟨c, 0, none⟩ = false) ∧
    ((w'.setCell ⟨c, 0, none⟩ v0).cell? ⟨c, 1, none⟩ = some z1 ∧ (w'.setCell ⟨c, 0, none⟩ v0).frozen? ⟨c, 1, none⟩ = false) ∧
    (((w'.setCell ⟨c, 0, none⟩ v0).setCell ⟨c, 1, none⟩ v1).cell? ⟨c, 2, none⟩ = some z2 ∧ ((w'.setCell ⟨c, 0, none⟩ v0).setCell ⟨c, 1, none⟩ v1).frozen? ⟨c, 2, none⟩ = false)) ∧
    (∀ wz, wz = ((w'.setCell ⟨c, 0, none⟩ v0).setCell ⟨c, 1, none⟩ v1).setCell ⟨c, 2, none⟩ v2 → wz.heap[c]? = some (.cells #[v0, v1, v2] 57 (0, 0)) ∧ Below w.heap.size w wz ∧ wz.heap.size = w'.heap.size ∧ (∀ k, k ≠ c → wz.heap[k]? = w'.heap[k]?) ∧
      ((wz.cell? ⟨b, 0, none⟩ = some u0 ∧ wz.cell? ⟨b, 1, none⟩ = some u1 ∧ wz.cell? ⟨b, 2, none⟩ = some u2) ∧ HeldF w c wz)) := by
  obtain ⟨⟨h0, h1, h2⟩, hb, z0, z1, z2, hr⟩ := hS
  have s5 := store3 hr v0 v1 v2
  refine ⟨z0, z1, z2, ⟨s5.1, s5.2.1, s5.2.2.1⟩, fun wz hw => ?_⟩
  have hrow := s5.2.2.2
  have hbel := below_set (below_set (below_set hb hc 0 v0) hc 1 v1) hc 2 v2
  have hoth : ∀ k, k ≠ c → (((w'.setCell ⟨c, 0, none⟩ v0).setCell ⟨c, 1, none⟩ v1).setCell ⟨c, 2, none⟩ v2).heap[k]? = w'.heap[k]? := fun k hk => by
    rw [Below.heap_setCell _ _ _ k (by simpa using hk), Below.heap_setCell _ _ _ k (by simpa using hk), Below.heap_setCell _ _ _ k (by simpa using hk)]
  have hsz : (((w'.setCell ⟨c, 0, none⟩ v0).setCell ⟨c, 1, none⟩ v1).setCell ⟨c, 2, none⟩ v2).heap.size = w'.heap.size := by simp
  rw [← hw] at hrow hbel hoth hsz
  have e : ∀ o, wz.cell? ⟨b, o, none⟩ = w'.cell? ⟨b, o, none⟩ := fun o => World.cell?_of_block (hoth b hbc)
  exact ⟨hrow, hbel, hsz, hoth, ⟨(e _).trans h0, (e _).trans h1, (e _).trans h2⟩, hbel, _, _, _, hrow⟩

theorem texts_arm {w w' : World} {b B : Nat} {v : Value} {x : List (List UInt8)} (hB : B ≤ w.heap.size) (hN : TextsIn w (· < B) false v x) {X : Prop} (hS : X ∧ HeldF w b w') (Q : Ending → World → Prop)
    (h : ∀ v' w'', Below w'.heap.size w' w'' → FreshT w' w'' v' x → Q (.returned v') w'') : Calls Tryz.prog 147 #[v] w' Q :=
  twin_texts (Nat.le_trans hB hS.2.1.size) (hN.below (hS.2.1.mono hB)) h
theorem nodes_arm {w w' : World} {b B : Nat} {v : Value} {x : Ns} (hB : B ≤ w.heap.size) (hN : Nodes w (· < B) false v x) {X : Prop} (hS : X ∧ HeldF w b w') (Q : Ending → World → Prop)
    (h : ∀ v' w'', Below w'.heap.size w' w'' → Fresh w' w'' v' x → Q (.returned v') w'') : Calls Tryz.prog 31 #[v] w' Q :=
  twin_nodes x w' B v (Nat.le_trans hB hS.2.1.size) (hN.below (hS.2.1.mono hB)) Q h

set_option maxRecDepth 100000 in
set_option maxHeartbeats 6000000 in
theorem twin_func {B : Nat} {f : Nd.Fn} {w : World} {a1 a2 : Option Addr} {c1 c2 : Nat} (hB : B ≤ w.heap.size)
    (n1 : TextsIn w (· < B) false (.slice a1 f.args.length c1) f.args) (n2 : Nodes w (· < B) false (.slice a2 f.body.len c2) f.body) {Q : Ending → World → Prop}
    (h : ∀ v1 v2 w', Below w.heap.size w w' → FreshT w w' v1 f.args → Fresh w w' v2 f.body → Q (.returned (.agg #[.string (tx f.name), v1, v2])) w') :
    Calls Tryz.prog 96 #[.agg #[.string (tx f.name), .slice a1 f.args.length c1, .slice a2 f.body.len c2]] w Q := by
  obtain ⟨tt, xl, xb⟩ := f
  simp only at *
  have H := Lib.hid h
  have HB := Lib.hid hB
  have N1 := Lib.hid n1
  have N2 := Lib.hid n2
  clear h n1 n2 hB
  go_enter Tryz.func96, Tryz.ntmps96
  have hA1 := Below.alloc (Below.refl w.heap.size w) (Nat.le_refl _) (.cells #[.string (tx tt), .slice a1 xl.length c1, .slice a2 xb.len c2] 57)
  have hA := Below.alloc hA1 (Nat.le_trans (Nat.le_refl _) hA1.size) (.cells #[.string ⟨#[]⟩, .slice none 0 0, .slice none 0 0] 57)
  obtain ⟨bx, hbx⟩ : ∃ bx, bx = w.heap.size := ⟨_, rfl⟩
  obtain ⟨w0, hw0⟩ : ∃ w0, w0 = (w.alloc (.cells #[.string (tx tt), .slice a1 xl.length c1, .slice a2 xb.len c2] 57)).alloc (.cells #[.string ⟨#[]⟩, .slice none 0 0, .slice none 0 0] 57) := ⟨_, rfl⟩
  have hr0 : w0.heap[bx]? = some (.cells #[.string (tx tt), .slice a1 xl.length c1, .slice a2 xb.len c2] 57 (0, 0)) := by
    rw [hw0, hbx, Below.heap_alloc _ _ _ (by simp)]; exact heap_alloc_new w _
  have hr1 : w0.heap[bx + 1]? = some (.cells #[.string ⟨#[]⟩, .slice none 0 0, .slice none 0 0] 57 (0, 0)) := by
    have := heap_alloc_new (w.alloc (.cells #[.string (tx tt), .slice a1 xl.length c1, .slice a2 xb.len c2] 57)) (.cells #[.string ⟨#[]⟩, .slice none 0 0, .slice none 0 0] 57)
    rw [hw0, hbx]; simpa using this
  have hrow : ∀ w1, Below w0.heap.size w0 w1 → w1.heap[bx]? = _ ∧ w1.heap[bx + 1]? = _ := fun w1 hb => ⟨(hb.block _ (Array.getElem?_eq_some_iff.1 hr0).1).trans hr0, (hb.block _ (Array.getElem?_eq_some_iff.1 hr1).1).trans hr1⟩
  have hbox : ∀ w1, Below w0.heap.size w0 w1 → w1.cell? ⟨bx, 0, none⟩ = some (.string (tx tt)) ∧ w1.cell? ⟨bx, 1, none⟩ = some (.slice a1 xl.length c1) ∧ w1.cell? ⟨bx, 2, none⟩ = some (.slice a2 xb.len c2) := fun w1 hb =>
    ⟨cell_of_row w1 bx 0 _ _ _ (hrow w1 hb).1, cell_of_row w1 bx 1 _ _ _ (hrow w1 hb).1, cell_of_row w1 bx 2 _ _ _ (hrow w1 hb).1⟩
  have hres : ∀ w1, Below w0.heap.size w0 w1 → w1.heap[bx + 1]? = some (.cells #[.string ⟨#[]⟩, .slice none 0 0, .slice none 0 0] 57 (0, 0)) := fun w1 hb => (hrow w1 hb).2
  rw [← hw0] at hA
  have HX := Lib.hid hbox
  have HR := Lib.hid hres
  have Y0 := Lib.hid hA
  clear hA1 hA hr0 hr1 hrow hbox hres
  go_upto_region 1 with fail
  rw [← hbx, ← hw0]
  have hbw : w.heap.size ≤ bx + 1 := by omega
  clear hbx hw0
  obtain ⟨q0, q1, q2⟩ := HX.out w0.drew (Below.refl _ _).drew
  have hH0 : HeldF w (bx + 1) w0.drew := ⟨Y0.out.drew, _, _, _, HR.out w0.drew (Below.refl _ _).drew⟩
  have hHS : (w0.drew.cell? ⟨bx, 0, none⟩ = some (.string (tx tt)) ∧ w0.drew.cell? ⟨bx, 1, none⟩ = some (.slice a1 xl.length c1) ∧ w0.drew.cell? ⟨bx, 2, none⟩ = some (.slice a2 xb.len c2)) ∧ HeldF w (bx + 1) w0.drew := ⟨⟨q0, q1, q2⟩, hH0⟩
  clear HX HR hH0 q0 q1 q2
  go_region_held3 (fun w' => (w'.cell? ⟨bx, 0, none⟩ = some (.string (tx tt)) ∧ w'.cell? ⟨bx, 1, none⟩ = some (.slice a1 xl.length c1) ∧ w'.cell? ⟨bx, 2, none⟩ = some (.slice a2 xb.len c2)) ∧ HeldF w (bx + 1) w')
    (first | assumption | exact keepF (by assumption) (by assumption))
    (first
      | (go_at_call_of 147 (Value.slice a1 xl.length c1); refine texts_arm HB.out N1.out (by assumption) _ ?_; intro v1 w1 hb1 f1; obtain ⟨u1, k1, rfl⟩ := TextsIn.form f1; have G1 := Lib.hid f1; clear f1)
      | (go_at_call_of 31 (Value.slice a2 xb.len c2); refine nodes_arm HB.out N2.out (by assumption) _ ?_; intro v2 w2 hb2 f2; obtain ⟨u2, k2, rfl⟩ := Nodes.form f2; have G2 := Lib.hid (And.intro f2 hb2); clear f2; have hS3 := keepF (w := w) (c := bx + 1) (u0 := .string (tx tt)) (u1 := .slice a1 xl.length c1) (u2 := .slice a2 xb.len c2) (by assumption) hb2; have hst := wroteF hS3 (Nat.ne_of_lt (Nat.lt_succ_self bx)) hbw (.string (tx tt)) (.slice u1 xl.length k1) (.slice u2 xb.len k2); obtain ⟨z0, z1, z2, ⟨⟨p0, p0'⟩, ⟨p1, p1'⟩, ⟨p2, p2'⟩⟩, hz⟩ := hst; have HZ := Lib.hid hz; have hSF := (hz _ rfl).2.2.2.2; clear hz))
  all_goals
    generalize hwz : ((w2.setCell ⟨bx + 1, 0, none⟩ (.string (tx tt))).setCell ⟨bx + 1, 1, none⟩ (.slice u1 xl.length k1)).setCell ⟨bx + 1, 2, none⟩ (.slice u2 xb.len k2) = wz at *
    have hZ := HZ.out wz rfl
    obtain ⟨_, _, _, hrw⟩ := hHS.2.2
    have s0 : bx + 1 < w0.drew.heap.size := (Array.getElem?_eq_some_iff.1 hrw).1
    have s1 := hHS.2.1.size
    have s2 := hb1.size
    have c0 : wz.cell? ⟨bx + 1, 0, none⟩ = some (.string (tx tt)) := (cell_of_row wz (bx + 1) 0 _ _ _ hZ.1).trans rfl
    have c1 : wz.cell? ⟨bx + 1, 1, none⟩ = some (.slice u1 xl.length k1) := (cell_of_row wz (bx + 1) 1 _ _ _ hZ.1).trans rfl
    have c2 : wz.cell? ⟨bx + 1, 2, none⟩ = some (.slice u2 xb.len k2) := (cell_of_row wz (bx + 1) 2 _ _ _ hZ.1).trans rfl
    have e1 : FreshT w wz (.slice u1 xl.length k1) xl := freshT_at G1.out hb2 hZ.2.2.2.1 s0 s1
    have e2 : Fresh w wz (.slice u2 xb.len k2) xb := fresh_at G2.out.1 (Below.refl _ w2) hZ.2.2.2.1 (Nat.lt_of_lt_of_le s0 s2) (Nat.le_trans s1 s2)
    have HE := Lib.hid (And.intro hZ.2.1 (And.intro e1 e2))
    clear p0 p0' p1 p1' p2 p2' hSF hS3 hwz hZ e1 e2 hrw s0 s1 s2
    go_wp2_with fail
    exact bodyPost_ret (v := .agg #[.string (tx tt), .slice u1 xl.length k1, .slice u2 xb.len k2]) (by simp [results, Tryz.results96, go_sem, c0, c1, c2]) rfl (H.out _ _ _ HE.out.1 HE.out.2.1 HE.out.2.2)
end Go.Proofs.YtmkhfonafcikdaaGreatDoor

/- Programs: twins of lists of functions, of a program. -/
namespace Go.Proofs.YtmkhfonafcikdaaGreatDoor
open Go.RowKit Go.My Go.Nd

def FreshF (w w' : World) (v : Value) (fs : List Nd.Fn) : Prop := FuncsIn w' (fun b => w.heap.size ≤ b) true v fs
theorem FreshF.later {w w1 w2 : World} {v : Value} {x : List Nd.Fn} (h : FreshF w w1 v x) (hb : Below w1.heap.size w1 w2) : FreshF w w2 v x := FuncsIn.frame h fun b _ hlt => hb.block b hlt
theorem freshF_at {w wa wb w3 wz : World} {v : Value} {x : List Nd.Fn} {c : Nat} (f : FreshF wa wb v x) (hb : Below wb.heap.size wb w3) (ho : ∀ k, k ≠ c → wz.heap[k]? = w3.heap[k]?) (hc : c < wa.heap.size) (hw : w.heap.size ≤ wa.heap.size) : FreshF w wz v x :=
  FuncsIn.mono (FuncsIn.frame (f.later hb) fun b hS _ => ho b (by have : wa.heap.size ≤ b := hS; omega)) fun b _ hS => Nat.le_trans hw hS

def TFAt (w : World) (fs : List Nd.Fn) (gk : Nat) (v2 v3 : Value) (wr : World) : Prop :=
  ∃ (k : Nat) (a : Option Addr) (c : Nat) (g : Tags) (els : List Fl), k ≤ fs.length ∧ gk = fs.length - k ∧ v2 = .slice a k c ∧ v3 = .int .i64 (k : Int) ∧ Since w wr g ∧ Owns wr g 2 57 3 (.slice a k c) k (flCells els) ∧ els.length = k ∧ FlsAre wr g els fs

theorem freshT_tag {w w' : World} {g : Tags} {v : Value} {x : List (List UInt8)} (f : FreshT w w' v x) : TextsIn w' (fun b => g.ext w.heap.size 1 b = 1) true v x := TextsIn.mono f fun _ _ hb => Tags.ext_new _ _ _ _ hb

set_option maxRecDepth 100000 in
set_option maxHeartbeats 4000000 in
theorem twin_funcs {w : World} {B : Nat} {v : Value} {fs : List Nd.Fn} (hB : B ≤ w.heap.size) (hv : FuncsIn w (· < B) false v fs) {Q : Ending → World → Prop}
    (h : ∀ v' w', Below w.heap.size w w' → FreshF w w' v' fs → Q (.returned v') w') : Calls Tryz.prog 30 #[v] w Q := by
  obtain ⟨a0, cp, hf, h1, h2, h3, _, hcell⟩ := hv
  subst hf
  have H := Lib.hid h
  have HC := Lib.hid hcell
  have HB := Lib.hid hB
  have l0 : (0 : Int) ≤ (fs.length : Int) := by omega
  have l1 : (fs.length : Int) * 64 ≤ 140737488351232 := by omega
  clear h hcell h1 h2 h3 hB
  go_enter Tryz.func30, Tryz.ntmps30
  go_wp2_with (refine wpList_make_t _ rfl (.const (.int .i64 0)) (.tmp 7) rfl fnElem (cn := fs.length + 1) (fun _ => 0) 2 rfl rfl (by omega) (by omega) (by unfold maxLen; omega) ?_; intro bm w0 g0 O0 T0; have X0 := Lib.hid (And.intro ((Since.start w).turn T0 (by decide)) O0); clear O0 T0)
  go_loopg [3, 4] fs.length (fun gk v2 v3 wr => TFAt w fs gk v2 v3 wr)
  case atStart => exact ⟨0, _, _, g0, [], Nat.zero_le _, rfl, rfl, rfl, X0.out.1, X0.out.2, rfl, fun j h _ => absurd h (Nat.not_lt_zero _)⟩
  case round =>
    obtain ⟨k, a, c, g1, els, hk, rfl, rfl, rfl, hS, hO, hE, hA⟩ := hrel
    have k0 : (0 : Int) ≤ (k : Int) := by omega
    have X := Lib.hid (And.intro hS (And.intro hO (And.intro hE hA)))
    clear hS hO hE hA X0
    by_cases hlt : k < fs.length
    · have k1 : (k : Int) < (fs.length : Int) := by omega
      obtain ⟨b, off, v1, v2, hb1, hS', hN⟩ := HC.out k hlt
      cases hb1
      have hbl := X.out.1.below
      have hM := hN.frame hS' fun j hj _ => hbl.block j (Nat.lt_of_lt_of_le hj HB.out)
      obtain ⟨x, hx⟩ : ∃ x, x = fs[k] := ⟨_, rfl⟩
      rw [← hx] at hM
      have d0 := hM.d0
      have d1 := hM.d1
      have d2 := hM.d2
      have M1 := Lib.hid hM.args
      have M2 := Lib.hid hM.body
      obtain ⟨z1, y1, rfl⟩ := M1.out.form
      obtain ⟨z2, y2, rfl⟩ := M2.out.form
      have HK := Lib.hid (And.intro hlt (And.intro hx hM.name))
      have HBr := Lib.hid (Nat.le_trans HB.out hbl.size)
      clear hN hM hx hbl hk hS'
      obtain ⟨tt, xl, xb⟩ := x
      simp only at d0 d1 d2
      go_wp2_with fail
      refine twin_func (f := ⟨tt, xl, xb⟩) HBr.out M1.out M2.out fun v1 v2 w1 hb1 f1 f2 => ?_
      obtain ⟨u1, q1, rfl⟩ := TextsIn.form f1
      obtain ⟨u2, q2, rfl⟩ := Nodes.form f2
      have T1 := Turn.of_below hb1 g1 1
      have hel : FlIs w1 (fun b => g1.ext wr.heap.size 1 b = 1) true ⟨tt, .slice u1 xl.length q1, .slice u2 xb.len q2⟩ ⟨tt, xl, xb⟩ := ⟨⟨rfl, HK.out.2.2⟩, freshT_tag f1, fresh_tag f2⟩
      have S1 := X.out.1.turn T1 (by decide)
      have O1 := X.out.2.1.turn T1 (by decide)
      have A1 := X.out.2.2.2.turn T1 (by decide)
      generalize g1.ext wr.heap.size 1 = g2 at *
      have T4 := Turn.alloc w1 g2 3 (.cells #[.string (tx tt), .slice u1 xl.length q1, .slice u2 xb.len q2] 57)
      have X4 := Lib.hid (And.intro (S1.turn T4 (by decide)) (And.intro (O1.turn T4 (by decide)) (And.intro (A1.turn T4 (by decide)) (hel.turn T4 (by decide)))))
      clear T1 T4 S1 O1 A1 hel f1 f2 hb1 d0 d1 d2
      go_wp2_with (at_builtin; refine wpList_append_t _ rfl (.tmp 15) (.tmp 21) rfl fnElem (v := .slice a k c) (y := .slice (some ⟨w1.heap.size, 0, none⟩) 1 1) rfl X4.out.2.1 rfl (Src.lit #[.string (tx tt), .slice u1 xl.length q1, .slice u2 xb.len q2] 57 rfl rfl) (by simp [Value.oneCell']) (by unfold maxLen; omega) (by omega) ?_; intro a2 c2 w2 g3 O2 T2; have X2 := Lib.hid (And.intro O2 T2); clear O2 T2)
      have e1 : flCells els ++ [.string (tx tt), .slice u1 xl.length q1, .slice u2 xb.len q2] = flCells (els ++ [⟨tt, .slice u1 xl.length q1, .slice u2 xb.len q2⟩]) := by rw [flCells_append, flCells_cons]; rfl
      have hE := X.out.2.2.1
      have X7 := Lib.hid (And.intro (X4.out.1.turn X2.out.2 (by decide)) (And.intro (show Owns w2 g3 2 57 3 (.slice a2 (k + 1) c2) (k + 1) _ from e1 ▸ X2.out.1) ((X4.out.2.2.1.turn X2.out.2 (by decide)).snoc (by rw [hE]; exact HK.out.1) (by subst hE; rw [← HK.out.2.1]; exact X4.out.2.2.2.turn X2.out.2 (by decide)))))
      clear e1 X4 X2
      go_roundg (fs.length - (k + 1))
      case measure => have := HK.out.1; omega
      case rel => exact ⟨k + 1, a2, c2, g3, _, HK.out.1, rfl, rfl, by go_num, X7.out.1, X7.out.2.1, by rw [List.length_append, hE]; rfl, X7.out.2.2⟩
    · obtain rfl : k = fs.length := by omega
      have T4 := Turn.alloc wr g1 3 (.cells #[.string ⟨#[115, 112, 97, 114, 101]⟩, .slice none 0 0, .slice none 0 0] 57)
      have X4 := Lib.hid (And.intro (X.out.1.turn T4 (by decide)) (And.intro (X.out.2.1.turn T4 (by decide)) (X.out.2.2.2.turn T4 (by decide))))
      clear T4 hlt hk
      go_wp2_with (at_builtin; refine wpList_append_t _ rfl (.tmp 23) (.tmp 25) rfl fnElem (v := .slice a fs.length c) (y := .slice (some ⟨wr.heap.size, 0, none⟩) 1 1) rfl X4.out.2.1 rfl (Src.lit #[.string ⟨#[115, 112, 97, 114, 101]⟩, .slice none 0 0, .slice none 0 0] 57 rfl rfl) (by simp [Value.oneCell']) (by unfold maxLen; omega) (by omega) ?_; intro a2 c2 w2 g2 O2 T2; obtain ⟨b3, off3, cap3, hv3, hcc, hcap3⟩ := owns_someN O2; subst hv3; subst hcc; have X2 := Lib.hid (And.intro O2 T2); clear O2 T2; have hsl := slice_hs (P := Tryz.prog) (size := 3) Tryz.underlying22 (by kernel_rfl) b3 off3 (fs.length + 1) cap3 fs.length (fs.length : Int) rfl (by omega))
      have hS2 := X4.out.1.turn X2.out.2 (by decide)
      exact H.out _ w2 hS2.below (funcs_made rfl X.out.2.2.1 hS2 (X4.out.2.2.turn X2.out.2 (by decide)) X2.out.1 (by omega))
end Go.Proofs.YtmkhfonafcikdaaGreatDoor

/- Programs: the twin of a program. -/
namespace Go.Proofs.YtmkhfonafcikdaaGreatDoor
open Go.RowKit Go.My Go.Nd

theorem store2 {w : World} {b : Nat} {z0 z1 : Value} {ty : TypeId} (h : w.heap[b]? = some (.cells #[z0, z1] ty (0, 0))) (v0 v1 : Value) :
    (w.cell? ⟨b, 0, none⟩ = some z0 ∧ w.frozen? ⟨b, 0, none⟩ = false) ∧
    ((w.setCell ⟨b, 0, none⟩ v0).cell? ⟨b, 1, none⟩ = some z1 ∧ (w.setCell ⟨b, 0, none⟩ v0).frozen? ⟨b, 1, none⟩ = false) ∧
    ((w.setCell ⟨b, 0, none⟩ v0).setCell ⟨b, 1, none⟩ v1).heap[b]? = some (.cells #[v0, v1] ty (0, 0)) := by
  have r1 := heap_setCell_same w b 0 _ _ v0 h
  have r2 := heap_setCell_same _ b 1 _ _ v1 r1
  refine ⟨⟨?_, frozen_of_row _ b _ _ _ h⟩, ⟨?_, frozen_of_row _ b _ _ _ r1⟩, ?_⟩
  · rw [cell_of_row _ b _ _ _ _ h]; rfl
  · rw [cell_of_row _ b _ _ _ _ r1]; rfl
  · rw [r2]; rfl

def HeldP (w : World) (b : Nat) (w' : World) : Prop := Below w.heap.size w w' ∧ ∃ z0 z1, w'.heap[b]? = some (.cells #[z0, z1] 25 (0, 0))
theorem HeldP.later {w w' w'' : World} {b : Nat} (h : HeldP w b w') (hk : Below w'.heap.size w' w'') : HeldP w b w'' := by
  obtain ⟨h1, z0, z1, h2⟩ := h
  exact ⟨h1.trans (hk.mono h1.size), z0, z1, (hk.block b (Array.getElem?_eq_some_iff.1 h2).1).trans h2⟩
theorem keepP {w w' w'' : World} {b c : Nat} {u0 u1 : Value}
    (hS : (w'.cell? ⟨b, 0, none⟩ = some u0 ∧ w'.cell? ⟨b, 1, none⟩ = some u1) ∧ HeldP w c w') (hk : Below w'.heap.size w' w'') :
    (w''.cell? ⟨b, 0, none⟩ = some u0 ∧ w''.cell? ⟨b, 1, none⟩ = some u1) ∧ HeldP w c w'' := by
  obtain ⟨⟨h0, h1⟩, hb⟩ := hS
  have e : ∀ o, w''.cell? ⟨b, o, none⟩ = w'.cell? ⟨b, o, none⟩ := fun o => World.cell?_of_block (hk.block b (World.block_lt_of_cell? _ _ h0))
  exact ⟨⟨(e _).trans h0, (e _).trans h1⟩, hb.later hk⟩
theorem wroteP {w w' : World} {b c : Nat} {u0 u1 : Value}
    (hS : (w'.cell? ⟨b, 0, none⟩ = some u0 ∧ w'.cell? ⟨b, 1, none⟩ = some u1) ∧ HeldP w c w') (hbc : b ≠ c) (hc : w.heap.size ≤ c) (v0 v1 : Value) :
    ∃ z0 z1, ((w'.cell? ⟨c, 0, none⟩ = some z0 ∧ w'.frozen? ⟨c, 0, none⟩ = false) ∧
    ((w'.setCell ⟨c, 0, none⟩ v0).cell? ⟨c, 1, none⟩ = some z1 ∧ (w'.setCell ⟨c, 0, none⟩ v0).frozen? ⟨c, 1, none⟩ = false)) ∧
    (∀ wz, wz = (w'.setCell ⟨c, 0, none⟩ v0).setCell ⟨c, 1, none⟩ v1 → wz.heap[c]? = some (.cells #[v0, v1] 25 (0, 0)) ∧ Below w.heap.size w wz ∧ wz.heap.size = w'.heap.size ∧ (∀ k, k ≠ c → wz.heap[k]? = w'.heap[k]?) ∧
      ((wz.cell? ⟨b, 0, none⟩ = some u0 ∧ wz.cell? ⟨b, 1, none⟩ = some u1) ∧ HeldP w c wz)) := by
  obtain ⟨⟨h0, h1⟩, hb, z0, z1, hr⟩ := hS
  have s5 := store2 hr v0 v1
  refine ⟨z0, z1, ⟨s5.1, s5.2.1⟩, fun wz hw => ?_⟩
  have hrow := s5.2.2
  have hbel := below_set (below_set hb hc 0 v0) hc 1 v1
  have hoth : ∀ k, k ≠ c → ((w'.setCell ⟨c, 0, none⟩ v0).setCell ⟨c, 1, none⟩ v1).heap[k]? = w'.heap[k]? := fun k hk => by
    rw [Below.heap_setCell _ _ _ k (by simpa using hk), Below.heap_setCell _ _ _ k (by simpa using hk)]
  have hsz : ((w'.setCell ⟨c, 0, none⟩ v0).setCell ⟨c, 1, none⟩ v1).heap.size = w'.heap.size := by simp
  rw [← hw] at hrow hbel hoth hsz
  have e : ∀ o, wz.cell? ⟨b, o, none⟩ = w'.cell? ⟨b, o, none⟩ := fun o => World.cell?_of_block (hoth b hbc)
  exact ⟨hrow, hbel, hsz, hoth, ⟨(e _).trans h0, (e _).trans h1⟩, hbel, _, _, hrow⟩

theorem funcs_armP {w w' : World} {b B : Nat} {v : Value} {x : List Nd.Fn} (hB : B ≤ w.heap.size) (hN : FuncsIn w (· < B) false v x) {X : Prop} (hS : X ∧ HeldP w b w') (Q : Ending → World → Prop)
    (h : ∀ v' w'', Below w'.heap.size w' w'' → FreshF w' w'' v' x → Q (.returned v') w'') : Calls Tryz.prog 30 #[v] w' Q :=
  twin_funcs (Nat.le_trans hB hS.2.1.size) (hN.below (hS.2.1.mono hB)) h
theorem nodes_armP {w w' : World} {b B : Nat} {v : Value} {x : Ns} (hB : B ≤ w.heap.size) (hN : Nodes w (· < B) false v x) {X : Prop} (hS : X ∧ HeldP w b w') (Q : Ending → World → Prop)
    (h : ∀ v' w'', Below w'.heap.size w' w'' → Fresh w' w'' v' x → Q (.returned v') w'') : Calls Tryz.prog 31 #[v] w' Q :=
  twin_nodes x w' B v (Nat.le_trans hB hS.2.1.size) (hN.below (hS.2.1.mono hB)) Q h

set_option maxRecDepth 100000 in
set_option maxHeartbeats 6000000 in
theorem twin_prog {B : Nat} {p : Pr} {w : World} {va vb : Value} (hB : B ≤ w.heap.size)
    (n1 : FuncsIn w (· < B) false va p.funcs) (n2 : Nodes w (· < B) false vb p.body) {Q : Ending → World → Prop}
    (h : ∀ v1 v2 w', Below w.heap.size w w' → FreshF w w' v1 p.funcs → Fresh w w' v2 p.body → Q (.returned (.agg #[v1, v2])) w') :
    Calls Tryz.prog 11 #[.agg #[va, vb]] w Q := by
  obtain ⟨a1, c1, rfl⟩ := FuncsIn.form n1
  obtain ⟨a2, c2, rfl⟩ := Nodes.form n2
  obtain ⟨xl, xb⟩ := p
  simp only at *
  have H := Lib.hid h
  have HB := Lib.hid hB
  have N1 := Lib.hid n1
  have N2 := Lib.hid n2
  clear h n1 n2 hB
  go_enter Tryz.func11, Tryz.ntmps11
  have hA1 := Below.alloc (Below.refl w.heap.size w) (Nat.le_refl _) (.cells #[.slice a1 xl.length c1, .slice a2 xb.len c2] 25)
  have hA := Below.alloc hA1 (Nat.le_trans (Nat.le_refl _) hA1.size) (.cells #[.slice none 0 0, .slice none 0 0] 25)
  obtain ⟨bx, hbx⟩ : ∃ bx, bx = w.heap.size := ⟨_, rfl⟩
  obtain ⟨w0, hw0⟩ : ∃ w0, w0 = (w.alloc (.cells #[.slice a1 xl.length c1, .slice a2 xb.len c2] 25)).alloc (.cells #[.slice none 0 0, .slice none 0 0] 25) := ⟨_, rfl⟩
  have hr0 : w0.heap[bx]? = some (.cells #[.slice a1 xl.length c1, .slice a2 xb.len c2] 25 (0, 0)) := by
    rw [hw0, hbx, Below.heap_alloc _ _ _ (by simp)]; exact heap_alloc_new w _
  have hr1 : w0.heap[bx + 1]? = some (.cells #[.slice none 0 0, .slice none 0 0] 25 (0, 0)) := by
    have := heap_alloc_new (w.alloc (.cells #[.slice a1 xl.length c1, .slice a2 xb.len c2] 25)) (.cells #[.slice none 0 0, .slice none 0 0] 25)
    rw [hw0, hbx]; simpa using this
  have hrow : ∀ w1, Below w0.heap.size w0 w1 → w1.heap[bx]? = _ ∧ w1.heap[bx + 1]? = _ := fun w1 hb => ⟨(hb.block _ (Array.getElem?_eq_some_iff.1 hr0).1).trans hr0, (hb.block _ (Array.getElem?_eq_some_iff.1 hr1).1).trans hr1⟩
  have hbox : ∀ w1, Below w0.heap.size w0 w1 → w1.cell? ⟨bx, 0, none⟩ = some (.slice a1 xl.length c1) ∧ w1.cell? ⟨bx, 1, none⟩ = some (.slice a2 xb.len c2) := fun w1 hb =>
    ⟨cell_of_row w1 bx 0 _ _ _ (hrow w1 hb).1, cell_of_row w1 bx 1 _ _ _ (hrow w1 hb).1⟩
  have hres : ∀ w1, Below w0.heap.size w0 w1 → w1.heap[bx + 1]? = some (.cells #[.slice none 0 0, .slice none 0 0] 25 (0, 0)) := fun w1 hb => (hrow w1 hb).2
  rw [← hw0] at hA
  have HX := Lib.hid hbox
  have HR := Lib.hid hres
  have Y0 := Lib.hid hA
  clear hA1 hA hr0 hr1 hrow hbox hres
  go_upto_region 1 with fail
  rw [← hbx, ← hw0]
  have hbw : w.heap.size ≤ bx + 1 := by omega
  clear hbx hw0
  obtain ⟨q0, q1⟩ := HX.out w0.drew (Below.refl _ _).drew
  have hH0 : HeldP w (bx + 1) w0.drew := ⟨Y0.out.drew, _, _, HR.out w0.drew (Below.refl _ _).drew⟩
  have hHS : (w0.drew.cell? ⟨bx, 0, none⟩ = some (.slice a1 xl.length c1) ∧ w0.drew.cell? ⟨bx, 1, none⟩ = some (.slice a2 xb.len c2)) ∧ HeldP w (bx + 1) w0.drew := ⟨⟨q0, q1⟩, hH0⟩
  clear HX HR hH0 q0 q1
  go_region_held3 (fun w' => (w'.cell? ⟨bx, 0, none⟩ = some (.slice a1 xl.length c1) ∧ w'.cell? ⟨bx, 1, none⟩ = some (.slice a2 xb.len c2)) ∧ HeldP w (bx + 1) w')
    (first | assumption | exact keepP (by assumption) (by assumption))
    (first
      | (go_at_call_of 30 (Value.slice a1 xl.length c1); refine funcs_armP HB.out N1.out (by assumption) _ ?_; intro v1 w1 hb1 f1; obtain ⟨u1, k1, rfl⟩ := FuncsIn.form f1; have G1 := Lib.hid f1; clear f1)
      | (go_at_call_of 31 (Value.slice a2 xb.len c2); refine nodes_armP HB.out N2.out (by assumption) _ ?_; intro v2 w2 hb2 f2; obtain ⟨u2, k2, rfl⟩ := Nodes.form f2; have G2 := Lib.hid (And.intro f2 hb2); clear f2; have hS3 := keepP (w := w) (c := bx + 1) (u0 := .slice a1 xl.length c1) (u1 := .slice a2 xb.len c2) (by assumption) hb2; have hst := wroteP hS3 (Nat.ne_of_lt (Nat.lt_succ_self bx)) hbw (.slice u1 xl.length k1) (.slice u2 xb.len k2); obtain ⟨z0, z1, ⟨⟨p0, p0'⟩, ⟨p1, p1'⟩⟩, hz⟩ := hst; have HZ := Lib.hid hz; have hSF := (hz _ rfl).2.2.2.2; clear hz))
  all_goals
    generalize hwz : (w2.setCell ⟨bx + 1, 0, none⟩ (.slice u1 xl.length k1)).setCell ⟨bx + 1, 1, none⟩ (.slice u2 xb.len k2) = wz at *
    have hZ := HZ.out wz rfl
    obtain ⟨_, _, hrw⟩ := hHS.2.2
    have s0 : bx + 1 < w0.drew.heap.size := (Array.getElem?_eq_some_iff.1 hrw).1
    have s1 := hHS.2.1.size
    have s2 := hb1.size
    have c0 : wz.cell? ⟨bx + 1, 0, none⟩ = some (.slice u1 xl.length k1) := (cell_of_row wz (bx + 1) 0 _ _ _ hZ.1).trans rfl
    have c1 : wz.cell? ⟨bx + 1, 1, none⟩ = some (.slice u2 xb.len k2) := (cell_of_row wz (bx + 1) 1 _ _ _ hZ.1).trans rfl
    have e1 : FreshF w wz (.slice u1 xl.length k1) xl := freshF_at G1.out hb2 hZ.2.2.2.1 s0 s1
    have e2 : Fresh w wz (.slice u2 xb.len k2) xb := fresh_at G2.out.1 (Below.refl _ w2) hZ.2.2.2.1 (Nat.lt_of_lt_of_le s0 s2) (Nat.le_trans s1 s2)
    have HE := Lib.hid (And.intro hZ.2.1 (And.intro e1 e2))
    clear p0 p0' p1 p1' hSF hS3 hwz hZ e1 e2 hrw s0 s1 s2
    go_wp2_with fail
    exact bodyPost_ret (v := .agg #[.slice u1 xl.length k1, .slice u2 xb.len k2]) (by simp [results, Tryz.results11, go_sem, c0, c1]) rfl (H.out _ _ _ HE.out.1 HE.out.2.1 HE.out.2.2)
end Go.Proofs.YtmkhfonafcikdaaGreatDoor

/- Trees: whether nodes are as they were: one node. -/
namespace Go.Proofs.YtmkhfonafcikdaaGreatDoor
open Go.RowKit Go.My Go.Nd

def LeftSaid (x : Ns) : Prop := ∀ (w : World) (B : Nat) (tv v : Value), B ≤ w.heap.size → Nodes w (· < B) true tv x → Nodes w (· < B) false v x → Calls Tryz.prog 46 #[tv, v] w fun e w' => e = .returned (.bool true) ∧ Below w.heap.size w w'

set_option maxRecDepth 100000 in
set_option maxHeartbeats 4000000 in
theorem left_one {B : Nat} {x : Nd} (h1 : LeftSaid x.l) (h2 : LeftSaid x.body) (h3 : LeftSaid x.els) {w : World} {a1 a2 a3 b1 b2 b3 : Option Addr} {c1 c2 c3 d1 d2 d3 : Nat} (hB : B ≤ w.heap.size)
    (t1 : Nodes w (· < B) true (.slice a1 x.l.len c1) x.l) (t2 : Nodes w (· < B) true (.slice a2 x.body.len c2) x.body) (t3 : Nodes w (· < B) true (.slice a3 x.els.len c3) x.els)
    (n1 : Nodes w (· < B) false (.slice b1 x.l.len d1) x.l) (n2 : Nodes w (· < B) false (.slice b2 x.body.len d2) x.body) (n3 : Nodes w (· < B) false (.slice b3 x.els.len d3) x.els) :
    Calls Tryz.prog 108 #[.agg #[.int .u8 (x.kind : Int), .string (tx x.text), .slice a1 x.l.len c1, .slice a2 x.body.len c2, .slice a3 x.els.len c3], .agg #[.int .u8 (x.kind : Int), .string (tx x.text), .slice b1 x.l.len d1, .slice b2 x.body.len d2, .slice b3 x.els.len d3]] w fun e w' => e = .returned (.bool true) ∧ Below w.heap.size w w' := by
  obtain ⟨kd, tt, xl, xb, xe⟩ := x
  simp only at *
  have H1 := Lib.hid h1
  have H2 := Lib.hid h2
  have H3 := Lib.hid h3
  clear h1 h2 h3
  go_enter Tryz.func108, Tryz.ntmps108
  have hA1 := Below.alloc (Below.refl w.heap.size w) (Nat.le_refl _) (.cells #[.int .u8 (kd : Int), .string (tx tt), .slice a1 xl.len c1, .slice a2 xb.len c2, .slice a3 xe.len c3] 61)
  have hA := Below.alloc hA1 (Nat.le_trans (Nat.le_refl _) hA1.size) (.cells #[.int .u8 (kd : Int), .string (tx tt), .slice b1 xl.len d1, .slice b2 xb.len d2, .slice b3 xe.len d3] 61)
  obtain ⟨bx, hbx⟩ : ∃ bx, bx = w.heap.size := ⟨_, rfl⟩
  obtain ⟨w0, hw0⟩ : ∃ w0, w0 = (w.alloc (.cells #[.int .u8 (kd : Int), .string (tx tt), .slice a1 xl.len c1, .slice a2 xb.len c2, .slice a3 xe.len c3] 61)).alloc (.cells #[.int .u8 (kd : Int), .string (tx tt), .slice b1 xl.len d1, .slice b2 xb.len d2, .slice b3 xe.len d3] 61) := ⟨_, rfl⟩
  have hr0 : w0.heap[bx]? = some (.cells #[.int .u8 (kd : Int), .string (tx tt), .slice a1 xl.len c1, .slice a2 xb.len c2, .slice a3 xe.len c3] 61 (0, 0)) := by
    rw [hw0, hbx, Below.heap_alloc _ _ _ (by simp)]; exact heap_alloc_new w _
  have hr1 : w0.heap[bx + 1]? = some (.cells #[.int .u8 (kd : Int), .string (tx tt), .slice b1 xl.len d1, .slice b2 xb.len d2, .slice b3 xe.len d3] 61 (0, 0)) := by
    have := heap_alloc_new (w.alloc (.cells #[.int .u8 (kd : Int), .string (tx tt), .slice a1 xl.len c1, .slice a2 xb.len c2, .slice a3 xe.len c3] 61)) (.cells #[.int .u8 (kd : Int), .string (tx tt), .slice b1 xl.len d1, .slice b2 xb.len d2, .slice b3 xe.len d3] 61)
    rw [hw0, hbx]; simpa using this
  have hrow : ∀ w1, Below w0.heap.size w0 w1 → w1.heap[bx]? = _ ∧ w1.heap[bx + 1]? = _ := fun w1 hb => ⟨(hb.block _ (Array.getElem?_eq_some_iff.1 hr0).1).trans hr0, (hb.block _ (Array.getElem?_eq_some_iff.1 hr1).1).trans hr1⟩
  have hbox : ∀ w1, Below w0.heap.size w0 w1 → (w1.cell? ⟨bx, 0, none⟩ = some (.int .u8 (kd : Int)) ∧ w1.cell? ⟨bx, 1, none⟩ = some (.string (tx tt)) ∧ w1.cell? ⟨bx, 2, none⟩ = some (.slice a1 xl.len c1) ∧ w1.cell? ⟨bx, 3, none⟩ = some (.slice a2 xb.len c2) ∧ w1.cell? ⟨bx, 4, none⟩ = some (.slice a3 xe.len c3)) ∧
      (w1.cell? ⟨bx + 1, 0, none⟩ = some (.int .u8 (kd : Int)) ∧ w1.cell? ⟨bx + 1, 1, none⟩ = some (.string (tx tt)) ∧ w1.cell? ⟨bx + 1, 2, none⟩ = some (.slice b1 xl.len d1) ∧ w1.cell? ⟨bx + 1, 3, none⟩ = some (.slice b2 xb.len d2) ∧ w1.cell? ⟨bx + 1, 4, none⟩ = some (.slice b3 xe.len d3)) := fun w1 hb =>
    ⟨⟨cell_of_row w1 bx 0 _ _ _ (hrow w1 hb).1, cell_of_row w1 bx 1 _ _ _ (hrow w1 hb).1, cell_of_row w1 bx 2 _ _ _ (hrow w1 hb).1, cell_of_row w1 bx 3 _ _ _ (hrow w1 hb).1, cell_of_row w1 bx 4 _ _ _ (hrow w1 hb).1⟩,
     ⟨cell_of_row w1 (bx + 1) 0 _ _ _ (hrow w1 hb).2, cell_of_row w1 (bx + 1) 1 _ _ _ (hrow w1 hb).2, cell_of_row w1 (bx + 1) 2 _ _ _ (hrow w1 hb).2, cell_of_row w1 (bx + 1) 3 _ _ _ (hrow w1 hb).2, cell_of_row w1 (bx + 1) 4 _ _ _ (hrow w1 hb).2⟩⟩
  rw [← hw0] at hA
  have HX := Lib.hid hbox
  have Y0 := Lib.hid hA
  have T1 := Lib.hid (t1.below (hA.mono hB))
  have T2 := Lib.hid (t2.below (hA.mono hB))
  have T3 := Lib.hid (t3.below (hA.mono hB))
  have N1 := Lib.hid (n1.below (hA.mono hB))
  have N2 := Lib.hid (n2.below (hA.mono hB))
  have N3 := Lib.hid (n3.below (hA.mono hB))
  have HB0 := Lib.hid (Nat.le_trans hB hA.size)
  clear hA1 hA hr0 hr1 hrow hbox t1 t2 t3 n1 n2 n3 hB
  go_upto_region 1 with fail
  rw [← hbx, ← hw0]
  clear hbx hw0
  obtain ⟨⟨p0, p1, p2, p3, p4⟩, ⟨q0, q1, q2, q3, q4⟩⟩ := HX.out w0 (Below.refl _ _)
  go_wp2_with fail
  refine (H1.out w0 B _ _ HB0.out T1.out N1.out).mono ?_
  rintro e w1 ⟨rfl, hb⟩
  have K1 := Lib.hid hb
  clear hb p0 p1 p2 p3 p4 q0 q1 q2 q3 q4
  obtain ⟨⟨p0, p1, p2, p3, p4⟩, ⟨q0, q1, q2, q3, q4⟩⟩ := HX.out w1 K1.out
  go_wp2_with fail
  refine (H2.out w1 B _ _ (Nat.le_trans HB0.out K1.out.size) (T2.out.below (K1.out.mono HB0.out)) (N2.out.below (K1.out.mono HB0.out))).mono ?_
  rintro e w2 ⟨rfl, hb⟩
  have K2 := Lib.hid (K1.out.trans (hb.mono K1.out.size))
  clear hb p0 p1 p2 p3 p4 q0 q1 q2 q3 q4
  obtain ⟨⟨p0, p1, p2, p3, p4⟩, ⟨q0, q1, q2, q3, q4⟩⟩ := HX.out w2 K2.out
  go_wp2_with fail
  refine (H3.out w2 B _ _ (Nat.le_trans HB0.out K2.out.size) (T3.out.below (K2.out.mono HB0.out)) (N3.out.below (K2.out.mono HB0.out))).mono ?_
  rintro e w3 ⟨rfl, hb⟩
  have K3 := Lib.hid (K2.out.trans (hb.mono K2.out.size))
  clear hb p0 p1 p2 p3 p4 q0 q1 q2 q3 q4
  go_wp2_with fail
  go_ret
  exact ⟨rfl, Y0.out.trans (K3.out.mono Y0.out.size)⟩
end Go.Proofs.YtmkhfonafcikdaaGreatDoor

/- Trees: whether lists of nodes are as they were. -/
namespace Go.My
open Go.Nd
theorem NodesAt.mark {w : World} {S : Nat → Prop} {a : Option Addr} {xs : Ns} (h : NodesAt w S true a xs) : ∃ b off, a = some ⟨b, off, none⟩ ∧ S b ∧ NodeMark w b (off + xs.items.length * 5) := by
  induction h with
  | nil a h =>
    obtain ⟨b, off, h1, h2, h3⟩ := h rfl
    exact ⟨b, off, h1, h2, by simpa [Ns.items] using h3⟩
  | @cons b off k t l body els r a1 a2 a3 c1 c2 c3 hS hk ht d0 d1 d2 d3 d4 r1 r2 r3 h1 h2 h3 h4 _ _ _ i4 =>
    obtain ⟨b', off', e, hS', hm⟩ := i4
    cases e
    refine ⟨b, off, rfl, hS, ?_⟩
    rw [Ns.items_cons, List.length_cons, show off + (r.items.length + 1) * 5 = off + 5 + r.items.length * 5 by omega]
    exact hm
theorem Nodes.mark {w : World} {S : Nat → Prop} {v : Value} {xs : Ns} (h : Nodes w S true v xs) : ∃ b off c, v = .slice (some ⟨b, off, none⟩) xs.items.length c ∧ S b ∧ NodeMark w b (off + xs.items.length * 5) ∧ xs.items.length + 1 ≤ c ∧ c ≤ maxLen := by
  obtain ⟨a, c, h1, h2, h3⟩ := h
  obtain ⟨b, off, rfl, hS, hm⟩ := h3.mark
  exact ⟨b, off, c, h1, hS, hm, h2.2.2.2 rfl, h2.2.1⟩
end Go.My
namespace Go.Proofs.YtmkhfonafcikdaaGreatDoor
open Go.RowKit Go.My Go.Nd

theorem keep10 {wr w' w'' : World} {b o b' o' : Nat} {u0 u1 u2 u3 u4 s0 s1 s2 s3 s4 : Value}
    (hS : ((w'.cell? ⟨b, o, none⟩ = some u0 ∧ w'.cell? ⟨b, o + 1, none⟩ = some u1 ∧ w'.cell? ⟨b, o + 2, none⟩ = some u2 ∧ w'.cell? ⟨b, o + 3, none⟩ = some u3 ∧ w'.cell? ⟨b, o + 4, none⟩ = some u4) ∧ (w'.cell? ⟨b', o', none⟩ = some s0 ∧ w'.cell? ⟨b', o' + 1, none⟩ = some s1 ∧ w'.cell? ⟨b', o' + 2, none⟩ = some s2 ∧ w'.cell? ⟨b', o' + 3, none⟩ = some s3 ∧ w'.cell? ⟨b', o' + 4, none⟩ = some s4)) ∧ Below wr.heap.size wr w') (hk : Below w'.heap.size w' w'') :
    ((w''.cell? ⟨b, o, none⟩ = some u0 ∧ w''.cell? ⟨b, o + 1, none⟩ = some u1 ∧ w''.cell? ⟨b, o + 2, none⟩ = some u2 ∧ w''.cell? ⟨b, o + 3, none⟩ = some u3 ∧ w''.cell? ⟨b, o + 4, none⟩ = some u4) ∧ (w''.cell? ⟨b', o', none⟩ = some s0 ∧ w''.cell? ⟨b', o' + 1, none⟩ = some s1 ∧ w''.cell? ⟨b', o' + 2, none⟩ = some s2 ∧ w''.cell? ⟨b', o' + 3, none⟩ = some s3 ∧ w''.cell? ⟨b', o' + 4, none⟩ = some s4)) ∧ Below wr.heap.size wr w'' := by
  obtain ⟨⟨⟨h0, h1, h2, h3, h4⟩, ⟨k0, k1, k2, k3, k4⟩⟩, hb⟩ := hS
  have e : ∀ q, w''.cell? ⟨b, q, none⟩ = w'.cell? ⟨b, q, none⟩ := fun q => World.cell?_of_block (hk.block b (World.block_lt_of_cell? _ _ h0))
  have e' : ∀ q, w''.cell? ⟨b', q, none⟩ = w'.cell? ⟨b', q, none⟩ := fun q => World.cell?_of_block (hk.block b' (World.block_lt_of_cell? _ _ k0))
  exact ⟨⟨⟨(e _).trans h0, (e _).trans h1, (e _).trans h2, (e _).trans h3, (e _).trans h4⟩, ⟨(e' _).trans k0, (e' _).trans k1, (e' _).trans k2, (e' _).trans k3, (e' _).trans k4⟩⟩, hb.trans (hk.mono hb.size)⟩

theorem left_arm {B : Nat} {x : Nd} (hI : LeftSaid x.l ∧ LeftSaid x.body ∧ LeftSaid x.els) {wr w' : World} {a1 a2 a3 b1 b2 b3 : Option Addr} {c1 c2 c3 d1 d2 d3 : Nat} (hB : B ≤ wr.heap.size)
    (t1 : Nodes wr (· < B) true (.slice a1 x.l.len c1) x.l) (t2 : Nodes wr (· < B) true (.slice a2 x.body.len c2) x.body) (t3 : Nodes wr (· < B) true (.slice a3 x.els.len c3) x.els)
    (n1 : Nodes wr (· < B) false (.slice b1 x.l.len d1) x.l) (n2 : Nodes wr (· < B) false (.slice b2 x.body.len d2) x.body) (n3 : Nodes wr (· < B) false (.slice b3 x.els.len d3) x.els) {X : Prop} (hS : X ∧ Below wr.heap.size wr w') :
    Calls Tryz.prog 108 #[.agg #[.int .u8 (x.kind : Int), .string (tx x.text), .slice a1 x.l.len c1, .slice a2 x.body.len c2, .slice a3 x.els.len c3], .agg #[.int .u8 (x.kind : Int), .string (tx x.text), .slice b1 x.l.len d1, .slice b2 x.body.len d2, .slice b3 x.els.len d3]] w' fun e w'' => e = .returned (.bool true) ∧ Below w'.heap.size w' w'' :=
  have hm := hS.2.mono hB
  left_one hI.1 hI.2.1 hI.2.2 (Nat.le_trans hB hS.2.size) (t1.below hm) (t2.below hm) (t3.below hm) (n1.below hm) (n2.below hm) (n3.below hm)

def LeftAtN (w : World) (n gk : Nat) (v3 : Value) (wr : World) : Prop :=
  ∃ i : Nat, i ≤ n ∧ gk = n - i ∧ v3 = .int .i64 (i : Int) ∧ Below w.heap.size w wr

set_option maxRecDepth 100000 in
set_option maxHeartbeats 4000000 in
theorem left_nodes : ∀ xs, LeftSaid xs := by
  refine Ns.each fun xs ih w B tv v hB ht hv => ?_
  obtain ⟨a0, cp, rfl, hr, hcell⟩ := hv.open_
  obtain ⟨bt, ot, ct, hf, hbt, hmk, hct, hcm⟩ := ht.mark
  obtain ⟨_, _, ht2, _, htc⟩ := ht.open_
  rw [hf] at ht2
  cases ht2
  subst hf
  have HI := Lib.hid ih
  have HC := Lib.hid hcell
  have HT := Lib.hid htc
  have HB := Lib.hid hB
  have HM := Lib.hid (And.intro hbt hmk)
  have l0 : (0 : Int) ≤ (xs.items.length : Int) := by omega
  have l1 : (xs.items.length : Int) * 96 ≤ 140737488351232 := by have := hr.2.2.1; omega
  have l2 : (xs.items.length : Int) < (ct : Int) := by omega
  have l3 : decide (ct ≤ xs.items.length) = false := by simp; omega
  have hsl := slice_hs (P := Tryz.prog) (size := 5) Tryz.underlying23 (by kernel_rfl) bt ot xs.items.length ct (xs.items.length + 1) ((xs.items.length : Int) + 1) rfl hct
  clear hv ht hcell hr hB ih htc hbt hmk hcm hct
  go_enter Tryz.func46, Tryz.ntmps46
  go_wp2_with fail
  go_loopg [5] xs.items.length (fun gk v3 wr => LeftAtN w xs.items.length gk v3 wr)
  case atStart => exact ⟨0, Nat.zero_le _, rfl, rfl, Below.refl _ _⟩
  case round =>
    obtain ⟨k, hk, rfl, rfl, hb⟩ := hrel
    have k0 : (0 : Int) ≤ (k : Int) := by omega
    have K := Lib.hid hb
    by_cases hlt : k < xs.items.length
    · have k1 : (k : Int) < (xs.items.length : Int) := by omega
      obtain ⟨b, off, v1, v2, v3, hb1, hS, hN⟩ := HC.out k hlt
      obtain ⟨b', off', u1, u2, u3, hb2, hS', hN'⟩ := HT.out k hlt
      cases hb1
      cases hb2
      have hM := hN.frame hS fun j hj _ => hb.block j (Nat.lt_of_lt_of_le hj HB.out)
      have hM' := hN'.frame hS' fun j hj _ => hb.block j (Nat.lt_of_lt_of_le hj HB.out)
      obtain ⟨x, hx⟩ : ∃ x, x = xs.items[k] := ⟨_, rfl⟩
      have hI := HI.out _ (List.getElem_mem hlt)
      rw [← hx] at hM hM' hI
      have d0 := hM.d0
      have d1 := hM.d1
      have d2 := hM.d2
      have d3 := hM.d3
      have d4 := hM.d4
      have e0 := hM'.d0
      have e1 := hM'.d1
      have e2 := hM'.d2
      have e3 := hM'.d3
      have e4 := hM'.d4
      have M1 := Lib.hid hM.l
      have M2 := Lib.hid hM.body
      have M3 := Lib.hid hM.els
      have M1' := Lib.hid hM'.l
      have M2' := Lib.hid hM'.body
      have M3' := Lib.hid hM'.els
      obtain ⟨z1, y1, rfl⟩ := M1.out.form
      obtain ⟨z2, y2, rfl⟩ := M2.out.form
      obtain ⟨z3, y3, rfl⟩ := M3.out.form
      obtain ⟨z4, y4, rfl⟩ := M1'.out.form
      obtain ⟨z5, y5, rfl⟩ := M2'.out.form
      obtain ⟨z6, y6, rfl⟩ := M3'.out.form
      have HK := Lib.hid (And.intro hlt hI)
      have HBr := Lib.hid (Nat.le_trans HB.out hb.size)
      clear hN hN' hM hM' hI hx hb hlt hk hS hS'
      obtain ⟨kd, tt, xl, xb, xe⟩ := x
      simp only at d0 d1 d2 d3 d4 e0 e1 e2 e3 e4
      go_upto_region 6 with fail
      go_region_held3 (fun w' => ((w'.cell? ⟨b, off + k * 5, none⟩ = some (.int .u8 (kd : Int)) ∧ w'.cell? ⟨b, off + k * 5 + 1, none⟩ = some (.string (tx tt)) ∧ w'.cell? ⟨b, off + k * 5 + 2, none⟩ = some (.slice z1 xl.len y1) ∧ w'.cell? ⟨b, off + k * 5 + 3, none⟩ = some (.slice z2 xb.len y2) ∧ w'.cell? ⟨b, off + k * 5 + 4, none⟩ = some (.slice z3 xe.len y3)) ∧ (w'.cell? ⟨bt, ot + k * 5, none⟩ = some (.int .u8 (kd : Int)) ∧ w'.cell? ⟨bt, ot + k * 5 + 1, none⟩ = some (.string (tx tt)) ∧ w'.cell? ⟨bt, ot + k * 5 + 2, none⟩ = some (.slice z4 xl.len y4) ∧ w'.cell? ⟨bt, ot + k * 5 + 3, none⟩ = some (.slice z5 xb.len y5) ∧ w'.cell? ⟨bt, ot + k * 5 + 4, none⟩ = some (.slice z6 xe.len y6))) ∧ Below wr.heap.size wr w')
        (first | assumption | exact ⟨⟨⟨d0, d1, d2, d3, d4⟩, ⟨e0, e1, e2, e3, e4⟩⟩, (Below.refl _ _).drew⟩ | exact keep10 (by assumption) (by assumption))
        ((go_at_call 108; refine (left_arm (x := ⟨kd, tt, xl, xb, xe⟩) HK.out.2 HBr.out M1'.out M2'.out M3'.out M1.out M2.out M3.out (by assumption)).mono ?_; rintro e w'' ⟨rfl, hk⟩))
      rename_i hH
      have K5 := Lib.hid (K.out.trans (hH.2.mono K.out.size))
      clear hH d0 d1 d2 d3 d4 e0 e1 e2 e3 e4
      go_wp2_with fail
      go_roundg (xs.items.length - (k + 1))
      case measure => have := HK.out.1; omega
      case rel => exact ⟨k + 1, HK.out.1, rfl, by go_num, K5.out⟩
    · obtain rfl : k = xs.items.length := by omega
      obtain ⟨m0, m1, m2, m3, m4⟩ := HM.out.2.frame (hb.block bt (Nat.lt_of_lt_of_le HM.out.1 HB.out))
      clear hlt hk hb
      have hsp : ((tx [115, 112, 97, 114, 101]).toList == [115, 112, 97, 114, 101]) = true := by simp [tx]
      go_wp2_with fail
      go_ret
      exact ⟨rfl, K.out.alloc K.out.size _⟩
end Go.Proofs.YtmkhfonafcikdaaGreatDoor

/- Programs: whether functions, and a program, are as they were. -/
namespace Go.Proofs.YtmkhfonafcikdaaGreatDoor
open Go.RowKit Go.My Go.Nd

theorem left_nodes_t {w : World} {B : Nat} {x : Ns} {tv v : Value} (hB : B ≤ w.heap.size) (ht : Nodes w (· < B) true tv x) (hv : Nodes w (· < B) false v x) : Calls Tryz.prog 46 #[tv, v] w fun e w' => e = .returned (.bool true) ∧ Below w.heap.size w w' := left_nodes x w B tv v hB ht hv

set_option maxRecDepth 100000 in
set_option maxHeartbeats 4000000 in
theorem left_func {B : Nat} {f : Nd.Fn} {w : World} {a1 a2 b1 b2 : Option Addr} {c1 c2 d1 d2 : Nat} (hB : B ≤ w.heap.size)
    (t1 : TextsIn w (· < B) true (.slice a1 f.args.length c1) f.args) (t2 : Nodes w (· < B) true (.slice a2 f.body.len c2) f.body)
    (n1 : TextsIn w (· < B) false (.slice b1 f.args.length d1) f.args) (n2 : Nodes w (· < B) false (.slice b2 f.body.len d2) f.body) :
    Calls Tryz.prog 107 #[.agg #[.string (tx f.name), .slice a1 f.args.length c1, .slice a2 f.body.len c2], .agg #[.string (tx f.name), .slice b1 f.args.length d1, .slice b2 f.body.len d2]] w fun e w' => e = .returned (.bool true) ∧ Below w.heap.size w w' := by
  obtain ⟨tt, xl, xb⟩ := f
  simp only at *
  go_enter Tryz.func107, Tryz.ntmps107
  have hA1 := Below.alloc (Below.refl w.heap.size w) (Nat.le_refl _) (.cells #[.string (tx tt), .slice a1 xl.length c1, .slice a2 xb.len c2] 57)
  have hA := Below.alloc hA1 (Nat.le_trans (Nat.le_refl _) hA1.size) (.cells #[.string (tx tt), .slice b1 xl.length d1, .slice b2 xb.len d2] 57)
  obtain ⟨bx, hbx⟩ : ∃ bx, bx = w.heap.size := ⟨_, rfl⟩
  obtain ⟨w0, hw0⟩ : ∃ w0, w0 = (w.alloc (.cells #[.string (tx tt), .slice a1 xl.length c1, .slice a2 xb.len c2] 57)).alloc (.cells #[.string (tx tt), .slice b1 xl.length d1, .slice b2 xb.len d2] 57) := ⟨_, rfl⟩
  have hr0 : w0.heap[bx]? = some (.cells #[.string (tx tt), .slice a1 xl.length c1, .slice a2 xb.len c2] 57 (0, 0)) := by
    rw [hw0, hbx, Below.heap_alloc _ _ _ (by simp)]; exact heap_alloc_new w _
  have hr1 : w0.heap[bx + 1]? = some (.cells #[.string (tx tt), .slice b1 xl.length d1, .slice b2 xb.len d2] 57 (0, 0)) := by
    have := heap_alloc_new (w.alloc (.cells #[.string (tx tt), .slice a1 xl.length c1, .slice a2 xb.len c2] 57)) (.cells #[.string (tx tt), .slice b1 xl.length d1, .slice b2 xb.len d2] 57)
    rw [hw0, hbx]; simpa using this
  have hrow : ∀ w1, Below w0.heap.size w0 w1 → w1.heap[bx]? = _ ∧ w1.heap[bx + 1]? = _ := fun w1 hb => ⟨(hb.block _ (Array.getElem?_eq_some_iff.1 hr0).1).trans hr0, (hb.block _ (Array.getElem?_eq_some_iff.1 hr1).1).trans hr1⟩
  have hbox : ∀ w1, Below w0.heap.size w0 w1 → (w1.cell? ⟨bx, 0, none⟩ = some (.string (tx tt)) ∧ w1.cell? ⟨bx, 1, none⟩ = some (.slice a1 xl.length c1) ∧ w1.cell? ⟨bx, 2, none⟩ = some (.slice a2 xb.len c2)) ∧
      (w1.cell? ⟨bx + 1, 0, none⟩ = some (.string (tx tt)) ∧ w1.cell? ⟨bx + 1, 1, none⟩ = some (.slice b1 xl.length d1) ∧ w1.cell? ⟨bx + 1, 2, none⟩ = some (.slice b2 xb.len d2)) := fun w1 hb =>
    ⟨⟨cell_of_row w1 bx 0 _ _ _ (hrow w1 hb).1, cell_of_row w1 bx 1 _ _ _ (hrow w1 hb).1, cell_of_row w1 bx 2 _ _ _ (hrow w1 hb).1⟩,
     ⟨cell_of_row w1 (bx + 1) 0 _ _ _ (hrow w1 hb).2, cell_of_row w1 (bx + 1) 1 _ _ _ (hrow w1 hb).2, cell_of_row w1 (bx + 1) 2 _ _ _ (hrow w1 hb).2⟩⟩
  rw [← hw0] at hA
  have HX := Lib.hid hbox
  have Y0 := Lib.hid hA
  have T1 := Lib.hid (t1.below (hA.mono hB))
  have T2 := Lib.hid (t2.below (hA.mono hB))
  have N1 := Lib.hid (n1.below (hA.mono hB))
  have N2 := Lib.hid (n2.below (hA.mono hB))
  have HB0 := Lib.hid (Nat.le_trans hB hA.size)
  clear hA1 hA hr0 hr1 hrow hbox t1 t2 n1 n2 hB
  go_upto_region 1 with fail
  rw [← hbx, ← hw0]
  clear hbx hw0
  obtain ⟨⟨p0, p1, p2⟩, ⟨q0, q1, q2⟩⟩ := HX.out w0 (Below.refl _ _)
  go_wp2_with fail
  refine (left_texts T1.out N1.out).mono ?_
  rintro e w1 ⟨rfl, hb⟩
  have K1 := Lib.hid hb
  clear hb p0 p1 p2 q0 q1 q2
  obtain ⟨⟨p0, p1, p2⟩, ⟨q0, q1, q2⟩⟩ := HX.out w1 K1.out
  go_wp2_with fail
  refine (left_nodes_t (Nat.le_trans HB0.out K1.out.size) (T2.out.below (K1.out.mono HB0.out)) (N2.out.below (K1.out.mono HB0.out))).mono ?_
  rintro e w2 ⟨rfl, hb⟩
  have K2 := Lib.hid (K1.out.trans (hb.mono K1.out.size))
  clear hb p0 p1 p2 q0 q1 q2
  go_wp2_with fail
  go_ret
  exact ⟨rfl, Y0.out.trans (K2.out.mono Y0.out.size)⟩

theorem keep6 {wr w' w'' : World} {b o b' o' : Nat} {u0 u1 u2 s0 s1 s2 : Value}
    (hS : ((w'.cell? ⟨b, o, none⟩ = some u0 ∧ w'.cell? ⟨b, o + 1, none⟩ = some u1 ∧ w'.cell? ⟨b, o + 2, none⟩ = some u2) ∧ (w'.cell? ⟨b', o', none⟩ = some s0 ∧ w'.cell? ⟨b', o' + 1, none⟩ = some s1 ∧ w'.cell? ⟨b', o' + 2, none⟩ = some s2)) ∧ Below wr.heap.size wr w') (hk : Below w'.heap.size w' w'') :
    ((w''.cell? ⟨b, o, none⟩ = some u0 ∧ w''.cell? ⟨b, o + 1, none⟩ = some u1 ∧ w''.cell? ⟨b, o + 2, none⟩ = some u2) ∧ (w''.cell? ⟨b', o', none⟩ = some s0 ∧ w''.cell? ⟨b', o' + 1, none⟩ = some s1 ∧ w''.cell? ⟨b', o' + 2, none⟩ = some s2)) ∧ Below wr.heap.size wr w'' := by
  obtain ⟨⟨⟨h0, h1, h2⟩, ⟨k0, k1, k2⟩⟩, hb⟩ := hS
  have e : ∀ q, w''.cell? ⟨b, q, none⟩ = w'.cell? ⟨b, q, none⟩ := fun q => World.cell?_of_block (hk.block b (World.block_lt_of_cell? _ _ h0))
  have e' : ∀ q, w''.cell? ⟨b', q, none⟩ = w'.cell? ⟨b', q, none⟩ := fun q => World.cell?_of_block (hk.block b' (World.block_lt_of_cell? _ _ k0))
  exact ⟨⟨⟨(e _).trans h0, (e _).trans h1, (e _).trans h2⟩, ⟨(e' _).trans k0, (e' _).trans k1, (e' _).trans k2⟩⟩, hb.trans (hk.mono hb.size)⟩

theorem leftF_arm {B : Nat} {f : Nd.Fn} {wr w' : World} {a1 a2 b1 b2 : Option Addr} {c1 c2 d1 d2 : Nat} (hB : B ≤ wr.heap.size)
    (t1 : TextsIn wr (· < B) true (.slice a1 f.args.length c1) f.args) (t2 : Nodes wr (· < B) true (.slice a2 f.body.len c2) f.body)
    (n1 : TextsIn wr (· < B) false (.slice b1 f.args.length d1) f.args) (n2 : Nodes wr (· < B) false (.slice b2 f.body.len d2) f.body) {X : Prop} (hS : X ∧ Below wr.heap.size wr w') :
    Calls Tryz.prog 107 #[.agg #[.string (tx f.name), .slice a1 f.args.length c1, .slice a2 f.body.len c2], .agg #[.string (tx f.name), .slice b1 f.args.length d1, .slice b2 f.body.len d2]] w' fun e w'' => e = .returned (.bool true) ∧ Below w'.heap.size w' w'' :=
  have hm := hS.2.mono hB
  left_func (Nat.le_trans hB hS.2.size) (t1.below hm) (t2.below hm) (n1.below hm) (n2.below hm)

set_option maxRecDepth 100000 in
set_option maxHeartbeats 4000000 in
theorem left_funcs {w : World} {B : Nat} {tv v : Value} {fs : List Nd.Fn} (hB : B ≤ w.heap.size) (ht : FuncsIn w (· < B) true tv fs) (hv : FuncsIn w (· < B) false v fs) :
    Calls Tryz.prog 45 #[tv, v] w fun e w' => e = .returned (.bool true) ∧ Below w.heap.size w w' := by
  obtain ⟨a0, cp, hf, h1, h2, h3, _, hcell⟩ := hv
  subst hf
  obtain ⟨ta, ct, hf, t1, hcm, t3, t4, htc⟩ := ht
  subst hf
  obtain ⟨hct, bt, ot, rfl, hbt, hmk⟩ := t4 rfl
  have HC := Lib.hid hcell
  have HT := Lib.hid htc
  have HB := Lib.hid hB
  have HM := Lib.hid (And.intro hbt hmk)
  have l0 : (0 : Int) ≤ (fs.length : Int) := by omega
  have l1 : (fs.length : Int) * 64 ≤ 140737488351232 := by omega
  have l2 : (fs.length : Int) < (ct : Int) := by omega
  have l3 : decide (ct ≤ fs.length) = false := by simp; omega
  have hsl := slice_hs (P := Tryz.prog) (size := 3) Tryz.underlying22 (by kernel_rfl) bt ot fs.length ct (fs.length + 1) ((fs.length : Int) + 1) rfl hct
  clear hcell hB htc hbt hmk hcm hct h1 h2 h3 t1 t3 t4
  go_enter Tryz.func45, Tryz.ntmps45
  go_wp2_with fail
  go_loopg [5] fs.length (fun gk v3 wr => LeftAtN w fs.length gk v3 wr)
  case atStart => exact ⟨0, Nat.zero_le _, rfl, rfl, Below.refl _ _⟩
  case round =>
    obtain ⟨k, hk, rfl, rfl, hb⟩ := hrel
    have k0 : (0 : Int) ≤ (k : Int) := by omega
    have K := Lib.hid hb
    by_cases hlt : k < fs.length
    · have k1 : (k : Int) < (fs.length : Int) := by omega
      obtain ⟨b, off, v1, v2, hb1, hS, hN⟩ := HC.out k hlt
      obtain ⟨b', off', u1, u2, hb2, hS', hN'⟩ := HT.out k hlt
      cases hb1
      cases hb2
      have hM := hN.frame hS fun j hj _ => hb.block j (Nat.lt_of_lt_of_le hj HB.out)
      have hM' := hN'.frame hS' fun j hj _ => hb.block j (Nat.lt_of_lt_of_le hj HB.out)
      obtain ⟨x, hx⟩ : ∃ x, x = fs[k] := ⟨_, rfl⟩
      rw [← hx] at hM hM'
      have d0 := hM.d0
      have d1 := hM.d1
      have d2 := hM.d2
      have e0 := hM'.d0
      have e1 := hM'.d1
      have e2 := hM'.d2
      have M1 := Lib.hid hM.args
      have M2 := Lib.hid hM.body
      have M1' := Lib.hid hM'.args
      have M2' := Lib.hid hM'.body
      obtain ⟨z1, y1, rfl⟩ := M1.out.form
      obtain ⟨z2, y2, rfl⟩ := M2.out.form
      obtain ⟨z4, y4, rfl⟩ := M1'.out.form
      obtain ⟨z5, y5, rfl⟩ := M2'.out.form
      have HK := Lib.hid hlt
      have HBr := Lib.hid (Nat.le_trans HB.out hb.size)
      clear hN hN' hM hM' hx hb hlt hk hS hS'
      obtain ⟨tt, xl, xb⟩ := x
      simp only at d0 d1 d2 e0 e1 e2
      go_upto_region 6 with fail
      go_region_held3 (fun w' => ((w'.cell? ⟨b, off + k * 3, none⟩ = some (.string (tx tt)) ∧ w'.cell? ⟨b, off + k * 3 + 1, none⟩ = some (.slice z1 xl.length y1) ∧ w'.cell? ⟨b, off + k * 3 + 2, none⟩ = some (.slice z2 xb.len y2)) ∧ (w'.cell? ⟨bt, ot + k * 3, none⟩ = some (.string (tx tt)) ∧ w'.cell? ⟨bt, ot + k * 3 + 1, none⟩ = some (.slice z4 xl.length y4) ∧ w'.cell? ⟨bt, ot + k * 3 + 2, none⟩ = some (.slice z5 xb.len y5))) ∧ Below wr.heap.size wr w')
        (first | assumption | exact ⟨⟨⟨d0, d1, d2⟩, ⟨e0, e1, e2⟩⟩, (Below.refl _ _).drew⟩ | exact keep6 (by assumption) (by assumption))
        ((go_at_call 107; refine (leftF_arm (f := ⟨tt, xl, xb⟩) HBr.out M1'.out M2'.out M1.out M2.out (by assumption)).mono ?_; rintro e w'' ⟨rfl, hk⟩))
      rename_i hH
      have K5 := Lib.hid (K.out.trans (hH.2.mono K.out.size))
      clear hH d0 d1 d2 e0 e1 e2
      go_wp2_with fail
      go_roundg (fs.length - (k + 1))
      case measure => have := HK.out; omega
      case rel => exact ⟨k + 1, HK.out, rfl, by go_num, K5.out⟩
    · obtain rfl : k = fs.length := by omega
      obtain ⟨m0, m1, m2⟩ := HM.out.2.frame (hb.block bt (Nat.lt_of_lt_of_le HM.out.1 HB.out))
      clear hlt hk hb
      have hsp : ((tx spare).toList == [115, 112, 97, 114, 101]) = true := by simp [tx, spare]
      go_wp2_with fail
      go_ret
      exact ⟨rfl, K.out.alloc K.out.size _⟩

set_option maxRecDepth 100000 in
set_option maxHeartbeats 4000000 in
theorem left_prog {B : Nat} {p : Pr} {w : World} {t1 t2 v1 v2 : Value} (hB : B ≤ w.heap.size)
    (ht1 : FuncsIn w (· < B) true t1 p.funcs) (ht2 : Nodes w (· < B) true t2 p.body) (hv1 : FuncsIn w (· < B) false v1 p.funcs) (hv2 : Nodes w (· < B) false v2 p.body) :
    Calls Tryz.prog 14 #[.agg #[t1, t2], .agg #[v1, v2]] w fun e w' => e = .returned (.bool true) ∧ Below w.heap.size w w' := by
  obtain ⟨a1, c1, rfl⟩ := ht1.form
  obtain ⟨a2, c2, rfl⟩ := ht2.form
  obtain ⟨b1, d1, rfl⟩ := hv1.form
  obtain ⟨b2, d2, rfl⟩ := hv2.form
  obtain ⟨xl, xb⟩ := p
  simp only at *
  go_enter Tryz.func14, Tryz.ntmps14
  have hA1 := Below.alloc (Below.refl w.heap.size w) (Nat.le_refl _) (.cells #[.slice a1 xl.length c1, .slice a2 xb.len c2] 25)
  have hA := Below.alloc hA1 (Nat.le_trans (Nat.le_refl _) hA1.size) (.cells #[.slice b1 xl.length d1, .slice b2 xb.len d2] 25)
  obtain ⟨bx, hbx⟩ : ∃ bx, bx = w.heap.size := ⟨_, rfl⟩
  obtain ⟨w0, hw0⟩ : ∃ w0, w0 = (w.alloc (.cells #[.slice a1 xl.length c1, .slice a2 xb.len c2] 25)).alloc (.cells #[.slice b1 xl.length d1, .slice b2 xb.len d2] 25) := ⟨_, rfl⟩
  have hr0 : w0.heap[bx]? = some (.cells #[.slice a1 xl.length c1, .slice a2 xb.len c2] 25 (0, 0)) := by
    rw [hw0, hbx, Below.heap_alloc _ _ _ (by simp)]; exact heap_alloc_new w _
  have hr1 : w0.heap[bx + 1]? = some (.cells #[.slice b1 xl.length d1, .slice b2 xb.len d2] 25 (0, 0)) := by
    have := heap_alloc_new (w.alloc (.cells #[.slice a1 xl.length c1, .slice a2 xb.len c2] 25)) (.cells #[.slice b1 xl.length d1, .slice b2 xb.len d2] 25)
    rw [hw0, hbx]; simpa using this
  have hrow : ∀ w1, Below w0.heap.size w0 w1 → w1.heap[bx]? = _ ∧ w1.heap[bx + 1]? = _ := fun w1 hb => ⟨(hb.block _ (Array.getElem?_eq_some_iff.1 hr0).1).trans hr0, (hb.block _ (Array.getElem?_eq_some_iff.1 hr1).1).trans hr1⟩
  have hbox : ∀ w1, Below w0.heap.size w0 w1 → (w1.cell? ⟨bx, 0, none⟩ = some (.slice a1 xl.length c1) ∧ w1.cell? ⟨bx, 1, none⟩ = some (.slice a2 xb.len c2)) ∧
      (w1.cell? ⟨bx + 1, 0, none⟩ = some (.slice b1 xl.length d1) ∧ w1.cell? ⟨bx + 1, 1, none⟩ = some (.slice b2 xb.len d2)) := fun w1 hb =>
    ⟨⟨cell_of_row w1 bx 0 _ _ _ (hrow w1 hb).1, cell_of_row w1 bx 1 _ _ _ (hrow w1 hb).1⟩,
     ⟨cell_of_row w1 (bx + 1) 0 _ _ _ (hrow w1 hb).2, cell_of_row w1 (bx + 1) 1 _ _ _ (hrow w1 hb).2⟩⟩
  rw [← hw0] at hA
  have HX := Lib.hid hbox
  have Y0 := Lib.hid hA
  have T1 := Lib.hid (ht1.below (hA.mono hB))
  have T2 := Lib.hid (ht2.below (hA.mono hB))
  have N1 := Lib.hid (hv1.below (hA.mono hB))
  have N2 := Lib.hid (hv2.below (hA.mono hB))
  have HB0 := Lib.hid (Nat.le_trans hB hA.size)
  clear hA1 hA hr0 hr1 hrow hbox ht1 ht2 hv1 hv2 hB
  go_upto_region 1 with fail
  rw [← hbx, ← hw0]
  clear hbx hw0
  obtain ⟨⟨p0, p1⟩, ⟨q0, q1⟩⟩ := HX.out w0 (Below.refl _ _)
  go_wp2_with fail
  refine (left_funcs HB0.out T1.out N1.out).mono ?_
  rintro e w1 ⟨rfl, hb⟩
  have K1 := Lib.hid hb
  clear hb p0 p1 q0 q1
  obtain ⟨⟨p0, p1⟩, ⟨q0, q1⟩⟩ := HX.out w1 K1.out
  go_wp2_with fail
  refine (left_nodes_t (Nat.le_trans HB0.out K1.out.size) (T2.out.below (K1.out.mono HB0.out)) (N2.out.below (K1.out.mono HB0.out))).mono ?_
  rintro e w2 ⟨rfl, hb⟩
  have K2 := Lib.hid (K1.out.trans (hb.mono K1.out.size))
  clear hb p0 p1 q0 q1
  go_wp2_with fail
  go_ret
  exact ⟨rfl, Y0.out.trans (K2.out.mono Y0.out.size)⟩
end Go.Proofs.YtmkhfonafcikdaaGreatDoor

/- Arguments, opened: slices of slices of bytes, with the reach. No program in sight. -/
namespace Go.My
open Go.RowKit

/-- What a datum weighs, each part by itself, is within the reach. -/
def Light {H : Type} (P : Program) (t : TypeId) (d : DataW H) : Prop := ∀ n ∈ d.weights P t, n ≤ reachBytes

theorem light_of_all {H : Type} {P : Program} : ∀ (ts us : List TypeId) (ds es : List (DataW H)), ts.length = ds.length → (DataW.weightsEach P (ts ++ us) (ds ++ es)).all (· ≤ reachBytes) = true →
    ∀ (j : Nat) (t : TypeId) (d : DataW H), ts[j]? = some t → ds[j]? = some d → Light P t d := by
  intro ts
  induction ts with
  | nil => intro us ds es _ _ j t d h; simp at h
  | cons t0 ts ih =>
    intro us ds es hl h j t d ht hd
    cases ds with
    | nil => simp at hl
    | cons d0 ds =>
      simp only [List.cons_append, DataW.weightsEach, List.all_append, Bool.and_eq_true] at h
      cases j with
      | zero =>
        simp at ht hd
        subst ht; subst hd
        intro n hn
        have := List.all_eq_true.1 h.1 n hn
        simpa using this
      | succ j =>
        simp only [List.getElem?_cons_succ] at ht hd
        exact ih us ds es (by simpa using hl) h.2 j t d ht hd

theorem light_all {H : Type} {P : Program} {e : TypeId} : ∀ {l : List (DataW H)}, (∀ n ∈ DataW.weightsAll P e l, n ≤ reachBytes) → ∀ d ∈ l, Light P e d := by
  intro l
  induction l with
  | nil => intro _ d h; cases h
  | cons x l ih =>
    intro h d hd
    simp only [DataW.weightsAll, List.mem_append] at h
    rcases List.mem_cons.1 hd with rfl | hd
    · exact fun n hn => h n (.inl hn)
    · exact ih (fun n hn => h n (.inr hn)) d hd

theorem Light.slice {H : Type} {P : Program} {t e : TypeId} {xs ys : List (DataW H)} (h : Light P t (.slice xs ys)) (ht : P.underlying t = some (.slice e)) :
    (xs.length + ys.length) * P.bytesOf e ≤ reachBytes ∧ ∀ d ∈ xs, Light P e d := by
  unfold Light at h
  simp only [DataW.weights, ht, List.mem_cons, List.mem_append] at h
  exact ⟨h _ (.inl rfl), light_all fun n hn => h n (.inr (.inl hn))⟩

open Go.ChangeShapes Go.WideShapes Go.ChangeAt Go.Deep in
theorem frames_of_trod {H : Type} {enc : TypeId × Value → H} {P : Program} {W : World} {base : Nat} {t e q : TypeId} {v : Value} {d : DataW H} {p : List MemPlace}
    (ht : P.underlying t = some (.slice e)) (he : P.underlying e = some (.slice q)) (hq : P.underlying q = some (.int .u8)) (ce : P.cellsOf e = 1) (cq : P.cellsOf q = 1) (bq : P.bytesOf q = 1)
    (hok : Value.okWide P W .any base t v) (h : DataW.Trod enc P W 0 (fun _ => true) true t v d p) (hw : Light P t d) : ∃ ls : List (List UInt8), FramesIn W (fun b => b < W.heap.size) v ls ∧ ∀ l ∈ ls, l.length ≤ 140737488351232 := by
  obtain ⟨a, len, cap, rfl⟩ := okWide_slice ht hok
  obtain ⟨fuel, hf⟩ := h
  rcases open_int_rows ht he hq ce cq hf with ⟨hcs, _⟩ | ⟨x, l, c, A, L, C, Z, hcs, _, hl, hm, hx, hr⟩
  · simp [Value.cells] at hcs
    obtain ⟨rfl, rfl, rfl⟩ := hcs
    exact ⟨[], FramesIn.nil _ _, fun l h => by cases h⟩
  · simp [Value.cells] at hcs
    obtain ⟨rfl, rfl, rfl⟩ := hcs
    simp only [Prod.mk.injEq] at hx
    rw [hx.1] at hw
    have hd := (hw.slice ht).2
    -- each row
    have each : ∀ r, r < len → ∃ b : List UInt8, BytesIn W (fun b => b < W.heap.size) (.slice (A r) (L r) (C r)) b ∧ b.length ≤ 140737488351232 := by
      intro r hlt
      obtain ⟨hcell, h1, h2, h3, h4, h5, h6⟩ := hr r (by omega)
      obtain ⟨bs, hbs⟩ := bytes_of_ints h4
      have hzl : bs.length = C r := by rw [← h3, hbs, List.length_map]
      have hlight := hd _ (List.mem_map.2 ⟨r, List.mem_range.2 hlt, rfl⟩)
      cases hA : A r with
      | none =>
        have hC := h5 hA
        have hL : L r = 0 := by omega
        rw [hC, hL]
        exact ⟨[], BytesIn.nil _ _, by simp⟩
      | some a' =>
        have hb := (Light.slice (by rw [hA] at hlight; exact hlight) he).1
        rw [bq] at hb
        have hlen : (bs.take (L r)).length = L r := by rw [List.length_take]; omega
        refine ⟨bs.take (L r), ⟨some a', C r, by rw [List.length_map, hlen], by rw [List.length_map, hlen]; exact h1, h2, (fun e => by cases e), fun hne => ?_⟩, ?_⟩
        · have hpos : 0 < L r := by
            rcases Nat.eq_zero_or_pos (L r) with h0 | h0
            · rw [h0] at hne; simp at hne
            · exact h0
          obtain ⟨_, hcl⟩ := h6 a' hA
          have h0 := hcl 0 (by omega)
          obtain ⟨b, off, spot⟩ := a'
          have hspot : spot = none := by simpa [Addr.add] using World.cell?_spot h0
          subst hspot
          refine ⟨b, off, rfl, by simpa [add_none] using World.block_lt_of_cell? W _ h0, fun j u hu => ?_⟩
          have hj : j < L r := by have := (List.getElem?_eq_some_iff.1 hu).1; rw [List.length_map, hlen] at this; exact this
          have := hcl j (by omega)
          rw [add_none] at this
          rw [this, ← hu, List.getElem?_map, List.getElem?_take, if_pos hj, hbs]
          rw [List.getD_eq_getElem?_getD, List.getElem?_map]
          have hjb : j < bs.length := by omega
          simp [hjb, byteCell]
        · rw [hlen]
          simp [lits, hbs, hzl, reachBytes] at hb
          omega
    obtain ⟨y, hy⟩ := choose_lt each
    refine ⟨(List.range len).map y, ⟨(List.range len).map fun r => .slice (A r) (L r) (C r), ⟨some x, cap, by simp, by simp; exact hl, hm, (fun e => by cases e), fun hne => ?_⟩, by simp, fun j hj hj' => ?_⟩, fun l hl => ?_⟩
    · have hpos : 0 < len := by
        rcases Nat.eq_zero_or_pos len with h0 | h0
        · subst h0; simp at hne
        · exact h0
      have h0 := (hr 0 (by omega)).1
      obtain ⟨b, off, spot⟩ := x
      have hspot : spot = none := by simpa [Addr.add] using World.cell?_spot h0
      subst hspot
      refine ⟨b, off, rfl, by simpa [add_none] using World.block_lt_of_cell? W _ h0, fun j u hu => ?_⟩
      have hj : j < len := by have := (List.getElem?_eq_some_iff.1 hu).1; simpa using this
      have := (hr j (by omega)).1
      rw [add_none] at this
      rw [this, ← hu]
      simp [hj]
    · have hj2 : j < len := by simpa using hj
      simp only [List.getElem_map, List.getElem_range]
      exact (hy j hj2).1
    · obtain ⟨r, hr, rfl⟩ := List.mem_map.1 hl
      exact (hy r (List.mem_range.1 hr)).2
end Go.My

/- Arguments, opened: the fields of a struct that is handed in by value. No program in sight. -/
namespace Go.My
open Go.RowKit

open Go.ChangeShapes Go.WideShapes Go.ChangeAt in
theorem bytes_of_cell {H : Type} {enc : TypeId × Value → H} {P : Program} {W : World} {n0 : Nat} {t e : TypeId} {v : Value} {y0 : DataW H × List MemPlace} (ht : P.underlying t = some (.slice e)) (he : P.underlying e = some (.int .u8)) (ce : P.cellsOf e = 1)
    (hf : DataW.trod enc P W 0 (fun _ => true) true n0 t [v] = some y0) : ∃ l : List UInt8, BytesIn W (fun b => b < W.heap.size) v l := by
  obtain ⟨a, len, cap, ev⟩ := Go.Joins.slice_form ht hf
  obtain rfl : v = .slice a len cap := by simpa using ev
  rcases open_ints ht he ce hf with ⟨hcs, _⟩ | ⟨x, l, c, zs, hcs, _, hl, hm, hz, _, hcell, hwz⟩
  · simp at hcs
    obtain ⟨rfl, rfl, rfl⟩ := hcs
    exact ⟨[], BytesIn.nil _ _⟩
  · simp at hcs
    obtain ⟨rfl, rfl, rfl⟩ := hcs
    simp only [if_true] at hz
    obtain ⟨bs, rfl⟩ := bytes_of_ints hwz
    rw [List.length_map] at hz
    refine ⟨bs.take len, some x, cap, by simp; omega, by simp; omega, hm, (fun e => by cases e), fun hne => ?_⟩
    have hlen : 0 < len := by
      rcases Nat.eq_zero_or_pos len with h0 | h0
      · subst h0; simp at hne
      · exact h0
    have h0 := hcell 0 (by simp; omega)
    obtain ⟨b, off, spot⟩ := x
    have hspot : spot = none := by simpa [Addr.add] using World.cell?_spot h0
    subst hspot
    refine ⟨b, off, rfl, by simpa [add_none] using World.block_lt_of_cell? W _ h0, fun j u hu => ?_⟩
    have hj : j < bs.length := by have := (List.getElem?_eq_some_iff.1 hu).1; simp at this; omega
    have := hcell j (by simpa using hj)
    rw [add_none] at this
    rw [this, ← hu, List.getElem?_map, List.getElem?_take]
    rw [if_pos (by have := (List.getElem?_eq_some_iff.1 hu).1; simp at this; omega)]
    simp [hj, byteCell]

open Go.ChangeShapes Go.WideShapes Go.ChangeAt Go.Deep in
theorem frames_of_cell {H : Type} {enc : TypeId × Value → H} {P : Program} {W : World} {n0 : Nat} {t e q : TypeId} {v : Value} {y0 : DataW H × List MemPlace}
    (ht : P.underlying t = some (.slice e)) (he : P.underlying e = some (.slice q)) (hq : P.underlying q = some (.int .u8)) (ce : P.cellsOf e = 1) (cq : P.cellsOf q = 1) (bq : P.bytesOf q = 1)
    (hf : DataW.trod enc P W 0 (fun _ => true) true n0 t [v] = some y0) (hw : Light P t y0.1) : ∃ ls : List (List UInt8), FramesIn W (fun b => b < W.heap.size) v ls ∧ ∀ l ∈ ls, l.length ≤ 140737488351232 := by
  obtain ⟨a, len, cap, ev⟩ := Go.Joins.slice_form ht hf
  obtain rfl : v = .slice a len cap := by simpa using ev
  rcases open_int_rows ht he hq ce cq hf with ⟨hcs, _⟩ | ⟨x, l, c, A, L, C, Z, hcs, _, hl, hm, hx, hr⟩
  · simp at hcs
    obtain ⟨rfl, rfl, rfl⟩ := hcs
    exact ⟨[], FramesIn.nil _ _, fun l h => by cases h⟩
  · simp at hcs
    obtain ⟨rfl, rfl, rfl⟩ := hcs
    subst hx
    simp only at hw
    have hd := (hw.slice ht).2
    -- each row
    have each : ∀ r, r < len → ∃ b : List UInt8, BytesIn W (fun b => b < W.heap.size) (.slice (A r) (L r) (C r)) b ∧ b.length ≤ 140737488351232 := by
      intro r hlt
      obtain ⟨hcell, h1, h2, h3, h4, h5, h6⟩ := hr r (by omega)
      obtain ⟨bs, hbs⟩ := bytes_of_ints h4
      have hzl : bs.length = C r := by rw [← h3, hbs, List.length_map]
      have hlight := hd _ (List.mem_map.2 ⟨r, List.mem_range.2 hlt, rfl⟩)
      cases hA : A r with
      | none =>
        have hC := h5 hA
        have hL : L r = 0 := by omega
        rw [hC, hL]
        exact ⟨[], BytesIn.nil _ _, by simp⟩
      | some a' =>
        have hb := (Light.slice (by rw [hA] at hlight; exact hlight) he).1
        rw [bq] at hb
        have hlen : (bs.take (L r)).length = L r := by rw [List.length_take]; omega
        refine ⟨bs.take (L r), ⟨some a', C r, by rw [List.length_map, hlen], by rw [List.length_map, hlen]; exact h1, h2, (fun e => by cases e), fun hne => ?_⟩, ?_⟩
        · have hpos : 0 < L r := by
            rcases Nat.eq_zero_or_pos (L r) with h0 | h0
            · rw [h0] at hne; simp at hne
            · exact h0
          obtain ⟨_, hcl⟩ := h6 a' hA
          have h0 := hcl 0 (by omega)
          obtain ⟨b, off, spot⟩ := a'
          have hspot : spot = none := by simpa [Addr.add] using World.cell?_spot h0
          subst hspot
          refine ⟨b, off, rfl, by simpa [add_none] using World.block_lt_of_cell? W _ h0, fun j u hu => ?_⟩
          have hj : j < L r := by have := (List.getElem?_eq_some_iff.1 hu).1; rw [List.length_map, hlen] at this; exact this
          have := hcl j (by omega)
          rw [add_none] at this
          rw [this, ← hu, List.getElem?_map, List.getElem?_take, if_pos hj, hbs]
          rw [List.getD_eq_getElem?_getD, List.getElem?_map]
          have hjb : j < bs.length := by omega
          simp [hjb, byteCell]
        · rw [hlen]
          simp [lits, hbs, hzl, reachBytes] at hb
          omega
    obtain ⟨y, hy⟩ := choose_lt each
    refine ⟨(List.range len).map y, ⟨(List.range len).map fun r => .slice (A r) (L r) (C r), ⟨some x, cap, by simp, by simp; exact hl, hm, (fun e => by cases e), fun hne => ?_⟩, by simp, fun j hj hj' => ?_⟩, fun l hl => ?_⟩
    · have hpos : 0 < len := by
        rcases Nat.eq_zero_or_pos len with h0 | h0
        · subst h0; simp at hne
        · exact h0
      have h0 := (hr 0 (by omega)).1
      obtain ⟨b, off, spot⟩ := x
      have hspot : spot = none := by simpa [Addr.add] using World.cell?_spot h0
      subst hspot
      refine ⟨b, off, rfl, by simpa [add_none] using World.block_lt_of_cell? W _ h0, fun j u hu => ?_⟩
      have hj : j < len := by have := (List.getElem?_eq_some_iff.1 hu).1; simpa using this
      have := (hr j (by omega)).1
      rw [add_none] at this
      rw [this, ← hu]
      simp [hj]
    · have hj2 : j < len := by simpa using hj
      simp only [List.getElem_map, List.getElem_range]
      exact (hy j hj2).1
    · obtain ⟨r, hr, rfl⟩ := List.mem_map.1 hl
      exact (hy r (List.mem_range.1 hr)).2

theorem light_each {H : Type} {P : Program} : ∀ (ts : List TypeId) (ds : List (DataW H)), (∀ n ∈ DataW.weightsEach P ts ds, n ≤ reachBytes) → ∀ (j : Nat) (t : TypeId) (d : DataW H), ts[j]? = some t → ds[j]? = some d → Light P t d := by
  intro ts
  induction ts with
  | nil => intro ds _ j t d h; simp at h
  | cons t0 ts ih =>
    intro ds h j t d ht hd
    cases ds with
    | nil => simp at hd
    | cons d0 ds =>
      simp only [DataW.weightsEach, List.mem_append] at h
      cases j with
      | zero => simp at ht hd; subst ht; subst hd; exact fun n hn => h n (.inl hn)
      | succ j => simp only [List.getElem?_cons_succ] at ht hd; exact ih ds (fun n hn => h n (.inr hn)) j t d ht hd

theorem Light.fields {H : Type} {P : Program} {t : TypeId} {fs : Array Field} {ds : List (DataW H)} (h : Light P t (.agg ds)) (ht : P.underlying t = some (.struct fs)) : ∀ (j : Nat) (u : TypeId) (d : DataW H), (fs.toList.map (·.type))[j]? = some u → ds[j]? = some d → Light P u d := by
  unfold Light at h
  simp only [DataW.weights, ht] at h
  exact light_each _ _ h
end Go.My

/- Arguments, opened: programs as trees. No program in sight. -/
namespace Go.My
open Go.RowKit Go.Nd

/-- The types of a node, as the program numbers them: a list of nodes, a node, its kind, a string. -/
structure NodeTypes (P : Program) (tl tn tk ts : TypeId) : Prop where
  l : P.underlying tl = some (.slice tn)
  n : ∃ f0 f1 f2 f3 f4, P.underlying tn = some (.struct #[f0, f1, f2, f3, f4]) ∧ f0.type = tk ∧ f0.offset = 0 ∧ f1.type = ts ∧ f1.offset = 1 ∧ f2.type = tl ∧ f2.offset = 2 ∧ f3.type = tl ∧ f3.offset = 3 ∧ f4.type = tl ∧ f4.offset = 4
  k : P.underlying tk = some (.int .u8)
  s : P.underlying ts = some .string
  cn : P.cellsOf tn = 5
  ck : P.cellsOf tk = 1
  cs : P.cellsOf ts = 1
  cl : P.cellsOf tl = 1
  bn : P.bytesOf tn = 96

theorem list5 {cs : List Value} (h : cs.length = 5) : ∃ c0 c1 c2 c3 c4, cs = [c0, c1, c2, c3, c4] := by
  match cs, h with
  | [c0, c1, c2, c3, c4], _ => exact ⟨c0, c1, c2, c3, c4, rfl⟩
theorem list5' {α : Type} {cs : List α} (h : cs.length = 5) : ∃ c0 c1 c2 c3 c4, cs = [c0, c1, c2, c3, c4] := by
  match cs, h with
  | [c0, c1, c2, c3, c4], _ => exact ⟨c0, c1, c2, c3, c4, rfl⟩

/-- The five cells of one node, read. -/
theorem node_cells {H : Type} {enc : TypeId × Value → H} {P : Program} {W : World} {tl tn tk ts : TypeId} (T : NodeTypes P tl tn tk ts) {n : Nat} {cs : List Value} {y : DataW H × List MemPlace}
    (h : DataW.trod enc P W 0 (fun _ => true) true n tn cs = some y) (hw : Light P tn y.1) :
    ∃ (m k : Nat) (t : List UInt8) (v1 v2 v3 : Value) (y1 y2 y3 : DataW H × List MemPlace), n = m + 1 ∧ cs = [.int .u8 (k : Int), .string (tx t), v1, v2, v3] ∧ k < 256 ∧ t.length ≤ 140737488351232 ∧
      DataW.trod enc P W 0 (fun _ => true) true m tl [v1] = some y1 ∧ DataW.trod enc P W 0 (fun _ => true) true m tl [v2] = some y2 ∧ DataW.trod enc P W 0 (fun _ => true) true m tl [v3] = some y3 ∧
      Light P tl y1.1 ∧ Light P tl y2.1 ∧ Light P tl y3.1 := by
  obtain ⟨f0, f1, f2, f3, f4, hn, e0, o0, e1, o1, e2, o2, e3, o3, e4, o4⟩ := T.n
  obtain ⟨xs, m, rfl, rfl, hc, hx, hf⟩ := DataW.trod_struct hn h
  rw [T.cn] at hc
  obtain ⟨c0, c1, c2, c3, c4, rfl⟩ := list5 hc
  obtain ⟨y0, y1, y2, y3, y4, rfl⟩ := list5' (show xs.length = 5 from hx)
  have g0 := hf 0 f0 rfl
  have g1 := hf 1 f1 rfl
  have g2 := hf 2 f2 rfl
  have g3 := hf 3 f3 rfl
  have g4 := hf 4 f4 rfl
  rw [e0, o0, T.ck] at g0
  rw [e1, o1, T.cs] at g1
  rw [e2, o2, T.cl] at g2
  rw [e3, o3, T.cl] at g3
  rw [e4, o4, T.cl] at g4
  obtain ⟨z, hz, hy0, hwf⟩ := DataW.trod_int T.k (show DataW.trod enc P W 0 (fun _ => true) true m tk [c0] = some y0 from g0)
  obtain ⟨s, hs, hy1, _⟩ := DataW.trod_string T.s (show DataW.trod enc P W 0 (fun _ => true) true m ts [c1] = some y1 from g1)
  have hl := hw.fields hn
  have l1 := hl 1 ts y1.1 (by simp [e1]) rfl
  have l2 := hl 2 tl y2.1 (by simp [e2]) rfl
  have l3 := hl 3 tl y3.1 (by simp [e3]) rfl
  have l4 := hl 4 tl y4.1 (by simp [e4]) rfl
  have hz' : c0 = .int .u8 z := by simpa using hz
  have hs' : c1 = .string s := by simpa using hs
  simp [Lit.wf, IntKind.min, IntKind.max, IntKind.signed, IntKind.bits] at hwf
  refine ⟨m, z.toNat, s.data.toList, c2, c3, c4, y2, y3, y4, rfl, ?_, by omega, ?_, g2, g3, g4, l2, l3, l4⟩
  · have : ((z.toNat : Nat) : Int) = z := by omega
    rw [hz', hs', this]; rfl
  · have := l1 s.data.toList.length (by rw [hy1]; simp [DataW.weights])
    simpa [reachBytes] using this

/-- A list of nodes that comes in. -/
theorem nodes_of_trod {H : Type} {enc : TypeId × Value → H} {P : Program} {W : World} {tl tn tk ts : TypeId} (T : NodeTypes P tl tn tk ts) :
    ∀ (n : Nat) (v : Value) (y : DataW H × List MemPlace), DataW.trod enc P W 0 (fun _ => true) true n tl [v] = some y → Light P tl y.1 → ∃ xs : Ns, Nodes W (fun b => b < W.heap.size) false v xs := by
  intro n
  induction n using Nat.strongRecOn with
  | _ n ih =>
    intro v y h hw
    rcases DataW.trod_slice T.l h with ⟨hv, hy⟩ | ⟨a, len, cap, elems, rest, n', rfl, hv, hy, _, hlc, hcm, hel, helem, hrest, _⟩
    · obtain rfl : v = .slice none 0 0 := by simpa using hv
      exact ⟨.nil, none, 0, rfl, ⟨Nat.le_refl _, Nat.zero_le _, by decide, fun e => by cases e⟩, .nil none (fun e => by cases e)⟩
    · obtain rfl : v = .slice (some a) len cap := by simpa using hv
      rw [hy] at hw
      obtain ⟨hb, hd⟩ := hw.slice T.l
      rw [T.bn] at hb
      obtain ⟨hrl, _⟩ := hrest rfl
      have hlen : len * 96 ≤ 140737488351232 := by
        have h1 : (elems.map (·.1)).length = len := by simpa using hel
        rw [h1] at hb
        have h2 : len * 96 ≤ (len + (rest.map (·.1)).length) * 96 := Nat.mul_le_mul_right _ (Nat.le_add_right _ _)
        exact Nat.le_trans h2 hb
      rw [T.cn] at helem
      -- each node
      have each : ∀ i, i < len → ∃ (k : Nat) (t : List UInt8) (l body els : Ns) (a1 a2 a3 : Option Addr) (c1 c2 c3 : Nat), k < 256 ∧ t.length ≤ 140737488351232 ∧ (∀ j, j < 5 → W.cell? ((a.add (i * 5)).add j) = [Value.int .u8 (k : Int), .string (tx t), .slice a1 l.len c1, .slice a2 body.len c2, .slice a3 els.len c3][j]?) ∧
          Room false l.len c1 ∧ Room false body.len c2 ∧ Room false els.len c3 ∧ NodesAt W (fun b => b < W.heap.size) false a1 l ∧ NodesAt W (fun b => b < W.heap.size) false a2 body ∧ NodesAt W (fun b => b < W.heap.size) false a3 els := by
        intro i hi
        have h1 := helem i hi
        have hie : i < elems.length := by omega
        rw [List.getElem?_eq_getElem hie] at h1
        cases hc : W.cells? 0 (a.add (i * 5)) 5 with
        | none => rw [hc] at h1; cases h1
        | some cs =>
          rw [hc] at h1
          have h1' : DataW.trod enc P W 0 (fun _ => true) true n' tn cs = some elems[i] := h1
          obtain ⟨m, k, t, v1, v2, v3, y1, y2, y3, rfl, rfl, hk, ht, q1, q2, q3, l1, l2, l3⟩ := node_cells T h1' (hd _ (List.mem_map.2 ⟨_, List.getElem_mem hie, rfl⟩))
          obtain ⟨x1, a1, c1, e1, r1, n1⟩ := ih m (by omega) v1 y1 q1 l1
          obtain ⟨x2, a2, c2, e2, r2, n2⟩ := ih m (by omega) v2 y2 q2 l2
          obtain ⟨x3, a3, c3, e3, r3, n3⟩ := ih m (by omega) v3 y3 q3 l3
          subst e1 e2 e3
          exact ⟨k, t, x1, x2, x3, a1, a2, a3, c1, c2, c3, hk, ht, (World.cells?_some hc).2.2, r1, r2, r3, n1, n2, n3⟩
      by_cases h0 : len = 0
      · subst h0
        exact ⟨.nil, some a, cap, rfl, ⟨Nat.zero_le _, hcm, by decide, fun e => by cases e⟩, .nil _ (fun e => by cases e)⟩
      · obtain ⟨b, off, spot⟩ := a
        have hspot : spot = none := by
          obtain ⟨_, _, _, _, _, _, _, _, _, _, _, _, _, hcell, _⟩ := each 0 (by omega)
          simpa [Addr.add] using World.cell?_spot (hcell 0 (by decide))
        subst hspot
        have all : ∀ j, j ≤ len → ∃ xs : Ns, xs.len = j ∧ NodesAt W (fun b => b < W.heap.size) false (some ⟨b, off + (len - j) * 5, none⟩) xs := by
          intro j
          induction j with
          | zero => intro _; exact ⟨.nil, rfl, .nil _ (fun e => by cases e)⟩
          | succ j ihj =>
            intro hj
            obtain ⟨xs, hx, hN⟩ := ihj (by omega)
            obtain ⟨k, t, l, body, els, a1, a2, a3, c1, c2, c3, hk, ht, hcell, r1, r2, r3, n1, n2, n3⟩ := each (len - (j + 1)) (by omega)
            have e5 : off + (len - j) * 5 = off + (len - (j + 1)) * 5 + 5 := by
              have : len - j = len - (j + 1) + 1 := by omega
              rw [this, Nat.succ_mul]; omega
            rw [e5] at hN
            have q : ∀ o, o < 5 → W.cell? ⟨b, off + (len - (j + 1)) * 5 + o, none⟩ = [Value.int .u8 (k : Int), .string (tx t), .slice a1 l.len c1, .slice a2 body.len c2, .slice a3 els.len c3][o]? := by
              intro o ho
              have := hcell o ho
              rw [add_none, add_none] at this
              exact this
            have d0 := q 0 (by decide)
            rw [Nat.add_zero] at d0
            exact ⟨.cons k t l body els xs, by show (Ns.items _).length = _; rw [Ns.items_cons, List.length_cons]; exact congrArg (· + 1) hx,
              .cons (World.block_lt_of_cell? W _ d0) hk ht d0 (q 1 (by decide)) (q 2 (by decide)) (q 3 (by decide)) (q 4 (by decide)) r1 r2 r3 n1 n2 n3 hN⟩
        obtain ⟨xs, hx, hN⟩ := all len (Nat.le_refl _)
        rw [Nat.sub_self, Nat.zero_mul, Nat.add_zero] at hN
        subst hx
        exact ⟨xs, _, cap, rfl, ⟨hlc, hcm, hlen, fun e => by cases e⟩, hN⟩
end Go.My

/- Arguments, opened: texts, functions, a program. No program in sight. -/
namespace Go.My
open Go.RowKit Go.Nd

structure TextTypes (P : Program) (ta ts : TypeId) : Prop where
  a : P.underlying ta = some (.slice ts)
  s : P.underlying ts = some .string
  cs : P.cellsOf ts = 1
  bs : P.bytesOf ts = 16

theorem text_of_trod {H : Type} {enc : TypeId × Value → H} {P : Program} {W : World} {ts : TypeId} (hts : P.underlying ts = some .string) {n : Nat} {cs : List Value} {y : DataW H × List MemPlace}
    (h : DataW.trod enc P W 0 (fun _ => true) true n ts cs = some y) (hw : Light P ts y.1) : ∃ t : List UInt8, cs = [.string (tx t)] ∧ t.length ≤ 140737488351232 := by
  obtain ⟨s, hs, hy, _⟩ := DataW.trod_string hts h
  refine ⟨s.data.toList, by rw [hs]; rfl, ?_⟩
  have := hw s.data.toList.length (by rw [hy]; simp [DataW.weights])
  simpa [reachBytes] using this

open Go.ChangeShapes Go.WideShapes Go.ChangeAt Go.Deep in
theorem texts_of_trod {H : Type} {enc : TypeId × Value → H} {P : Program} {W : World} {ta ts : TypeId} (T : TextTypes P ta ts) {n : Nat} {v : Value} {y : DataW H × List MemPlace}
    (hf : DataW.trod enc P W 0 (fun _ => true) true n ta [v] = some y) (hw : Light P ta y.1) : ∃ l : List (List UInt8), TextsIn W (fun b => b < W.heap.size) false v l := by
  rcases DataW.trod_slice T.a hf with ⟨hvv, hy⟩ | ⟨a, len, cap, elems, rest, n', rfl, hvv, hy, _, hlc, hcm, hel, helem, hrest, _⟩
  · obtain rfl : v = .slice none 0 0 := by simpa using hvv
    exact ⟨[], none, 0, rfl, Nat.le_refl _, Nat.zero_le _, by decide, (fun e => by cases e), fun i hi => absurd hi (Nat.not_lt_zero _)⟩
  · obtain rfl : v = .slice (some a) len cap := by simpa using hvv
    rw [hy] at hw
    obtain ⟨hb, hd⟩ := hw.slice T.a
    rw [T.bs] at hb
    obtain ⟨hrl, _⟩ := hrest rfl
    have hlen : len * 16 ≤ 140737488351232 := by
      have h1 : (elems.map (·.1)).length = len := by simpa using hel
      rw [h1] at hb
      have h2 : len * 16 ≤ (len + (rest.map (·.1)).length) * 16 := Nat.mul_le_mul_right _ (Nat.le_add_right _ _)
      first | exact Nat.le_trans h2 hb | (unfold reachBytes at hb; omega)
    rw [T.cs] at helem
    have each : ∀ i, i < len → ∃ x : List UInt8, x.length ≤ 140737488351232 ∧ (∀ j, j < 1 → W.cell? ((a.add (i * 1)).add j) = [Value.string (tx x)][j]?) := by
      intro i hi
      have h1 := helem i hi
      have hie : i < elems.length := by omega
      rw [List.getElem?_eq_getElem hie] at h1
      cases hc : W.cells? 0 (a.add (i * 1)) 1 with
      | none => rw [hc] at h1; cases h1
      | some cs =>
        rw [hc] at h1
        have h1' : DataW.trod enc P W 0 (fun _ => true) true n' ts cs = some elems[i] := h1
        obtain ⟨t, rfl, ht⟩ := text_of_trod T.s h1' (hd _ (List.mem_map.2 ⟨_, List.getElem_mem hie, rfl⟩))
        exact ⟨t, ht, (World.cells?_some hc).2.2⟩
    obtain ⟨y, hy⟩ := choose_lt each
    refine ⟨(List.range len).map y, some a, cap, by simp, by simp; exact hlc, hcm, by simpa using hlen, (fun e => by cases e), fun i hi => ?_⟩
    have hi2 : i < len := by simpa using hi
    simp only [List.getElem_map, List.getElem_range]
    obtain ⟨h1, h4⟩ := hy i hi2
    obtain ⟨b, off, spot⟩ := a
    have c0 := h4 0 (by decide)
    have hspot : spot = none := by
      obtain ⟨_, h5⟩ := hy 0 (by omega)
      simpa [Addr.add] using World.cell?_spot (h5 0 (by decide))
    subst hspot
    rw [add_none, add_none] at c0
    rw [Nat.add_zero, Nat.mul_one] at c0
    exact ⟨b, off, rfl, World.block_lt_of_cell? W _ c0, c0, h1⟩

/-- The types of a function: a list of them, one, its arguments. -/
structure FnTypes (P : Program) (tF tf ta tl tn tk ts : TypeId) : Prop where
  node : NodeTypes P tl tn tk ts
  text : TextTypes P ta ts
  l : P.underlying tF = some (.slice tf)
  f : ∃ f0 f1 f2, P.underlying tf = some (.struct #[f0, f1, f2]) ∧ f0.type = ts ∧ f0.offset = 0 ∧ f1.type = ta ∧ f1.offset = 1 ∧ f2.type = tl ∧ f2.offset = 2
  cf : P.cellsOf tf = 3
  ca : P.cellsOf ta = 1
  bf : P.bytesOf tf = 64

theorem list3 {cs : List Value} (h : cs.length = 3) : ∃ c0 c1 c2, cs = [c0, c1, c2] := by
  match cs, h with
  | [c0, c1, c2], _ => exact ⟨c0, c1, c2, rfl⟩
theorem list3' {α : Type} {cs : List α} (h : cs.length = 3) : ∃ c0 c1 c2, cs = [c0, c1, c2] := by
  match cs, h with
  | [c0, c1, c2], _ => exact ⟨c0, c1, c2, rfl⟩

theorem fn_cells {H : Type} {enc : TypeId × Value → H} {P : Program} {W : World} {tF tf ta tl tn tk ts : TypeId} (T : FnTypes P tF tf ta tl tn tk ts) {n : Nat} {cs : List Value} {y : DataW H × List MemPlace}
    (h : DataW.trod enc P W 0 (fun _ => true) true n tf cs = some y) (hw : Light P tf y.1) :
    ∃ (f : Nd.Fn) (v1 v2 : Value), cs = [.string (tx f.name), v1, v2] ∧ f.name.length ≤ 140737488351232 ∧ TextsIn W (fun b => b < W.heap.size) false v1 f.args ∧ Nodes W (fun b => b < W.heap.size) false v2 f.body := by
  obtain ⟨f0, f1, f2, hn, e0, o0, e1, o1, e2, o2⟩ := T.f
  obtain ⟨xs, m, rfl, rfl, hc, hx, hf⟩ := DataW.trod_struct hn h
  rw [T.cf] at hc
  obtain ⟨c0, c1, c2, rfl⟩ := list3 hc
  obtain ⟨y0, y1, y2, rfl⟩ := list3' (show xs.length = 3 from hx)
  have g0 := hf 0 f0 rfl
  have g1 := hf 1 f1 rfl
  have g2 := hf 2 f2 rfl
  rw [e0, o0, T.node.cs] at g0
  rw [e1, o1, T.ca] at g1
  rw [e2, o2, T.node.cl] at g2
  have hl := hw.fields hn
  have l0 := hl 0 ts y0.1 (by simp [e0]) rfl
  have l1 := hl 1 ta y1.1 (by simp [e1]) rfl
  have l2 := hl 2 tl y2.1 (by simp [e2]) rfl
  obtain ⟨t, ht, htl⟩ := text_of_trod T.node.s (show DataW.trod enc P W 0 (fun _ => true) true m ts [c0] = some y0 from g0) l0
  obtain ⟨ars, has⟩ := texts_of_trod T.text (show DataW.trod enc P W 0 (fun _ => true) true m ta [c1] = some y1 from g1) l1
  obtain ⟨bd, hbd⟩ := nodes_of_trod T.node m c2 y2 (show DataW.trod enc P W 0 (fun _ => true) true m tl [c2] = some y2 from g2) l2
  have ht' : c0 = .string (tx t) := by simpa using ht
  exact ⟨⟨t, ars, bd⟩, c1, c2, by rw [ht'], htl, has, hbd⟩

open Go.ChangeShapes Go.WideShapes Go.ChangeAt Go.Deep in
theorem funcs_of_trod {H : Type} {enc : TypeId × Value → H} {P : Program} {W : World} {tF tf ta tl tn tk ts : TypeId} (T : FnTypes P tF tf ta tl tn tk ts) {n : Nat} {v : Value} {y : DataW H × List MemPlace}
    (hf : DataW.trod enc P W 0 (fun _ => true) true n tF [v] = some y) (hw : Light P tF y.1) : ∃ l : List Nd.Fn, FuncsIn W (fun b => b < W.heap.size) false v l := by
  rcases DataW.trod_slice T.l hf with ⟨hvv, hy⟩ | ⟨a, len, cap, elems, rest, n', rfl, hvv, hy, _, hlc, hcm, hel, helem, hrest, _⟩
  · obtain rfl : v = .slice none 0 0 := by simpa using hvv
    exact ⟨[], none, 0, rfl, Nat.le_refl _, Nat.zero_le _, by decide, (fun e => by cases e), fun i hi => absurd hi (Nat.not_lt_zero _)⟩
  · obtain rfl : v = .slice (some a) len cap := by simpa using hvv
    rw [hy] at hw
    obtain ⟨hb, hd⟩ := hw.slice T.l
    rw [T.bf] at hb
    obtain ⟨hrl, _⟩ := hrest rfl
    have hlen : len * 64 ≤ 140737488351232 := by
      have h1 : (elems.map (·.1)).length = len := by simpa using hel
      rw [h1] at hb
      have h2 : len * 64 ≤ (len + (rest.map (·.1)).length) * 64 := Nat.mul_le_mul_right _ (Nat.le_add_right _ _)
      first | exact Nat.le_trans h2 hb | (unfold reachBytes at hb; omega)
    rw [T.cf] at helem
    have each : ∀ i, i < len → ∃ x : Nd.Fn, ∃ v1 v2, x.name.length ≤ 140737488351232 ∧ TextsIn W (fun b => b < W.heap.size) false v1 x.args ∧ Nodes W (fun b => b < W.heap.size) false v2 x.body ∧ (∀ j, j < 3 → W.cell? ((a.add (i * 3)).add j) = [Value.string (tx x.name), v1, v2][j]?) := by
      intro i hi
      have h1 := helem i hi
      have hie : i < elems.length := by omega
      rw [List.getElem?_eq_getElem hie] at h1
      cases hc : W.cells? 0 (a.add (i * 3)) 3 with
      | none => rw [hc] at h1; cases h1
      | some cs =>
        rw [hc] at h1
        have h1' : DataW.trod enc P W 0 (fun _ => true) true n' tf cs = some elems[i] := h1
        obtain ⟨f, v1, v2, rfl, ht, h2, h3⟩ := fn_cells T h1' (hd _ (List.mem_map.2 ⟨_, List.getElem_mem hie, rfl⟩))
        exact ⟨f, v1, v2, ht, h2, h3, (World.cells?_some hc).2.2⟩
    have : Inhabited Nd.Fn := ⟨⟨[], [], .nil⟩⟩
    obtain ⟨y, hy⟩ := choose_lt each
    refine ⟨(List.range len).map y, some a, cap, by simp, by simp; exact hlc, hcm, by simpa using hlen, (fun e => by cases e), fun i hi => ?_⟩
    have hi2 : i < len := by simpa using hi
    simp only [List.getElem_map, List.getElem_range]
    obtain ⟨v1, v2, h1, h2, h3, h4⟩ := hy i hi2
    obtain ⟨b, off, spot⟩ := a
    have c0 := h4 0 (by decide)
    have hspot : spot = none := by
      obtain ⟨_, _, _, _, _, h5⟩ := hy 0 (by omega)
      simpa [Addr.add] using World.cell?_spot (h5 0 (by decide))
    subst hspot
    have c1 := h4 1 (by decide)
    have c2 := h4 2 (by decide)
    rw [add_none, add_none] at c0 c1 c2
    rw [Nat.add_zero] at c0
    exact ⟨b, off, v1, v2, rfl, World.block_lt_of_cell? W _ c0, h1, c0, c1, c2, h2, h3⟩
end Go.My

/- The types of programs, as this program numbers them. -/
namespace Go.Proofs.YtmkhfonafcikdaaGreatDoor
open Go.RowKit Go.My

theorem nodeTypes : NodeTypes Tryz.prog 23 61 59 9 :=
  ⟨Tryz.underlying23, ⟨_, _, _, _, _, Tryz.underlying61, rfl, rfl, rfl, rfl, rfl, rfl, rfl, rfl, rfl, rfl⟩, Tryz.underlying59, Tryz.underlying9, by kernel_rfl, by kernel_rfl, by kernel_rfl, by kernel_rfl, by kernel_rfl⟩
theorem textTypes : TextTypes Tryz.prog 32 9 := ⟨Tryz.underlying32, Tryz.underlying9, by kernel_rfl, by kernel_rfl⟩
theorem fnTypes : FnTypes Tryz.prog 22 57 32 23 61 59 9 :=
  ⟨nodeTypes, textTypes, Tryz.underlying22, ⟨_, _, _, Tryz.underlying57, rfl, rfl, rfl, rfl, rfl, rfl⟩, by kernel_rfl, by kernel_rfl, by kernel_rfl⟩
theorem cellsProg : Tryz.prog.cellsOf 25 = 2 := by kernel_rfl
end Go.Proofs.YtmkhfonafcikdaaGreatDoor

/- Arguments, opened, of so great a bulk: programs as trees (NdArgs, NdPArgs, with how many nodes and letters there are). -/
namespace Go.Proofs.YtmkhfonafcikdaaGreatDoor
open Go.RowKit Go.My Go.Nd

theorem bulk_one {H : Type} (d : DataW H) : 1 ≤ Rows.uptoBulk d := by
  cases d with
  | lit l => cases l <;> simp [Rows.uptoBulk]
  | nil => simp [Rows.uptoBulk]
  | ptr d => simp [Rows.uptoBulk]
  | slice elems spare => simp [Rows.uptoBulk]
  | agg parts => simp [Rows.uptoBulk]
  | iface t d => simp [Rows.uptoBulk]
  | map entries => simp [Rows.uptoBulk]
  | held h => simp [Rows.uptoBulk]

/-- The five cells of one node, read. -/
theorem node_cellsU {H : Type} {enc : TypeId × Value → H} {P : Program} {W : World} {tl tn tk ts : TypeId} (T : NodeTypes P tl tn tk ts) {n : Nat} {cs : List Value} {y : DataW H × List MemPlace}
    (h : DataW.trod enc P W 0 (fun _ => true) true n tn cs = some y) (hw : Light P tn y.1) :
    ∃ (m k : Nat) (t : List UInt8) (v1 v2 v3 : Value) (y1 y2 y3 : DataW H × List MemPlace), n = m + 1 ∧ cs = [.int .u8 (k : Int), .string (tx t), v1, v2, v3] ∧ k < 256 ∧ t.length ≤ 140737488351232 ∧
      DataW.trod enc P W 0 (fun _ => true) true m tl [v1] = some y1 ∧ DataW.trod enc P W 0 (fun _ => true) true m tl [v2] = some y2 ∧ DataW.trod enc P W 0 (fun _ => true) true m tl [v3] = some y3 ∧
      Light P tl y1.1 ∧ Light P tl y2.1 ∧ Light P tl y3.1 ∧ 1 + t.length + Rows.uptoBulk y1.1 + Rows.uptoBulk y2.1 + Rows.uptoBulk y3.1 ≤ Rows.uptoBulk y.1 := by
  obtain ⟨f0, f1, f2, f3, f4, hn, e0, o0, e1, o1, e2, o2, e3, o3, e4, o4⟩ := T.n
  obtain ⟨xs, m, rfl, rfl, hc, hx, hf⟩ := DataW.trod_struct hn h
  rw [T.cn] at hc
  obtain ⟨c0, c1, c2, c3, c4, rfl⟩ := list5 hc
  obtain ⟨y0, y1, y2, y3, y4, rfl⟩ := list5' (show xs.length = 5 from hx)
  have g0 := hf 0 f0 rfl
  have g1 := hf 1 f1 rfl
  have g2 := hf 2 f2 rfl
  have g3 := hf 3 f3 rfl
  have g4 := hf 4 f4 rfl
  rw [e0, o0, T.ck] at g0
  rw [e1, o1, T.cs] at g1
  rw [e2, o2, T.cl] at g2
  rw [e3, o3, T.cl] at g3
  rw [e4, o4, T.cl] at g4
  obtain ⟨z, hz, hy0, hwf⟩ := DataW.trod_int T.k (show DataW.trod enc P W 0 (fun _ => true) true m tk [c0] = some y0 from g0)
  obtain ⟨s, hs, hy1, _⟩ := DataW.trod_string T.s (show DataW.trod enc P W 0 (fun _ => true) true m ts [c1] = some y1 from g1)
  have hl := hw.fields hn
  have l1 := hl 1 ts y1.1 (by simp [e1]) rfl
  have l2 := hl 2 tl y2.1 (by simp [e2]) rfl
  have l3 := hl 3 tl y3.1 (by simp [e3]) rfl
  have l4 := hl 4 tl y4.1 (by simp [e4]) rfl
  have hz' : c0 = .int .u8 z := by simpa using hz
  have hs' : c1 = .string s := by simpa using hs
  simp [Lit.wf, IntKind.min, IntKind.max, IntKind.signed, IntKind.bits] at hwf
  refine ⟨m, z.toNat, s.data.toList, c2, c3, c4, y2, y3, y4, rfl, ?_, by omega, ?_, g2, g3, g4, l2, l3, l4, ?_⟩
  · have : ((z.toNat : Nat) : Int) = z := by omega
    rw [hz', hs', this]; rfl
  · have := l1 s.data.toList.length (by rw [hy1]; simp [DataW.weights])
    simpa [reachBytes] using this
  · have := bulk_one y0.1
    simp only [List.map_cons, List.map_nil, Rows.uptoBulk, Rows.uptoBulkAll]
    rw [hy1]
    simp only [Rows.uptoBulk]
    omega

/-- A list of nodes that comes in. -/
theorem nodes_of_trodU {H : Type} {enc : TypeId × Value → H} {P : Program} {W : World} {tl tn tk ts : TypeId} (T : NodeTypes P tl tn tk ts) :
    ∀ (n : Nat) (v : Value) (y : DataW H × List MemPlace), DataW.trod enc P W 0 (fun _ => true) true n tl [v] = some y → Light P tl y.1 → ∃ xs : Ns, Nodes W (fun b => b < W.heap.size) false v xs ∧ xs.sz ≤ Rows.uptoBulk y.1 := by
  intro n
  induction n using Nat.strongRecOn with
  | _ n ih =>
    intro v y h hw
    rcases DataW.trod_slice T.l h with ⟨hv, hy⟩ | ⟨a, len, cap, elems, rest, n', rfl, hv, hy, _, hlc, hcm, hel, helem, hrest, _⟩
    · obtain rfl : v = .slice none 0 0 := by simpa using hv
      exact ⟨.nil, ⟨none, 0, rfl, ⟨Nat.le_refl _, Nat.zero_le _, by decide, fun e => by cases e⟩, .nil none (fun e => by cases e)⟩, Nat.zero_le _⟩
    · obtain rfl : v = .slice (some a) len cap := by simpa using hv
      rw [hy] at hw
      obtain ⟨hb, hd⟩ := hw.slice T.l
      rw [T.bn] at hb
      obtain ⟨hrl, _⟩ := hrest rfl
      have hlen : len * 96 ≤ 140737488351232 := by
        have h1 : (elems.map (·.1)).length = len := by simpa using hel
        rw [h1] at hb
        have h2 : len * 96 ≤ (len + (rest.map (·.1)).length) * 96 := Nat.mul_le_mul_right _ (Nat.le_add_right _ _)
        exact Nat.le_trans h2 hb
      rw [T.cn] at helem
      have hbulk : Rows.uptoBulkAll (elems.map (·.1)) ≤ Rows.uptoBulk y.1 := by rw [hy]; simp only [Rows.uptoBulk]; omega
      -- each node
      have each : ∀ i (hie : i < elems.length), i < len → ∃ (k : Nat) (t : List UInt8) (l body els : Ns) (a1 a2 a3 : Option Addr) (c1 c2 c3 : Nat), k < 256 ∧ t.length ≤ 140737488351232 ∧ (∀ j, j < 5 → W.cell? ((a.add (i * 5)).add j) = [Value.int .u8 (k : Int), .string (tx t), .slice a1 l.len c1, .slice a2 body.len c2, .slice a3 els.len c3][j]?) ∧
          Room false l.len c1 ∧ Room false body.len c2 ∧ Room false els.len c3 ∧ NodesAt W (fun b => b < W.heap.size) false a1 l ∧ NodesAt W (fun b => b < W.heap.size) false a2 body ∧ NodesAt W (fun b => b < W.heap.size) false a3 els ∧ 1 + t.length + l.sz + body.sz + els.sz ≤ Rows.uptoBulk (elems[i]).1 := by
        intro i hie hi
        have h1 := helem i hi
        rw [List.getElem?_eq_getElem hie] at h1
        cases hc : W.cells? 0 (a.add (i * 5)) 5 with
        | none => rw [hc] at h1; cases h1
        | some cs =>
          rw [hc] at h1
          have h1' : DataW.trod enc P W 0 (fun _ => true) true n' tn cs = some elems[i] := h1
          obtain ⟨m, k, t, v1, v2, v3, y1, y2, y3, rfl, rfl, hk, ht, q1, q2, q3, l1, l2, l3, hbk⟩ := node_cellsU T h1' (hd _ (List.mem_map.2 ⟨_, List.getElem_mem hie, rfl⟩))
          obtain ⟨x1, ⟨a1, c1, e1, r1, n1⟩, b1⟩ := ih m (by omega) v1 y1 q1 l1
          obtain ⟨x2, ⟨a2, c2, e2, r2, n2⟩, b2⟩ := ih m (by omega) v2 y2 q2 l2
          obtain ⟨x3, ⟨a3, c3, e3, r3, n3⟩, b3⟩ := ih m (by omega) v3 y3 q3 l3
          subst e1 e2 e3
          exact ⟨k, t, x1, x2, x3, a1, a2, a3, c1, c2, c3, hk, ht, (World.cells?_some hc).2.2, r1, r2, r3, n1, n2, n3, by omega⟩
      by_cases h0 : len = 0
      · subst h0
        exact ⟨.nil, ⟨some a, cap, rfl, ⟨Nat.zero_le _, hcm, by decide, fun e => by cases e⟩, .nil _ (fun e => by cases e)⟩, Nat.zero_le _⟩
      · obtain ⟨b, off, spot⟩ := a
        have hspot : spot = none := by
          obtain ⟨_, _, _, _, _, _, _, _, _, _, _, _, _, hcell, _⟩ := each 0 (by omega) (by omega)
          simpa [Addr.add] using World.cell?_spot (hcell 0 (by decide))
        subst hspot
        have all : ∀ j, j ≤ len → ∃ xs : Ns, xs.len = j ∧ NodesAt W (fun b => b < W.heap.size) false (some ⟨b, off + (len - j) * 5, none⟩) xs ∧ xs.sz ≤ Rows.uptoBulkAll ((elems.drop (len - j)).map (·.1)) := by
          intro j
          induction j with
          | zero => intro _; exact ⟨.nil, rfl, .nil _ (fun e => by cases e), Nat.zero_le _⟩
          | succ j ihj =>
            intro hj
            obtain ⟨xs, hx, hN, hB⟩ := ihj (by omega)
            obtain ⟨k, t, l, body, els, a1, a2, a3, c1, c2, c3, hk, ht, hcell, r1, r2, r3, n1, n2, n3, hbk⟩ := each (len - (j + 1)) (by omega) (by omega)
            have e6 : len - j = len - (j + 1) + 1 := by omega
            have e5 : off + (len - j) * 5 = off + (len - (j + 1)) * 5 + 5 := by
              rw [e6, Nat.succ_mul]; omega
            rw [e5] at hN
            have q : ∀ o, o < 5 → W.cell? ⟨b, off + (len - (j + 1)) * 5 + o, none⟩ = [Value.int .u8 (k : Int), .string (tx t), .slice a1 l.len c1, .slice a2 body.len c2, .slice a3 els.len c3][o]? := by
              intro o ho
              have := hcell o ho
              rw [add_none, add_none] at this
              exact this
            have d0 := q 0 (by decide)
            rw [Nat.add_zero] at d0
            refine ⟨.cons k t l body els xs, by show (Ns.items _).length = _; rw [Ns.items_cons, List.length_cons]; exact congrArg (· + 1) hx,
              .cons (World.block_lt_of_cell? W _ d0) hk ht d0 (q 1 (by decide)) (q 2 (by decide)) (q 3 (by decide)) (q 4 (by decide)) r1 r2 r3 n1 n2 n3 hN, ?_⟩
            rw [List.drop_eq_getElem_cons (show len - (j + 1) < elems.length by omega), ← e6, List.map_cons]
            simp only [Rows.uptoBulkAll]
            show 1 + t.length + l.sz + body.sz + els.sz + xs.sz ≤ _
            omega
        obtain ⟨xs, hx, hN, hB⟩ := all len (Nat.le_refl _)
        rw [Nat.sub_self, Nat.zero_mul, Nat.add_zero] at hN
        rw [Nat.sub_self, List.drop_zero] at hB
        subst hx
        exact ⟨xs, ⟨_, cap, rfl, ⟨hlc, hcm, hlen, fun e => by cases e⟩, hN⟩, by omega⟩

theorem sum_bulk {H : Type} : ∀ (l : List (DataW H)) (f : Nat → Nat), (∀ i (h : i < l.length), f i ≤ Rows.uptoBulk l[i]) → ((List.range l.length).map f).sum ≤ Rows.uptoBulkAll l := by
  intro l
  induction l with
  | nil => intro f _; exact Nat.zero_le _
  | cons d l ih =>
    intro f h
    have h0 := h 0 (by simp)
    have h1 := ih (fun i => f (i + 1)) (fun i hi => h (i + 1) (by simpa using hi))
    rw [List.length_cons, List.range_succ_eq_map, List.map_cons, List.sum_cons, List.map_map]
    simp only [Rows.uptoBulkAll]
    have e : (f ∘ Nat.succ) = fun i => f (i + 1) := rfl
    rw [e]
    simp only [List.getElem_cons_zero] at h0
    omega
theorem sum_bulk' {H : Type} {α : Type} (l : List (DataW H)) (n : Nat) (hn : l.length = n) (y : Nat → α) (f : α → Nat) (h : ∀ i (h : i < l.length), f (y i) ≤ Rows.uptoBulk l[i]) : (((List.range n).map y).map f).sum ≤ Rows.uptoBulkAll l := by
  subst hn
  rw [List.map_map]
  exact sum_bulk l (f ∘ y) h

open Go.ChangeShapes Go.WideShapes Go.ChangeAt Go.Deep in
theorem texts_of_trodU {H : Type} {enc : TypeId × Value → H} {P : Program} {W : World} {ta ts : TypeId} (T : TextTypes P ta ts) {n : Nat} {v : Value} {y : DataW H × List MemPlace}
    (hf : DataW.trod enc P W 0 (fun _ => true) true n ta [v] = some y) (hw : Light P ta y.1) : ∃ l : List (List UInt8), TextsIn W (fun b => b < W.heap.size) false v l ∧ (l.map (·.length + 1)).sum ≤ Rows.uptoBulk y.1 := by
  rcases DataW.trod_slice T.a hf with ⟨hvv, hy⟩ | ⟨a, len, cap, elems, rest, n', rfl, hvv, hy, _, hlc, hcm, hel, helem, hrest, _⟩
  · obtain rfl : v = .slice none 0 0 := by simpa using hvv
    exact ⟨[], ⟨none, 0, rfl, Nat.le_refl _, Nat.zero_le _, by decide, (fun e => by cases e), fun i hi => absurd hi (Nat.not_lt_zero _)⟩, Nat.zero_le _⟩
  · obtain rfl : v = .slice (some a) len cap := by simpa using hvv
    rw [hy] at hw
    obtain ⟨hb, hd⟩ := hw.slice T.a
    rw [T.bs] at hb
    obtain ⟨hrl, _⟩ := hrest rfl
    have hlen : len * 16 ≤ 140737488351232 := by
      have h1 : (elems.map (·.1)).length = len := by simpa using hel
      rw [h1] at hb
      have h2 : len * 16 ≤ (len + (rest.map (·.1)).length) * 16 := Nat.mul_le_mul_right _ (Nat.le_add_right _ _)
      first | exact Nat.le_trans h2 hb | (unfold reachBytes at hb; omega)
    rw [T.cs] at helem
    have hbulk : Rows.uptoBulkAll (elems.map (·.1)) ≤ Rows.uptoBulk y.1 := by rw [hy]; simp only [Rows.uptoBulk]; omega
    have each : ∀ i, i < len → ∃ x : List UInt8, x.length ≤ 140737488351232 ∧ (∀ j, j < 1 → W.cell? ((a.add (i * 1)).add j) = [Value.string (tx x)][j]?) ∧ ∀ (h : i < elems.length), x.length + 1 ≤ Rows.uptoBulk (elems[i]).1 := by
      intro i hi
      have h1 := helem i hi
      have hie : i < elems.length := by omega
      rw [List.getElem?_eq_getElem hie] at h1
      cases hc : W.cells? 0 (a.add (i * 1)) 1 with
      | none => rw [hc] at h1; cases h1
      | some cs =>
        rw [hc] at h1
        have h1' : DataW.trod enc P W 0 (fun _ => true) true n' ts cs = some elems[i] := h1
        have hlw := hd _ (List.mem_map.2 ⟨_, List.getElem_mem hie, rfl⟩)
        obtain ⟨s, hs, hy1, _⟩ := DataW.trod_string T.s h1'
        have ht := hlw s.data.toList.length (by rw [hy1]; simp [DataW.weights])
        subst hs
        refine ⟨s.data.toList, by simpa [reachBytes] using ht, (World.cells?_some hc).2.2, fun _ => ?_⟩
        rw [hy1]; simp [Rows.uptoBulk]
    obtain ⟨y', hy'⟩ := choose_lt each
    refine ⟨(List.range len).map y', ⟨some a, cap, by simp, by simp; exact hlc, hcm, by simpa using hlen, (fun e => by cases e), fun i hi => ?_⟩, ?_⟩
    · have hi2 : i < len := by simpa using hi
      simp only [List.getElem_map, List.getElem_range]
      obtain ⟨h1, h4, _⟩ := hy' i hi2
      obtain ⟨b, off, spot⟩ := a
      have c0 := h4 0 (by decide)
      have hspot : spot = none := by
        obtain ⟨_, h5, _⟩ := hy' 0 (by omega)
        simpa [Addr.add] using World.cell?_spot (h5 0 (by decide))
      subst hspot
      rw [add_none, add_none] at c0
      rw [Nat.add_zero, Nat.mul_one] at c0
      exact ⟨b, off, rfl, World.block_lt_of_cell? W _ c0, c0, h1⟩
    · have := sum_bulk' (elems.map (·.1)) len (by simpa using hel) y' (fun x => x.length + 1) (fun i hi => by
        have hi2 : i < elems.length := by simpa using hi
        obtain ⟨_, _, h⟩ := hy' i (by omega)
        rw [List.getElem_map]
        exact h hi2)
      omega

theorem fn_cellsU {H : Type} {enc : TypeId × Value → H} {P : Program} {W : World} {tF tf ta tl tn tk ts : TypeId} (T : FnTypes P tF tf ta tl tn tk ts) {n : Nat} {cs : List Value} {y : DataW H × List MemPlace}
    (h : DataW.trod enc P W 0 (fun _ => true) true n tf cs = some y) (hw : Light P tf y.1) :
    ∃ (f : Nd.Fn) (v1 v2 : Value), cs = [.string (tx f.name), v1, v2] ∧ f.name.length ≤ 140737488351232 ∧ TextsIn W (fun b => b < W.heap.size) false v1 f.args ∧ Nodes W (fun b => b < W.heap.size) false v2 f.body ∧ fsz f ≤ Rows.uptoBulk y.1 := by
  obtain ⟨f0, f1, f2, hn, e0, o0, e1, o1, e2, o2⟩ := T.f
  obtain ⟨xs, m, rfl, rfl, hc, hx, hf⟩ := DataW.trod_struct hn h
  rw [T.cf] at hc
  obtain ⟨c0, c1, c2, rfl⟩ := list3 hc
  obtain ⟨y0, y1, y2, rfl⟩ := list3' (show xs.length = 3 from hx)
  have g0 := hf 0 f0 rfl
  have g1 := hf 1 f1 rfl
  have g2 := hf 2 f2 rfl
  rw [e0, o0, T.node.cs] at g0
  rw [e1, o1, T.ca] at g1
  rw [e2, o2, T.node.cl] at g2
  have hl := hw.fields hn
  have l0 := hl 0 ts y0.1 (by simp [e0]) rfl
  have l1 := hl 1 ta y1.1 (by simp [e1]) rfl
  have l2 := hl 2 tl y2.1 (by simp [e2]) rfl
  have g0' := show DataW.trod enc P W 0 (fun _ => true) true m ts [c0] = some y0 from g0
  obtain ⟨s, hs, hy1, _⟩ := DataW.trod_string T.node.s g0'
  have htl := l0 s.data.toList.length (by rw [hy1]; simp [DataW.weights])
  obtain ⟨ags, has, bas⟩ := texts_of_trodU T.text (show DataW.trod enc P W 0 (fun _ => true) true m ta [c1] = some y1 from g1) l1
  obtain ⟨bd, hbd, bbd⟩ := nodes_of_trodU T.node m c2 y2 (show DataW.trod enc P W 0 (fun _ => true) true m tl [c2] = some y2 from g2) l2
  have ht' : c0 = .string s := by simpa using hs
  refine ⟨⟨s.data.toList, ags, bd⟩, c1, c2, by rw [ht']; rfl, by simpa [reachBytes] using htl, has, hbd, ?_⟩
  simp only [List.map_cons, List.map_nil, Rows.uptoBulk, Rows.uptoBulkAll]
  rw [hy1]
  simp only [Rows.uptoBulk]
  unfold fsz
  simp only
  omega

open Go.ChangeShapes Go.WideShapes Go.ChangeAt Go.Deep in
theorem funcs_of_trodU {H : Type} {enc : TypeId × Value → H} {P : Program} {W : World} {tF tf ta tl tn tk ts : TypeId} (T : FnTypes P tF tf ta tl tn tk ts) {n : Nat} {v : Value} {y : DataW H × List MemPlace}
    (hf : DataW.trod enc P W 0 (fun _ => true) true n tF [v] = some y) (hw : Light P tF y.1) : ∃ l : List Nd.Fn, FuncsIn W (fun b => b < W.heap.size) false v l ∧ (l.map fsz).sum ≤ Rows.uptoBulk y.1 := by
  rcases DataW.trod_slice T.l hf with ⟨hvv, hy⟩ | ⟨a, len, cap, elems, rest, n', rfl, hvv, hy, _, hlc, hcm, hel, helem, hrest, _⟩
  · obtain rfl : v = .slice none 0 0 := by simpa using hvv
    exact ⟨[], ⟨none, 0, rfl, Nat.le_refl _, Nat.zero_le _, by decide, (fun e => by cases e), fun i hi => absurd hi (Nat.not_lt_zero _)⟩, Nat.zero_le _⟩
  · obtain rfl : v = .slice (some a) len cap := by simpa using hvv
    rw [hy] at hw
    obtain ⟨hb, hd⟩ := hw.slice T.l
    rw [T.bf] at hb
    obtain ⟨hrl, _⟩ := hrest rfl
    have hlen : len * 64 ≤ 140737488351232 := by
      have h1 : (elems.map (·.1)).length = len := by simpa using hel
      rw [h1] at hb
      have h2 : len * 64 ≤ (len + (rest.map (·.1)).length) * 64 := Nat.mul_le_mul_right _ (Nat.le_add_right _ _)
      first | exact Nat.le_trans h2 hb | (unfold reachBytes at hb; omega)
    rw [T.cf] at helem
    have hbulk : Rows.uptoBulkAll (elems.map (·.1)) ≤ Rows.uptoBulk y.1 := by rw [hy]; simp only [Rows.uptoBulk]; omega
    have each : ∀ i, i < len → ∃ x : Nd.Fn, ∃ v1 v2, x.name.length ≤ 140737488351232 ∧ TextsIn W (fun b => b < W.heap.size) false v1 x.args ∧ Nodes W (fun b => b < W.heap.size) false v2 x.body ∧ (∀ j, j < 3 → W.cell? ((a.add (i * 3)).add j) = [Value.string (tx x.name), v1, v2][j]?) ∧ ∀ (h : i < elems.length), fsz x ≤ Rows.uptoBulk (elems[i]).1 := by
      intro i hi
      have h1 := helem i hi
      have hie : i < elems.length := by omega
      rw [List.getElem?_eq_getElem hie] at h1
      cases hc : W.cells? 0 (a.add (i * 3)) 3 with
      | none => rw [hc] at h1; cases h1
      | some cs =>
        rw [hc] at h1
        have h1' : DataW.trod enc P W 0 (fun _ => true) true n' tf cs = some elems[i] := h1
        obtain ⟨f, v1, v2, rfl, ht, h2, h3, hbk⟩ := fn_cellsU T h1' (hd _ (List.mem_map.2 ⟨_, List.getElem_mem hie, rfl⟩))
        exact ⟨f, v1, v2, ht, h2, h3, (World.cells?_some hc).2.2, fun _ => hbk⟩
    have : Inhabited Nd.Fn := ⟨⟨[], [], .nil⟩⟩
    obtain ⟨y', hy'⟩ := choose_lt each
    refine ⟨(List.range len).map y', ⟨some a, cap, by simp, by simp; exact hlc, hcm, by simpa using hlen, (fun e => by cases e), fun i hi => ?_⟩, ?_⟩
    · have hi2 : i < len := by simpa using hi
      simp only [List.getElem_map, List.getElem_range]
      obtain ⟨v1, v2, h1, h2, h3, h4, _⟩ := hy' i hi2
      obtain ⟨b, off, spot⟩ := a
      have c0 := h4 0 (by decide)
      have hspot : spot = none := by
        obtain ⟨_, _, _, _, _, h5, _⟩ := hy' 0 (by omega)
        simpa [Addr.add] using World.cell?_spot (h5 0 (by decide))
      subst hspot
      have c1 := h4 1 (by decide)
      have c2 := h4 2 (by decide)
      rw [add_none, add_none] at c0 c1 c2
      rw [Nat.add_zero] at c0
      exact ⟨b, off, v1, v2, rfl, World.block_lt_of_cell? W _ c0, h1, c0, c1, c2, h2, h3⟩
    · have := sum_bulk' (elems.map (·.1)) len (by simpa using hel) y' fsz (fun i hi => by
        have hi2 : i < elems.length := by simpa using hi
        obtain ⟨_, _, _, _, _, _, h⟩ := hy' i (by omega)
        rw [List.getElem_map]
        exact h hi2)
      omega
end Go.Proofs.YtmkhfonafcikdaaGreatDoor

/- A map with keys of an integer kind that the call itself keeps in one block: what it holds, as a function of the key; its elements stay values. No program in sight. -/
namespace Go.My
open Go.RowKit Go.Maps

/-- An element stays the value that it is: a datum that no other value has. -/
def selfElem (v : Value) : Option (DataW Value × List MemPlace) := some (.held v, [])

/-- Block b is a map, of n entries at most, that holds at each key what f says. -/
def MapIs (P : Program) (k : TypeId) (q : IntKind) (w : World) (b n : Nat) (f : Int → Option Value) : Prop :=
  ∃ D : DataW Value, w.ownsMap P k selfElem b n D ∧ IsMap D ∧ ∀ i : Int, (Lit.int q i).wf = true → (has D (.int q i) = (f i).isSome ∧ ∀ u, f i = some u → ∀ z, D.atKey (.int q i) z = .held u)

section
variable {P : Program} {k : TypeId} {q : IntKind} {w : World} {b n : Nat} {f : Int → Option Value}

theorem MapIs.made (w : World) (P : Program) (k : TypeId) (q : IntKind) : MapIs P k q (w.alloc (.map #[] 0)) w.heap.size 0 (fun _ => none) :=
  ⟨.map [], World.ownsMap_made w P k selfElem, isMap_empty, fun i _ => ⟨rfl, fun u h => by cases h⟩⟩

theorem MapIs.lt (h : MapIs P k q w b n f) : b < w.heap.size := by obtain ⟨D, h, _⟩ := h; exact h.lt

theorem MapIs.mono (h : MapIs P k q w b n f) {m : Nat} (hm : n ≤ m) : MapIs P k q w b m f := by obtain ⟨D, h, r⟩ := h; exact ⟨D, h.mono hm, r⟩

theorem MapIs.frame {w' : World} (h : MapIs P k q w b n f) (hb : w'.heap[b]? = w.heap[b]?) : MapIs P k q w' b n f := by
  obtain ⟨D, ⟨es, clock, h1, h2⟩, r⟩ := h
  exact ⟨D, ⟨es, clock, hb.trans h1, h2⟩, r⟩

/-- 'v, ok := m[k]', where it is. -/
theorem MapIs.look_some {t e : TypeId} (h : MapIs P k q w b n f) (hk : P.underlying k = some (.int q)) (ht : P.underlying t = some (.map k e)) {z : Value} (hz : (zeroValue e).run P w = .ok z w) {i : Int} (hi : (Lit.int q i).wf = true) {u : Value} (hu : f i = some u) :
    (Instr.lookup t (.map (some b)) (.int q i) true).run P w = .ok (.tuple #[u, .bool true]) w := by
  obtain ⟨D, h, hm, hf⟩ := h
  obtain ⟨h1, h2⟩ := hf i hi
  obtain ⟨v, ps, hrun, hv⟩ := h.look_ok (R := selfElem) (int_keyed hk) ht hz (zd := .held z) (zp := []) rfl (keyOf_int_mk hk hi)
  rw [h1, hu] at hrun
  rw [h2 u hu] at hv
  simp only [selfElem, Option.some.injEq, Prod.mk.injEq, DataW.held.injEq] at hv
  rw [hv.1] at hrun
  exact hrun

/-- .. and where it is not. -/
theorem MapIs.look_none {t e : TypeId} (h : MapIs P k q w b n f) (hk : P.underlying k = some (.int q)) (ht : P.underlying t = some (.map k e)) {z : Value} (hz : (zeroValue e).run P w = .ok z w) {i : Int} (hi : (Lit.int q i).wf = true) (hu : f i = none) :
    (Instr.lookup t (.map (some b)) (.int q i) true).run P w = .ok (.tuple #[z, .bool false]) w := by
  obtain ⟨D, h, hm, hf⟩ := h
  obtain ⟨h1, h2⟩ := hf i hi
  obtain ⟨v, ps, hrun, hv⟩ := h.look_ok (R := selfElem) (int_keyed hk) ht hz (zd := .held z) (zp := []) rfl (keyOf_int_mk hk hi)
  rw [h1, hu] at hrun
  rw [atKey_of_not_has (by rw [h1, hu]; rfl)] at hv
  simp only [selfElem, Option.some.injEq, Prod.mk.injEq, DataW.held.injEq] at hv
  rw [hv.1] at hrun
  exact hrun

theorem lit_ne {q : IntKind} {i j : Int} (h : i ≠ j) : (Lit.int q i) ≠ (Lit.int q j) := fun e => h (by cases e; rfl)

/-- 'm[k] = v'. -/
theorem MapIs.store {t e : TypeId} (h : MapIs P k q w b n f) (hk : P.underlying k = some (.int q)) (ht : P.underlying t = some (.map k e)) (hn : n < maxLen) {i : Int} (hi : (Lit.int q i).wf = true) (u : Value) :
    ∃ w', (Instr.mapUpdate t (.map (some b)) (.int q i) u).run P w = .ok () w' ∧ MapIs P k q w' b (n + 1) (fun j => if j = i then some u else f j) ∧ w.grownBy w' (some b) := by
  obtain ⟨D, h, hm, hf⟩ := h
  obtain ⟨w', hrun, h1, h2⟩ := h.store (R := selfElem) (int_keyed hk) ht hn (keyOf_int_mk hk hi) (val := u) (d := .held u) (ps := []) rfl
  refine ⟨w', hrun, ⟨_, h1, hm.put _ _, fun j hj => ?_⟩, h2.grown⟩
  by_cases e : j = i
  · subst e
    have hkl : WideAt.IsKeyLit (Lit.int q j) := by simp [WideAt.IsKeyLit]
    simp only [if_true, Option.isSome_some]
    exact ⟨has_put_same hm hkl _, fun v hv z => by cases hv; exact atKey_put_same hm hkl _ _⟩
  · simp only [if_neg e]
    obtain ⟨g1, g2⟩ := hf j hj
    exact ⟨by rw [has_put_other (lit_ne e)]; exact g1, fun v hv z => by rw [atKey_put_other (lit_ne e)]; exact g2 v hv z⟩

/-- 'delete(m, k)'. -/
theorem MapIs.drop {t e : TypeId} (h : MapIs P k q w b n f) (hk : P.underlying k = some (.int q)) (ht : P.underlying t = some (.map k e)) {i : Int} (hi : (Lit.int q i).wf = true) (ty : TypeId) :
    ∃ w', (Builtin.delete_ #[t, k] ty #[.map (some b), .int q i]).run P w = .ok (.tuple #[]) w' ∧ MapIs P k q w' b n (fun j => if j = i then none else f j) ∧ w.grownBy w' (some b) := by
  obtain ⟨D, h, hm, hf⟩ := h
  obtain ⟨w', hrun, h1, h2⟩ := h.drop (R := selfElem) (int_keyed hk) ht (keyOf_int_mk hk hi) ty
  refine ⟨w', hrun, ⟨_, h1, hm.del _, fun j hj => ?_⟩, h2.grown⟩
  by_cases e : j = i
  · subst e
    simp only [if_true]
    exact ⟨has_del_same, fun v hv => by cases hv⟩
  · simp only [if_neg e]
    obtain ⟨g1, g2⟩ := hf j hj
    exact ⟨by rw [has_del_other (lit_ne e)]; exact g1, fun v hv z => by rw [atKey_del_other (lit_ne e)]; exact g2 v hv z⟩
end

/-- DELETE, AS ONE STEP OF A REGION THAT DRAWS ITS ORDER. -/
theorem step_delete {P : Program} {w w1 : World} {ops : Array Oper} {o : Oper} {a : Act} {K : Act → World → Prop} {Q : Exit → Act → World → Prop} {X : Prop} (hgd : o.guard = none) (m x : Operand) {t k : TypeId}
    (ho : o.op = .call { callee := .builtin .delete, args := #[m, x], argTypes := #[t, k] }) {v y : Value} (hm : a.eval m = v) (hx : a.eval x = y) (hrun : (Builtin.delete_ #[t, k] o.type #[v, y]).run P w = .ok (.tuple #[]) w1)
    (h : K (a.put o.dst (.tuple #[])) w1) : if Region.wanted o (yielded ops a.tmps) = true then Oper.wp P o a w K Q else X := by
  have hw : Region.wanted o (yielded ops a.tmps) = true := by simp [Region.wanted, hgd]
  rw [if_pos hw]
  unfold Oper.wp execOp
  simp only [ho, resolve, invoke, builtin, Sem.run_bind, Sem.run_pure, Result.andThen_ok, List.map_toArray, List.map_cons, List.map_nil, hm, hx, hrun]
  exact h
end Go.My
