/- Shows, as the document has it: how closely; in another one; several. -/
import Derived.Test.YtobpnjnfpgcpaaaDoorTrA2
import Derived.Test.YtobpnjnfpgcpaaaDoorTrA3
namespace Go.Proofs.YtobpnjnfpgcpaaaDoor
open Go.RowKit Go.My Go.Nd

theorem tl_is (t c : Tx) : ((tx t).toList == c) = decide (t = c) := by
  show ((bs t).toList == c) = _
  rw [bs_tlp]
  by_cases h : t = c <;> simp [h]

set_option maxRecDepth 100000 in
set_option maxHeartbeats 4000000 in
theorem rank_r {tw : Bool} {w : World} {B : Nat} {v : Value} {x : Nd} (h : NV tw w B v x) : Calls Tryd.prog 32 #[v] w fun e w' => e = .returned (.int .i64 (x.rk : Int)) ∧ Below w.heap.size w w' := by
  obtain ⟨a1, c1, a2, c2, a3, c3, rfl, hk, ht, _, _, _⟩ := h
  obtain ⟨k, t, l, b, e⟩ := x
  simp only at hk ht ⊢
  obtain ⟨hA, hn, hz⟩ := Put.new w #[.int .u8 (k : Int), .string (tx t), .slice a1 l.len c1, .slice a2 b.len c2, .slice a3 e.len c3] 25
  obtain ⟨bx, hbx⟩ : ∃ bx, bx = w.heap.size := ⟨_, rfl⟩
  obtain ⟨w0, hw0⟩ : ∃ w0, w0 = w.alloc (.cells #[.int .u8 (k : Int), .string (tx t), .slice a1 l.len c1, .slice a2 b.len c2, .slice a3 e.len c3] 25) := ⟨_, rfl⟩
  rw [← hw0] at hA hn hz
  rw [← hbx] at hn
  obtain ⟨q0, q1, q2, q3, q4, _, _, _, _, _⟩ := row5 hn
  have X := Lib.hid hA
  have k0 : (0 : Int) ≤ (k : Int) := by omega
  have p1 : ((tx t).toList == [94]) = decide (t = [94]) := tl_is t _
  have p2 : ((tx t).toList == [42]) = decide (t = [42]) := tl_is t _
  have p3 : ((tx t).toList == [47]) = decide (t = [47]) := tl_is t _
  have p4 : ((tx t).toList == [43]) = decide (t = [43]) := tl_is t _
  have p5 : ((tx t).toList == [45]) = decide (t = [45]) := tl_is t _
  clear hA hn hz
  go_enter Tryd.func32, Tryd.ntmps32
  go_upto_region 1 with fail
  rw [← hbx, ← hw0]
  clear hbx hw0
  by_cases h6 : k = 6
  · subst h6
    go_wp2_with fail
    go_ret
    exact ⟨rfl, X.out⟩
  · by_cases h7 : k = 7
    · subst h7
      go_wp2_with fail
      go_ret
      exact ⟨rfl, X.out⟩
    · by_cases h5 : k = 5
      · subst h5
        by_cases g1 : t = [94]
        · subst g1
          have HR := Lib.hid (show rkx 5 [94] = 5 from by decide)
          conv at p1 => rhs; simp
          go_wp2_with fail
          go_ret
          exact ⟨rfl, X.out⟩
        · by_cases g2 : t = [42]
          · subst g2
            conv at p1 => rhs; simp
            conv at p2 => rhs; simp
            go_wp2_with fail
            go_ret
            exact ⟨rfl, X.out⟩
          · by_cases g3 : t = [47]
            · subst g3
              conv at p1 => rhs; simp
              conv at p2 => rhs; simp
              conv at p3 => rhs; simp
              go_wp2_with fail
              go_ret
              exact ⟨rfl, X.out⟩
            · by_cases g4 : t = [43]
              · subst g4
                conv at p1 => rhs; simp
                conv at p2 => rhs; simp
                conv at p3 => rhs; simp
                conv at p4 => rhs; simp
                go_wp2_with fail
                go_ret
                exact ⟨rfl, X.out⟩
              · have HG := Lib.hid (And.intro g1 (And.intro g2 (And.intro g3 g4)))
                rw [decide_eq_false g1] at p1
                rw [decide_eq_false g2] at p2
                rw [decide_eq_false g3] at p3
                rw [decide_eq_false g4] at p4
                by_cases g5 : t = [45]
                · subst g5
                  conv at p5 => rhs; simp
                  clear g1 g2 g3 g4
                  go_wp2_with fail
                  go_ret
                  exact ⟨rfl, X.out⟩
                · rw [decide_eq_false g5] at p5
                  have HR := Lib.hid (show Nd.rk ⟨5, t, l, b, e⟩ = 1 by show rkx 5 t = 1; unfold rkx; simp [g1, g2, g3, g4, g5])
                  clear g1 g2 g3 g4 g5
                  go_wp2_with fail
                  go_ret
                  exact ⟨by rw [HR.out]; rfl, X.out⟩
      · have e6 : ((k : Int) == 6) = false := by rw [beq_eq_false_iff_ne]; omega
        have e7 : ((k : Int) == 7) = false := by rw [beq_eq_false_iff_ne]; omega
        have e5 : ((k : Int) == 5) = false := by rw [beq_eq_false_iff_ne]; omega
        have HR := Lib.hid (show Nd.rk ⟨k, t, l, b, e⟩ = 6 by show rkx k t = 6; unfold rkx; rw [if_neg (by omega), if_neg h5])
        clear h5 h6 h7
        go_wp2_with fail
        go_ret
        exact ⟨by rw [HR.out]; rfl, X.out⟩

def RExprOk (tw : Bool) (x : Nd) : Prop := ∀ (w : World) (B : Nat) (v : Value), B ≤ w.heap.size → NV tw w B v x → Calls Tryd.prog 17 #[v] w fun e w' => e = .returned (.string (bs x.sh)) ∧ Below w.heap.size w w'

set_option maxRecDepth 100000 in
set_option maxHeartbeats 4000000 in
theorem in_r {tw : Bool} {x : Nd} (hx : RExprOk tw x) (hlen : x.sh.length ≤ 35184372088832) {w : World} {B : Nat} {v : Value} (hB : B ≤ w.heap.size) (h : NV tw w B v x) (least : Nat) (hl : least ≤ 7) :
    Calls Tryd.prog 34 #[v, .int .i64 (least : Int)] w fun e w' => e = .returned (.string (bs (inx x.rk least x.sh))) ∧ Below w.heap.size w w' := by
  have hv := h
  obtain ⟨a1, c1, a2, c2, a3, c3, rfl, hk, ht, _, _, _⟩ := h
  obtain ⟨hA, hn, hz⟩ := Put.new w #[.int .u8 (x.kind : Int), .string (tx x.text), .slice a1 x.l.len c1, .slice a2 x.body.len c2, .slice a3 x.els.len c3] 25
  obtain ⟨bx, hbx⟩ : ∃ bx, bx = w.heap.size := ⟨_, rfl⟩
  obtain ⟨w0, hw0⟩ : ∃ w0, w0 = w.alloc (.cells #[.int .u8 (x.kind : Int), .string (tx x.text), .slice a1 x.l.len c1, .slice a2 x.body.len c2, .slice a3 x.els.len c3] 25) := ⟨_, rfl⟩
  rw [← hw0] at hA hn hz
  rw [← hbx] at hn
  obtain ⟨q0, q1, q2, q3, q4, _, _, _, _, _⟩ := row5 hn
  have X := Lib.hid (And.intro hA (And.intro hn (And.intro (hv.below (hA.mono hB)) (Nat.le_trans hB hA.size))))
  have HX := Lib.hid (And.intro hx hlen)
  have hr6 : x.rk ≤ 6 := by unfold Nd.rk rkx; (repeat' split) <;> omega
  have l0 : (0 : Int) ≤ (least : Int) := by omega
  have l1 : (least : Int) ≤ 7 := by omega
  obtain ⟨s, hs⟩ : ∃ s, s = x.sh := ⟨_, rfl⟩
  have hadd1 : ∀ wx, (Op.stringOp .add ⟨#[40]⟩ (bs s)).run Tryd.prog wx = .ok (.string (bs ([40] ++ s))) wx := add_any [40] s (by rw [hs]; simp; omega)
  have hadd2 : ∀ wx, (Op.stringOp .add (bs ([40] ++ s)) ⟨#[41]⟩).run Tryd.prog wx = .ok (.string (bs ([40] ++ s ++ [41]))) wx := add_any ([40] ++ s) [41] (by rw [hs]; simp; omega)
  obtain ⟨s1, hs1⟩ : ∃ s1, s1 = [40] ++ s := ⟨_, rfl⟩
  rw [← hs1] at hadd1 hadd2
  obtain ⟨s2, hs2⟩ : ∃ s2, s2 = s1 ++ [41] := ⟨_, rfl⟩
  rw [← hs2] at hadd2
  have HS := Lib.hid (And.intro hs (And.intro hs1 hs2))
  rw [← hs]
  clear hA hn hz hv hB hx hlen hk ht hs hs1 hs2
  go_enter Tryd.func34, Tryd.ntmps34
  go_upto_region 1 with fail
  rw [← hbx, ← hw0]
  clear hbx hw0
  go_wp2_with fail
  refine (rank_r X.out.2.2.1).mono ?_
  rintro e w1 ⟨rfl, hb⟩
  have hrow := (hb.block _ (Array.getElem?_eq_some_iff.1 X.out.2.1).1).trans X.out.2.1
  have Y := Lib.hid (And.intro (X.out.1.trans (hb.mono X.out.1.size)) (And.intro (X.out.2.2.1.below (hb.mono X.out.2.2.2)) (Nat.le_trans X.out.2.2.2 hb.size)))
  clear q0 q1 q2 q3 q4
  obtain ⟨q0, q1, q2, q3, q4, _, _, _, _, _⟩ := row5 hrow
  obtain ⟨k, hkk⟩ : ∃ k, k = x.rk := ⟨_, rfl⟩
  rw [← hkk] at hr6 ⊢
  have HKK := Lib.hid hkk
  clear hrow hb hkk
  by_cases hlt : k < least
  · have i1 : (k : Int) < (least : Int) := by omega
    have hR := Lib.hid (show inx k least s = s2 by unfold inx; rw [if_pos hlt, HS.out.2.2, HS.out.2.1])
    clear hlt
    go_wp2_with fail
    refine (HX.out.1 w1 B _ Y.out.2.2 Y.out.2.1).mono ?_
    rintro e w2 ⟨rfl, hb⟩
    rw [← HS.out.1]
    have K := Lib.hid (Y.out.1.trans (hb.mono Y.out.1.size))
    clear hb q0 q1 q2 q3 q4
    go_wp2_with fail
    go_ret
    exact ⟨by rw [← HKK.out, hR.out]; rfl, K.out⟩
  · have i1 : (least : Int) ≤ (k : Int) := by omega
    have hR := Lib.hid (show inx k least s = s by unfold inx; rw [if_neg hlt])
    clear hlt
    go_wp2_with fail
    refine (HX.out.1 w1 B _ Y.out.2.2 Y.out.2.1).mono ?_
    rintro e w2 ⟨rfl, hb⟩
    rw [← HS.out.1]
    have K := Lib.hid (Y.out.1.trans (hb.mono Y.out.1.size))
    clear hb q0 q1 q2 q3 q4
    go_wp2_with fail
    go_ret
    exact ⟨by rw [← HKK.out, hR.out]; rfl, K.out⟩
end Go.Proofs.YtobpnjnfpgcpaaaDoor
