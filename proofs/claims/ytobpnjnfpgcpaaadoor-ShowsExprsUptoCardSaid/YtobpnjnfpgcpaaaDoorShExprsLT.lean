/- The statement ShowsExprs: its walk. -/
import Derived.Test.YtobpnjnfpgcpaaaDoorNdTwin2T
import Derived.Test.YtobpnjnfpgcpaaaDoorNdLeft2T
import Derived.Test.YtobpnjnfpgcpaaaDoorShRfEET
namespace Go.Proofs.YtobpnjnfpgcpaaaDoor
open Go.RowKit Go.My Go.Nd

set_option maxRecDepth 100000 in
set_option maxHeartbeats 4000000 in
theorem exprs_any (w : World) (k : Nat) (t : Tx) (v1 v2 v3 : Value) (x1 x2 x3 : Ns) (hk : k < 256) (ht : t.length ≤ 140737488351232)
    (h1 : Nodes w (fun b => b < w.heap.size) false v1 x1) (h2 : Nodes w (fun b => b < w.heap.size) false v2 x2) (h3 : Nodes w (fun b => b < w.heap.size) false v3 x3) (hsz : 1 + t.length + x1.sz + x2.sz + x3.sz ≤ 1048576) :
    Calls Tryd.prog 3 #[.agg #[.int .u8 (k : Int), .string (tx t), v1, v2, v3]] w fun e w' => e = .returned (.bool true) ∧ Below w.heap.size w w' := by
  obtain ⟨a1, c1, rfl⟩ := h1.form
  obtain ⟨a2, c2, rfl⟩ := h2.form
  obtain ⟨a3, c3, rfl⟩ := h3.form
  obtain ⟨hA, hn, hz⟩ := Put.new w #[.int .u8 (k : Int), .string (tx t), .slice a1 x1.len c1, .slice a2 x2.len c2, .slice a3 x3.len c3] 25
  obtain ⟨bx, hbx⟩ : ∃ bx, bx = w.heap.size := ⟨_, rfl⟩
  obtain ⟨w0, hw0⟩ : ∃ w0, w0 = w.alloc (.cells #[.int .u8 (k : Int), .string (tx t), .slice a1 x1.len c1, .slice a2 x2.len c2, .slice a3 x3.len c3] 25) := ⟨_, rfl⟩
  rw [← hw0] at hA hn hz
  rw [← hbx] at hn
  have BX := Lib.hid (show BxIs false w0 w.heap.size bx ⟨k, t, x1, x2, x3⟩ a1 c1 a2 c2 a3 c3 from ⟨hn, hk, ht, h1.below hA, h2.below hA, h3.below hA, hA.size⟩)
  have Y0 := Lib.hid hA
  have HS := Lib.hid hsz
  have HT := Lib.hid ht
  clear hA hn hz h1 h2 h3 hsz hk ht
  obtain ⟨q0, q1, q2, q3, q4, _, _, _, _, _⟩ := row5 BX.out.row
  simp only at q0 q1 q2 q3 q4
  go_enter Tryd.func3, Tryd.ntmps3
  go_upto_region 1 with fail
  rw [← hbx, ← hw0]
  clear hbx hw0
  go_wp2_with fail
  refine (size_one (x := ⟨k, t, x1, x2, x3⟩) (size_said false _) (size_said false _) (size_said false _) BX.out.hB BX.out.l BX.out.body BX.out.els HT.out).mono ?_
  rintro e w1 ⟨m, rfl, hb⟩
  have K1 := Lib.hid hb
  have B1 := Lib.hid (BX.out.later hb)
  clear hb q0 q1 q2 q3 q4
  by_cases hm : m ≤ 3000
  · obtain ⟨q0, q1, q2, q3, q4, _, _, _, _, _⟩ := row5 B1.out.row
    simp only at q0 q1 q2 q3 q4
    go_wp2_with fail
    refine twin_one (x := ⟨k, t, x1, x2, x3⟩) (twin_nodes _) (twin_nodes _) (twin_nodes _) B1.out.hB B1.out.l B1.out.body B1.out.els fun u1 u2 u3 w2 hb2 f1 f2 f3 => ?_
    obtain ⟨e1, g1, rfl⟩ := Nodes.form f1
    obtain ⟨e2, g2, rfl⟩ := Nodes.form f2
    obtain ⟨e3, g3, rfl⟩ := Nodes.form f3
    have B2 := B1.out.later hb2
    have K2 := K1.out.trans (hb2.mono K1.out.size)
    obtain ⟨hA2, hn2, hz2⟩ := Put.new w2 #[.int .u8 (k : Int), .string (tx t), .slice e1 x1.len g1, .slice e2 x2.len g2, .slice e3 x3.len g3] 25
    obtain ⟨bz, hbz⟩ : ∃ bz, bz = w2.heap.size := ⟨_, rfl⟩
    obtain ⟨w4, hw4⟩ : ∃ w4, w4 = w2.alloc (.cells #[.int .u8 (k : Int), .string (tx t), .slice e1 x1.len g1, .slice e2 x2.len g2, .slice e3 x3.len g3] 25) := ⟨_, rfl⟩
    rw [← hw4] at hA2 hn2 hz2
    rw [← hbz] at hn2
    have up : ∀ {v : Value} {y : Ns}, Fresh w1 w2 v y → Nodes w4 (· < w4.heap.size) true v y := fun f => Nodes.mono (f.later hA2) fun b hb _ => hb
    have TX := Lib.hid (show BxIs true w4 w4.heap.size bz ⟨k, t, x1, x2, x3⟩ e1 g1 e2 g2 e3 g3 from ⟨hn2, B2.kind, B2.text, up f1, up f2, up f3, Nat.le_refl _⟩)
    have B4 := Lib.hid (B2.later hA2)
    have K4 := Lib.hid (K2.trans (hA2.mono K2.size))
    clear f1 f2 f3 up hA2 hn2 hz2 K2 B2 hb2 q0 q1 q2 q3 q4
    obtain ⟨r0, r1, r2, r3, r4, _, _, _, _, _⟩ := row5 TX.out.row
    simp only at r0 r1 r2 r3 r4
    go_upto_region 4 with fail
    rw [← hbz, ← hw4]
    clear hbz hw4
    go_wp2_with fail
    refine (showExpr_t (x := ⟨k, t, x1, x2, x3⟩) (Nat.le_refl _) TX.out.nv HS.out).mono ?_
    rintro e w5 ⟨rfl, hb⟩
    have TX5 := Lib.hid (TX.out.later hb)
    have B5 := Lib.hid (B4.out.later hb)
    have K5 := Lib.hid (K4.out.trans (hb.mono K4.out.size))
    obtain ⟨st, hst⟩ : ∃ st, st = (showE wrapI ⟨k, t, x1, x2, x3⟩).1 := ⟨_, rfl⟩
    obtain ⟨se, hse⟩ : ∃ se : Nat, se = (showE wrapI ⟨k, t, x1, x2, x3⟩).2 := ⟨_, rfl⟩
    rw [← hst, ← hse]
    have HCC := Lib.hid (And.intro hst hse)
    clear hb r0 r1 r2 r3 r4 hst hse TX B4 K4
    obtain ⟨q0, q1, q2, q3, q4, _, _, _, _, _⟩ := row5 B5.out.row
    simp only at q0 q1 q2 q3 q4
    go_wp2_with fail
    refine (rshowExpr_t (x := ⟨k, t, x1, x2, x3⟩) B5.out.hB B5.out.nv HS.out).mono ?_
    rintro e w6 ⟨rfl, hb⟩
    rw [← HCC.out.1, ← HCC.out.2]
    have TX6 := Lib.hid (TX5.out.later hb)
    have B6 := Lib.hid (B5.out.later hb)
    have K6 := Lib.hid (K5.out.trans (hb.mono K5.out.size))
    clear hb q0 q1 q2 q3 q4 TX5 B5 K5 HCC
    obtain ⟨q0, q1, q2, q3, q4, _, _, _, _, _⟩ := row5 B6.out.row
    simp only at q0 q1 q2 q3 q4
    obtain ⟨r0, r1, r2, r3, r4, _, _, _, _, _⟩ := row5 TX6.out.row
    simp only at r0 r1 r2 r3 r4
    go_wp2_with fail
    refine (left_one (x := ⟨k, t, x1, x2, x3⟩) (B := w6.heap.size) (left_nodes _) (left_nodes _) (left_nodes _) (Nat.le_refl _) (TX6.out.l.mono fun b hb _ => hb) (TX6.out.body.mono fun b hb _ => hb) (TX6.out.els.mono fun b hb _ => hb) (B6.out.l.mono fun b hb _ => hb) (B6.out.body.mono fun b hb _ => hb) (B6.out.els.mono fun b hb _ => hb)).mono ?_
    rintro e w7 ⟨rfl, hb⟩
    have K7 := Lib.hid (Y0.out.trans ((K6.out.trans (hb.mono K6.out.size)).mono Y0.out.size))
    clear hb q0 q1 q2 q3 q4 r0 r1 r2 r3 r4
    go_wp2_with fail
    go_ret
    exact ⟨rfl, K7.out⟩
  · have hm2 : (3000 : Int) < m := by omega
    clear hm
    go_wp2_with fail
    go_ret
    exact ⟨rfl, Y0.out.trans (K1.out.mono Y0.out.size)⟩
end Go.Proofs.YtobpnjnfpgcpaaaDoor
