/- Shows: the document's Expr, of an expression. -/
import Derived.Test.YtobpnjnfpgcpaaaDoorShExprDT
import Derived.Test.YtobpnjnfpgcpaaaDoorShRfTT
import Derived.Test.YtobpnjnfpgcpaaaDoorNdRCheckT
namespace Go.Proofs.YtobpnjnfpgcpaaaDoor
open Go.RowKit Go.My Go.Nd

set_option maxRecDepth 100000 in
set_option maxHeartbeats 4000000 in
theorem rshowExpr_t {w : World} {B : Nat} {tw : Bool} {x : Nd} {v : Value} (hB : B ≤ w.heap.size) (h : NV tw w B v x) (hs : 1 + x.text.length + x.l.sz + x.body.sz + x.els.sz ≤ 1048576) :
    Calls Tryd.prog 8 #[v] w fun e w' => e = .returned (.tuple #[.string (bs (showE wrapI x).1), .int .i64 ((showE wrapI x).2 : Int)]) ∧ Below w.heap.size w w' := by
  have hv := h
  obtain ⟨a1, c1, a2, c2, a3, c3, rfl, hk, ht, _, _, _⟩ := h
  obtain ⟨hA, hn, hz⟩ := Put.new w #[.int .u8 (x.kind : Int), .string (tx x.text), .slice a1 x.l.len c1, .slice a2 x.body.len c2, .slice a3 x.els.len c3] 25
  obtain ⟨bx, hbx⟩ : ∃ bx, bx = w.heap.size := ⟨_, rfl⟩
  obtain ⟨w0, hw0⟩ : ∃ w0, w0 = w.alloc (.cells #[.int .u8 (x.kind : Int), .string (tx x.text), .slice a1 x.l.len c1, .slice a2 x.body.len c2, .slice a3 x.els.len c3] 25) := ⟨_, rfl⟩
  rw [← hw0] at hA hn hz
  rw [← hbx] at hn
  obtain ⟨q0, q1, q2, q3, q4, _, _, _, _, _⟩ := row5 hn
  have V0 := Lib.hid (hv.below (hA.mono hB))
  have HB0 := Lib.hid (Nat.le_trans hB hA.size)
  have K0 := Lib.hid hA
  have HN := Lib.hid hn
  have HS := Lib.hid hs
  clear hv hA hn hz hk ht hs hB
  go_enter Tryd.func8, Tryd.ntmps8
  go_upto_region 1 with fail
  rw [← hbx, ← hw0]
  clear hbx hw0
  have hN := st_lit 25 (V0.out.untw) HB0.out 13 (by decide) [] (by decide)
  have hA1 := Below.alloc (Below.refl w0.heap.size w0) (Nat.le_refl _) (.cells #[.int .u8 (x.kind : Int), .string (tx x.text), .slice a1 x.l.len c1, .slice a2 x.body.len c2, .slice a3 x.els.len c3] 25)
  have hA2 := Below.alloc hA1 hA1.size (.cells #[.int .u8 ((13 : Nat) : Int), .string (tx []), .slice (some ⟨w0.heap.size, 0, none⟩) 1 1, .slice none 0 0, .slice none 0 0] 25)
  have hz2 := (Put.new (w0.alloc (.cells #[.int .u8 (x.kind : Int), .string (tx x.text), .slice a1 x.l.len c1, .slice a2 x.body.len c2, .slice a3 x.els.len c3] 25)) #[.int .u8 ((13 : Nat) : Int), .string (tx []), .slice (some ⟨w0.heap.size, 0, none⟩) 1 1, .slice none 0 0, .slice none 0 0] 25).2.2
  rw [(Put.new w0 _ _).2.2] at hz2
  obtain ⟨w2, hw2⟩ : ∃ w2, w2 = (w0.alloc (.cells #[.int .u8 (x.kind : Int), .string (tx x.text), .slice a1 x.l.len c1, .slice a2 x.body.len c2, .slice a3 x.els.len c3] 25)).alloc (.cells #[.int .u8 ((13 : Nat) : Int), .string (tx []), .slice (some ⟨w0.heap.size, 0, none⟩) 1 1, .slice none 0 0, .slice none 0 0] 25) := ⟨_, rfl⟩
  rw [← hw2] at hN hA2 hz2
  obtain ⟨bs1, hbs1⟩ : ∃ bs1, bs1 = w0.heap.size + 1 := ⟨_, rfl⟩
  rw [← hbs1] at hN
  have X2 := Lib.hid (And.intro hN (And.intro hA2 (show w0.heap.size + 2 ≤ w2.heap.size by omega)))
  clear hN hA1 hA2 hz2
  go_wp2_with fail
  have ew : (w0.alloc (.cells #[.int .u8 (x.kind : Int), .string (tx x.text), .slice a1 x.l.len c1, .slice a2 x.body.len c2, .slice a3 x.els.len c3] 25)).alloc (.cells #[.int .u8 13, .string ⟨#[]⟩, .slice (some ⟨w0.heap.size, 0, none⟩) 1 1, .slice none 0 0, .slice none 0 0] 25) = w2 := hw2.symm
  rw [ew, ← hbs1]
  clear ew hw2 hbs1
  refine (rcheck_t (p := stOf x) X2.out.2.2 (funcs_none _ _) X2.out.1).mono ?_
  rintro e w3 ⟨rfl, hb3⟩
  have K3 := Lib.hid (X2.out.2.1.trans (hb3.mono X2.out.2.1.size))
  clear hb3 q0 q1 q2 q3 q4
  cases hc : check wrapI (stOf x) with
  | false =>
    have HE := Lib.hid (show showE wrapI x = ([], 1) by unfold showE; rw [if_neg (by rw [hc]; exact fun e => by cases e)])
    clear hc
    go_wp2_with fail
    go_ret2
    exact ⟨by rw [HE.out]; rfl, K0.out.trans (K3.out.mono K0.out.size)⟩
  | true =>
    have HE := Lib.hid (show showE wrapI x = (x.sh, 0) by unfold showE; rw [if_pos hc])
    have HO := Lib.hid (okx_of_check hc)
    clear hc
    have hrow := (K3.out.block bx (row_lt HN.out)).trans HN.out
    obtain ⟨q0, q1, q2, q3, q4, _, _, _, _, _⟩ := row5 hrow
    clear hrow
    go_wp2_with fail
    refine (rexpr_ok tw x HO.out HS.out w3 B _ (Nat.le_trans HB0.out K3.out.size) (V0.out.below (K3.out.mono HB0.out))).mono ?_
    rintro e w4 ⟨rfl, hb4⟩
    have K4 := Lib.hid (K3.out.trans (hb4.mono K3.out.size))
    clear hb4 q0 q1 q2 q3 q4
    go_wp2_with fail
    go_ret2
    exact ⟨by rw [HE.out]; rfl, K0.out.trans (K4.out.mono K0.out.size)⟩
end Go.Proofs.YtobpnjnfpgcpaaaDoor
