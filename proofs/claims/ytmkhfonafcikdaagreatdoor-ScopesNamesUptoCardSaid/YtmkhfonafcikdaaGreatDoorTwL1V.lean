/- Trees: whether nodes are as they were: one node. -/
import Derived.Test.YtmkhfonafcikdaaGreatDoorTwBV
namespace Go.Proofs.YtmkhfonafcikdaaGreatDoor
open Go.RowKit Go.My Go.Nd

def LeftSaid (x : Ns) : Prop := ∀ (w : World) (B : Nat) (tv v : Value), B ≤ w.heap.size → Nodes w (· < B) true tv x → Nodes w (· < B) false v x → Calls Tryz.prog 46 #[tv, v] w fun e w' => e = .returned (.bool true) ∧ Below w.heap.size w w'

set_option maxRecDepth 100000 in
set_option maxHeartbeats 4000000 in
theorem left_one {B : Nat} {x : Nd} (h1 : LeftSaid x.l) (h2 : LeftSaid x.body) (h3 : LeftSaid x.els) {w : World} {a1 a2 a3 b1 b2 b3 : Option Addr} {c1 c2 c3 d1 d2 d3 : Nat} (hB : B ≤ w.heap.size)
    (t1 : Nodes w (· < B) true (.slice a1 x.l.len c1) x.l) (t2 : Nodes w (· < B) true (.slice a2 x.body.len c2) x.body) (t3 : Nodes w (· < B) true (.slice a3 x.els.len c3) x.els)
    (n1 : Nodes w (· < B) false (.slice b1 x.l.len d1) x.l) (n2 : Nodes w (· < B) false (.slice b2 x.body.len d2) x.body) (n3 : Nodes w (· < B) false (.slice b3 x.els.len d3) x.els) :
    Calls Tryz.prog 108 #[.agg #[.int .u8 (x.kind : Int), .string (tx x.text), .slice a1 x.l.len c1, .slice a2 x.body.len c2, .slice a3 x.els.len c3], .agg #[.int .u8 (x.kind : Int), .string (tx x.text), .slice b1 x.l.len d1, .slice b2 x.body.len d2, .slice b3 x.els.len d3]] w fun e w' => e = .returned (.bool true) ∧ Below w.heap.size w w' := by
  obtain ⟨kd, tt, xl, xb, xe⟩ := x
  simp only at *
  have H1 := Lib.hid h1
  have H2 := Lib.hid h2
  have H3 := Lib.hid h3
  clear h1 h2 h3
  go_enter Tryz.func108, Tryz.ntmps108
  have hA1 := Below.alloc (Below.refl w.heap.size w) (Nat.le_refl _) (.cells #[.int .u8 (kd : Int), .string (tx tt), .slice a1 xl.len c1, .slice a2 xb.len c2, .slice a3 xe.len c3] 61)
  have hA := Below.alloc hA1 (Nat.le_trans (Nat.le_refl _) hA1.size) (.cells #[.int .u8 (kd : Int), .string (tx tt), .slice b1 xl.len d1, .slice b2 xb.len d2, .slice b3 xe.len d3] 61)
  obtain ⟨bx, hbx⟩ : ∃ bx, bx = w.heap.size := ⟨_, rfl⟩
  obtain ⟨w0, hw0⟩ : ∃ w0, w0 = (w.alloc (.cells #[.int .u8 (kd : Int), .string (tx tt), .slice a1 xl.len c1, .slice a2 xb.len c2, .slice a3 xe.len c3] 61)).alloc (.cells #[.int .u8 (kd : Int), .string (tx tt), .slice b1 xl.len d1, .slice b2 xb.len d2, .slice b3 xe.len d3] 61) := ⟨_, rfl⟩
  have hr0 : w0.heap[bx]? = some (.cells #[.int .u8 (kd : Int), .string (tx tt), .slice a1 xl.len c1, .slice a2 xb.len c2, .slice a3 xe.len c3] 61 (0, 0)) := by
    rw [hw0, hbx, Below.heap_alloc _ _ _ (by simp)]; exact heap_alloc_new w _
  have hr1 : w0.heap[bx + 1]? = some (.cells #[.int .u8 (kd : Int), .string (tx tt), .slice b1 xl.len d1, .slice b2 xb.len d2, .slice b3 xe.len d3] 61 (0, 0)) := by
    have := heap_alloc_new (w.alloc (.cells #[.int .u8 (kd : Int), .string (tx tt), .slice a1 xl.len c1, .slice a2 xb.len c2, .slice a3 xe.len c3] 61)) (.cells #[.int .u8 (kd : Int), .string (tx tt), .slice b1 xl.len d1, .slice b2 xb.len d2, .slice b3 xe.len d3] 61)
    rw [hw0, hbx]; simpa using this
  have hrow : ∀ w1, Below w0.heap.size w0 w1 → w1.heap[bx]? = _ ∧ w1.heap[bx + 1]? = _ := fun w1 hb => ⟨(hb.block _ (Array.getElem?_eq_some_iff.1 hr0).1).trans hr0, (hb.block _ (Array.getElem?_eq_some_iff.1 hr1).1).trans hr1⟩
  have hbox : ∀ w1, Below w0.heap.size w0 w1 → (w1.cell? ⟨bx, 0, none⟩ = some (.int .u8 (kd : Int)) ∧ w1.cell? ⟨bx, 1, none⟩ = some (.string (tx tt)) ∧ w1.cell? ⟨bx, 2, none⟩ = some (.slice a1 xl.len c1) ∧ w1.cell? ⟨bx, 3, none⟩ = some (.slice a2 xb.len c2) ∧ w1.cell? ⟨bx, 4, none⟩ = some (.slice a3 xe.len c3)) ∧
      (w1.cell? ⟨bx + 1, 0, none⟩ = some (.int .u8 (kd : Int)) ∧ w1.cell? ⟨bx + 1, 1, none⟩ = some (.string (tx tt)) ∧ w1.cell? ⟨bx + 1, 2, none⟩ = some (.slice b1 xl.len d1) ∧ w1.cell? ⟨bx + 1, 3, none⟩ = some (.slice b2 xb.len d2) ∧ w1.cell? ⟨bx + 1, 4, none⟩ = some (.slice b3 xe.len d3)) := fun w1 hb =>
    ⟨⟨cell_of_row w1 bx 0 _ _ _ (hrow w1 hb).1, cell_of_row w1 bx 1 _ _ _ (hrow w1 hb).1, cell_of_row w1 bx 2 _ _ _ (hrow w1 hb).1, cell_of_row w1 bx 3 _ _ _ (hrow w1 hb).1, cell_of_row w1 bx 4 _ _ _ (hrow w1 hb).1⟩,
     ⟨cell_of_row w1 (bx + 1) 0 _ _ _ (hrow w1 hb).2, cell_of_row w1 (bx + 1) 1 _ _ _ (hrow w1 hb).2, cell_of_row w1 (bx + 1) 2 _ _ _ (hrow w1 hb).2, cell_of_row w1 (bx + 1) 3 _ _ _ (hrow w1 hb).2, cell_of_row w1 (bx + 1) 4 _ _ _ (hrow w1 hb).2⟩⟩
  rw [← hw0] at hA
  have HX := Lib.hid hbox
  have Y0 := Lib.hid hA
  have T1 := Lib.hid (t1.below (hA.mono hB))
  have T2 := Lib.hid (t2.below (hA.mono hB))
  have T3 := Lib.hid (t3.below (hA.mono hB))
  have N1 := Lib.hid (n1.below (hA.mono hB))
  have N2 := Lib.hid (n2.below (hA.mono hB))
  have N3 := Lib.hid (n3.below (hA.mono hB))
  have HB0 := Lib.hid (Nat.le_trans hB hA.size)
  clear hA1 hA hr0 hr1 hrow hbox t1 t2 t3 n1 n2 n3 hB
  go_upto_region 1 with fail
  rw [← hbx, ← hw0]
  clear hbx hw0
  obtain ⟨⟨p0, p1, p2, p3, p4⟩, ⟨q0, q1, q2, q3, q4⟩⟩ := HX.out w0 (Below.refl _ _)
  go_wp2_with fail
  refine (H1.out w0 B _ _ HB0.out T1.out N1.out).mono ?_
  rintro e w1 ⟨rfl, hb⟩
  have K1 := Lib.hid hb
  clear hb p0 p1 p2 p3 p4 q0 q1 q2 q3 q4
  obtain ⟨⟨p0, p1, p2, p3, p4⟩, ⟨q0, q1, q2, q3, q4⟩⟩ := HX.out w1 K1.out
  go_wp2_with fail
  refine (H2.out w1 B _ _ (Nat.le_trans HB0.out K1.out.size) (T2.out.below (K1.out.mono HB0.out)) (N2.out.below (K1.out.mono HB0.out))).mono ?_
  rintro e w2 ⟨rfl, hb⟩
  have K2 := Lib.hid (K1.out.trans (hb.mono K1.out.size))
  clear hb p0 p1 p2 p3 p4 q0 q1 q2 q3 q4
  obtain ⟨⟨p0, p1, p2, p3, p4⟩, ⟨q0, q1, q2, q3, q4⟩⟩ := HX.out w2 K2.out
  go_wp2_with fail
  refine (H3.out w2 B _ _ (Nat.le_trans HB0.out K2.out.size) (T3.out.below (K2.out.mono HB0.out)) (N3.out.below (K2.out.mono HB0.out))).mono ?_
  rintro e w3 ⟨rfl, hb⟩
  have K3 := Lib.hid (K2.out.trans (hb.mono K2.out.size))
  clear hb p0 p1 p2 p3 p4 q0 q1 q2 q3 q4
  go_wp2_with fail
  go_ret
  exact ⟨rfl, Y0.out.trans (K3.out.mono Y0.out.size)⟩
end Go.Proofs.YtmkhfonafcikdaaGreatDoor
