/- Trees: twins of nodes, each list in a block of its own (NdTwin, and more). -/
import Derived.Test.YtmkhfonafcikdaaGreatDoorTrC3
import Derived.Test.YtmkhfonafcikdaaGreatDoorTrC2
import Derived.Deep.MidRow
import Derived.Deep.RegionHeld3
namespace Go.Proofs.YtmkhfonafcikdaaGreatDoor
open Go.RowKit Go.My Go.Nd

theorem there_of_row {w : World} {b n : Nat} {cs : Array Value} {ty : TypeId} (h : w.heap[b]? = some (.cells cs ty (0, 0))) (hn : n ≤ cs.size) : w.there b 0 n := fun j hj => by
  rw [Nat.zero_add]
  exact ⟨by rw [cell_of_row w b j _ _ _ h]; simp; omega, frozen_of_row w b j _ _ h⟩

theorem store5 {w : World} {b : Nat} {z0 z1 z2 z3 z4 : Value} {ty : TypeId} (h : w.heap[b]? = some (.cells #[z0, z1, z2, z3, z4] ty (0, 0))) (v0 v1 v2 v3 v4 : Value) :
    (w.cell? ⟨b, 0, none⟩ = some z0 ∧ w.frozen? ⟨b, 0, none⟩ = false) ∧
    ((w.setCell ⟨b, 0, none⟩ v0).cell? ⟨b, 1, none⟩ = some z1 ∧ (w.setCell ⟨b, 0, none⟩ v0).frozen? ⟨b, 1, none⟩ = false) ∧
    (((w.setCell ⟨b, 0, none⟩ v0).setCell ⟨b, 1, none⟩ v1).cell? ⟨b, 2, none⟩ = some z2 ∧ ((w.setCell ⟨b, 0, none⟩ v0).setCell ⟨b, 1, none⟩ v1).frozen? ⟨b, 2, none⟩ = false) ∧
    ((((w.setCell ⟨b, 0, none⟩ v0).setCell ⟨b, 1, none⟩ v1).setCell ⟨b, 2, none⟩ v2).cell? ⟨b, 3, none⟩ = some z3 ∧ (((w.setCell ⟨b, 0, none⟩ v0).setCell ⟨b, 1, none⟩ v1).setCell ⟨b, 2, none⟩ v2).frozen? ⟨b, 3, none⟩ = false) ∧
    (((((w.setCell ⟨b, 0, none⟩ v0).setCell ⟨b, 1, none⟩ v1).setCell ⟨b, 2, none⟩ v2).setCell ⟨b, 3, none⟩ v3).cell? ⟨b, 4, none⟩ = some z4 ∧ ((((w.setCell ⟨b, 0, none⟩ v0).setCell ⟨b, 1, none⟩ v1).setCell ⟨b, 2, none⟩ v2).setCell ⟨b, 3, none⟩ v3).frozen? ⟨b, 4, none⟩ = false) ∧
    (((((w.setCell ⟨b, 0, none⟩ v0).setCell ⟨b, 1, none⟩ v1).setCell ⟨b, 2, none⟩ v2).setCell ⟨b, 3, none⟩ v3).setCell ⟨b, 4, none⟩ v4).heap[b]? = some (.cells #[v0, v1, v2, v3, v4] ty (0, 0)) := by
  have r1 := heap_setCell_same w b 0 _ _ v0 h
  have r2 := heap_setCell_same _ b 1 _ _ v1 r1
  have r3 := heap_setCell_same _ b 2 _ _ v2 r2
  have r4 := heap_setCell_same _ b 3 _ _ v3 r3
  have r5 := heap_setCell_same _ b 4 _ _ v4 r4
  refine ⟨⟨?_, frozen_of_row _ b _ _ _ h⟩, ⟨?_, frozen_of_row _ b _ _ _ r1⟩, ⟨?_, frozen_of_row _ b _ _ _ r2⟩, ⟨?_, frozen_of_row _ b _ _ _ r3⟩, ⟨?_, frozen_of_row _ b _ _ _ r4⟩, ?_⟩
  · rw [cell_of_row _ b _ _ _ _ h]; rfl
  · rw [cell_of_row _ b _ _ _ _ r1]; rfl
  · rw [cell_of_row _ b _ _ _ _ r2]; rfl
  · rw [cell_of_row _ b _ _ _ _ r3]; rfl
  · rw [cell_of_row _ b _ _ _ _ r4]; rfl
  · rw [r5]; rfl

theorem below_set {w0 w : World} {n b : Nat} (h : Below n w0 w) (hb : n ≤ b) (o : Nat) (v : Value) : Below n w0 (w.setCell ⟨b, o, none⟩ v) :=
  ⟨h.os, h.tape, h.output, by rw [show (w.setCell ⟨b, o, none⟩ v).heap.size = w.heap.size by simp]; exact h.size, fun k hk => (Below.heap_setCell w ⟨b, o, none⟩ v k (by simp; omega)).trans (h.block k hk)⟩

theorem range_of_row {w : World} {b : Nat} {cs : List Value} {ty : TypeId} (h : w.heap[b]? = some (.cells cs.toArray ty (0, 0))) : w.rangeAt b 0 cs := fun j v hv => by
  rw [Nat.zero_add, cell_of_row w b j _ _ _ h, ← hv]; simp

theorem nodeElem : Elem Tryz.prog 23 61 5 96 (.agg #[.int .u8 0, .string ⟨#[]⟩, .slice none 0 0, .slice none 0 0, .slice none 0 0]) := Elem.mk' Tryz.underlying23 (by kernel_rfl) rfl (by decide)

/-- What is new reads as the nodes, with marks behind the lists. -/
def FreshN (w w' : World) (v : Value) (x : Ns) : Prop := Nodes w' (fun b => w.heap.size ≤ b) true v x
/-- And each list in it stands in a block of its own. -/
def Fresh (w w' : World) (v : Value) (x : Ns) : Prop := FreshN w w' v x ∧ LR w' TN w.heap.size w'.heap.size v x

def TwinSaid (x : Ns) : Prop := ∀ (w : World) (B : Nat) (v : Value), B ≤ w.heap.size → Nodes w (· < B) false v x → ∀ (Q : Ending → World → Prop), (∀ v' w', Below w.heap.size w w' → Fresh w w' v' x → Q (.returned v') w') → Calls Tryz.prog 31 #[v] w Q

theorem FreshN.later {w w1 w2 : World} {v : Value} {x : Ns} (h : FreshN w w1 v x) (hb : Below w1.heap.size w1 w2) : FreshN w w2 v x := Nodes.frame h fun b _ hlt => hb.block b hlt

theorem lr_at {T : TypeId} {wb w3 wz : World} {lo : Nat} {v : Value} {x : Ns} {c : Nat} (f : LR wb T lo wb.heap.size v x) (hb : Below wb.heap.size wb w3) (ho : ∀ k, k ≠ c → wz.heap[k]? = w3.heap[k]?) (hc : c < lo) : LR wz T lo wb.heap.size v x :=
  (f.later hb (Nat.le_refl _)).frame fun b h1 _ => ho b (by omega)
theorem fresh_at {w wa wb w3 wz : World} {v : Value} {x : Ns} {c : Nat} (f : FreshN wa wb v x) (hb : Below wb.heap.size wb w3) (ho : ∀ k, k ≠ c → wz.heap[k]? = w3.heap[k]?) (hc : c < wa.heap.size) (hw : w.heap.size ≤ wa.heap.size) : FreshN w wz v x :=
  Nodes.mono (Nodes.frame (f.later hb) fun b hS _ => ho b (by have : wa.heap.size ≤ b := hS; omega)) fun b _ hS => Nat.le_trans hw hS

/-- What is kept through the calls: all that was there, and the place of the result. -/
def Held (w : World) (b : Nat) (w' : World) : Prop := Below w.heap.size w w' ∧ ∃ z0 z1 z2 z3 z4, w'.heap[b]? = some (.cells #[z0, z1, z2, z3, z4] 61 (0, 0))
theorem twin_arm {x : Ns} (hI : TwinSaid x) {w w' : World} {b B : Nat} {v : Value} (hB : B ≤ w.heap.size) (hN : Nodes w (· < B) false v x) {X : Prop} (hS : X ∧ Held w b w') (Q : Ending → World → Prop)
    (h : ∀ v' w'', Below w'.heap.size w' w'' → Fresh w' w'' v' x → Q (.returned v') w'') : Calls Tryz.prog 31 #[v] w' Q :=
  hI w' B v (Nat.le_trans hB hS.2.1.size) (hN.below (hS.2.1.mono hB)) Q h
theorem Held.later {w w' w'' : World} {b : Nat} (h : Held w b w') (hk : Below w'.heap.size w' w'') : Held w b w'' := by
  obtain ⟨h1, z0, z1, z2, z3, z4, h2⟩ := h
  exact ⟨h1.trans (hk.mono h1.size), z0, z1, z2, z3, z4, (hk.block b (Array.getElem?_eq_some_iff.1 h2).1).trans h2⟩
theorem keep5 {w w' w'' : World} {b c : Nat} {u0 u1 u2 u3 u4 : Value}
    (hS : (w'.cell? ⟨b, 0, none⟩ = some u0 ∧ w'.cell? ⟨b, 1, none⟩ = some u1 ∧ w'.cell? ⟨b, 2, none⟩ = some u2 ∧ w'.cell? ⟨b, 3, none⟩ = some u3 ∧ w'.cell? ⟨b, 4, none⟩ = some u4) ∧ Held w c w') (hk : Below w'.heap.size w' w'') :
    (w''.cell? ⟨b, 0, none⟩ = some u0 ∧ w''.cell? ⟨b, 1, none⟩ = some u1 ∧ w''.cell? ⟨b, 2, none⟩ = some u2 ∧ w''.cell? ⟨b, 3, none⟩ = some u3 ∧ w''.cell? ⟨b, 4, none⟩ = some u4) ∧ Held w c w'' := by
  obtain ⟨⟨h0, h1, h2, h3, h4⟩, hb⟩ := hS
  have e : ∀ o, w''.cell? ⟨b, o, none⟩ = w'.cell? ⟨b, o, none⟩ := fun o => World.cell?_of_block (hk.block b (World.block_lt_of_cell? _ _ h0))
  exact ⟨⟨(e _).trans h0, (e _).trans h1, (e _).trans h2, (e _).trans h3, (e _).trans h4⟩, hb.later hk⟩

/-- The result's cells are written: what is kept, and what it is. -/
theorem wrote5 {w w' : World} {b c : Nat} {u0 u1 u2 u3 u4 : Value}
    (hS : (w'.cell? ⟨b, 0, none⟩ = some u0 ∧ w'.cell? ⟨b, 1, none⟩ = some u1 ∧ w'.cell? ⟨b, 2, none⟩ = some u2 ∧ w'.cell? ⟨b, 3, none⟩ = some u3 ∧ w'.cell? ⟨b, 4, none⟩ = some u4) ∧ Held w c w') (hbc : b ≠ c) (hc : w.heap.size ≤ c) (v0 v1 v2 v3 v4 : Value) :
    ∃ z0 z1 z2 z3 z4, ((w'.cell? ⟨c, 0, none⟩ = some z0 ∧ w'.frozen? ⟨c, 0, none⟩ = false) ∧
    ((w'.setCell ⟨c, 0, none⟩ v0).cell? ⟨c, 1, none⟩ = some z1 ∧ (w'.setCell ⟨c, 0, none⟩ v0).frozen? ⟨c, 1, none⟩ = false) ∧
    (((w'.setCell ⟨c, 0, none⟩ v0).setCell ⟨c, 1, none⟩ v1).cell? ⟨c, 2, none⟩ = some z2 ∧ ((w'.setCell ⟨c, 0, none⟩ v0).setCell ⟨c, 1, none⟩ v1).frozen? ⟨c, 2, none⟩ = false) ∧
    ((((w'.setCell ⟨c, 0, none⟩ v0).setCell ⟨c, 1, none⟩ v1).setCell ⟨c, 2, none⟩ v2).cell? ⟨c, 3, none⟩ = some z3 ∧ (((w'.setCell ⟨c, 0, none⟩ v0).setCell ⟨c, 1, none⟩ v1).setCell ⟨c, 2, none⟩ v2).frozen? ⟨c, 3, none⟩ = false) ∧
    (((((w'.setCell ⟨c, 0, none⟩ v0).setCell ⟨c, 1, none⟩ v1).setCell ⟨c, 2, none⟩ v2).setCell ⟨c, 3, none⟩ v3).cell? ⟨c, 4, none⟩ = some z4 ∧ ((((w'.setCell ⟨c, 0, none⟩ v0).setCell ⟨c, 1, none⟩ v1).setCell ⟨c, 2, none⟩ v2).setCell ⟨c, 3, none⟩ v3).frozen? ⟨c, 4, none⟩ = false)) ∧
    (∀ wz, wz = ((((w'.setCell ⟨c, 0, none⟩ v0).setCell ⟨c, 1, none⟩ v1).setCell ⟨c, 2, none⟩ v2).setCell ⟨c, 3, none⟩ v3).setCell ⟨c, 4, none⟩ v4 → wz.heap[c]? = some (.cells #[v0, v1, v2, v3, v4] 61 (0, 0)) ∧ Below w.heap.size w wz ∧ wz.heap.size = w'.heap.size ∧ (∀ k, k ≠ c → wz.heap[k]? = w'.heap[k]?) ∧
      ((wz.cell? ⟨b, 0, none⟩ = some u0 ∧ wz.cell? ⟨b, 1, none⟩ = some u1 ∧ wz.cell? ⟨b, 2, none⟩ = some u2 ∧ wz.cell? ⟨b, 3, none⟩ = some u3 ∧ wz.cell? ⟨b, 4, none⟩ = some u4) ∧ Held w c wz)) := by
  obtain ⟨⟨h0, h1, h2, h3, h4⟩, hb, z0, z1, z2, z3, z4, hr⟩ := hS
  have s5 := store5 hr v0 v1 v2 v3 v4
  refine ⟨z0, z1, z2, z3, z4, ⟨s5.1, s5.2.1, s5.2.2.1, s5.2.2.2.1, s5.2.2.2.2.1⟩, fun wz hw => ?_⟩
  have hrow := s5.2.2.2.2.2
  have hbel := below_set (below_set (below_set (below_set (below_set hb hc 0 v0) hc 1 v1) hc 2 v2) hc 3 v3) hc 4 v4
  have hoth : ∀ k, k ≠ c → (((((w'.setCell ⟨c, 0, none⟩ v0).setCell ⟨c, 1, none⟩ v1).setCell ⟨c, 2, none⟩ v2).setCell ⟨c, 3, none⟩ v3).setCell ⟨c, 4, none⟩ v4).heap[k]? = w'.heap[k]? := fun k hk => by
    rw [Below.heap_setCell _ _ _ k (by simpa using hk), Below.heap_setCell _ _ _ k (by simpa using hk), Below.heap_setCell _ _ _ k (by simpa using hk), Below.heap_setCell _ _ _ k (by simpa using hk), Below.heap_setCell _ _ _ k (by simpa using hk)]
  have hsz : (((((w'.setCell ⟨c, 0, none⟩ v0).setCell ⟨c, 1, none⟩ v1).setCell ⟨c, 2, none⟩ v2).setCell ⟨c, 3, none⟩ v3).setCell ⟨c, 4, none⟩ v4).heap.size = w'.heap.size := by simp
  rw [← hw] at hrow hbel hoth hsz
  have e : ∀ o, wz.cell? ⟨b, o, none⟩ = w'.cell? ⟨b, o, none⟩ := fun o => World.cell?_of_block (hoth b hbc)
  exact ⟨hrow, hbel, hsz, hoth, ⟨(e _).trans h0, (e _).trans h1, (e _).trans h2, (e _).trans h3, (e _).trans h4⟩, hbel, _, _, _, _, _, hrow⟩

set_option maxRecDepth 100000 in
set_option maxHeartbeats 6000000 in
theorem twin_one {B : Nat} {x : Nd} (h1 : TwinSaid x.l) (h2 : TwinSaid x.body) (h3 : TwinSaid x.els) {w : World} {a1 a2 a3 : Option Addr} {c1 c2 c3 : Nat} (hB : B ≤ w.heap.size)
    (n1 : Nodes w (· < B) false (.slice a1 x.l.len c1) x.l) (n2 : Nodes w (· < B) false (.slice a2 x.body.len c2) x.body) (n3 : Nodes w (· < B) false (.slice a3 x.els.len c3) x.els) {Q : Ending → World → Prop}
    (h : ∀ v1 v2 v3 w', Below w.heap.size w w' → FreshN w w' v1 x.l → FreshN w w' v2 x.body → FreshN w w' v3 x.els → (∃ m0 m1 m2 m3, w.heap.size ≤ m0 ∧ m0 ≤ m1 ∧ m1 ≤ m2 ∧ m2 ≤ m3 ∧ m3 ≤ w'.heap.size ∧ LR w' TN m0 m1 v1 x.l ∧ LR w' TN m1 m2 v2 x.body ∧ LR w' TN m2 m3 v3 x.els) → Q (.returned (.agg #[.int .u8 (x.kind : Int), .string (tx x.text), v1, v2, v3])) w') :
    Calls Tryz.prog 97 #[.agg #[.int .u8 (x.kind : Int), .string (tx x.text), .slice a1 x.l.len c1, .slice a2 x.body.len c2, .slice a3 x.els.len c3]] w Q := by
  obtain ⟨kd, tt, xl, xb, xe⟩ := x
  simp only at *
  have H := Lib.hid h
  have H1 := Lib.hid h1
  have H2 := Lib.hid h2
  have H3 := Lib.hid h3
  have HB := Lib.hid hB
  have N1 := Lib.hid n1
  have N2 := Lib.hid n2
  have N3 := Lib.hid n3
  clear h h1 h2 h3 n1 n2 n3 hB
  go_enter Tryz.func97, Tryz.ntmps97
  have hA1 := Below.alloc (Below.refl w.heap.size w) (Nat.le_refl _) (.cells #[.int .u8 (kd : Int), .string (tx tt), .slice a1 xl.len c1, .slice a2 xb.len c2, .slice a3 xe.len c3] 61)
  have hA := Below.alloc hA1 (Nat.le_trans (Nat.le_refl _) hA1.size) (.cells #[.int .u8 0, .string ⟨#[]⟩, .slice none 0 0, .slice none 0 0, .slice none 0 0] 61)
  obtain ⟨bx, hbx⟩ : ∃ bx, bx = w.heap.size := ⟨_, rfl⟩
  obtain ⟨w0, hw0⟩ : ∃ w0, w0 = (w.alloc (.cells #[.int .u8 (kd : Int), .string (tx tt), .slice a1 xl.len c1, .slice a2 xb.len c2, .slice a3 xe.len c3] 61)).alloc (.cells #[.int .u8 0, .string ⟨#[]⟩, .slice none 0 0, .slice none 0 0, .slice none 0 0] 61) := ⟨_, rfl⟩
  have hr0 : w0.heap[bx]? = some (.cells #[.int .u8 (kd : Int), .string (tx tt), .slice a1 xl.len c1, .slice a2 xb.len c2, .slice a3 xe.len c3] 61 (0, 0)) := by
    rw [hw0, hbx, Below.heap_alloc _ _ _ (by simp)]; exact heap_alloc_new w _
  have hr1 : w0.heap[bx + 1]? = some (.cells #[.int .u8 0, .string ⟨#[]⟩, .slice none 0 0, .slice none 0 0, .slice none 0 0] 61 (0, 0)) := by
    have := heap_alloc_new (w.alloc (.cells #[.int .u8 (kd : Int), .string (tx tt), .slice a1 xl.len c1, .slice a2 xb.len c2, .slice a3 xe.len c3] 61)) (.cells #[.int .u8 0, .string ⟨#[]⟩, .slice none 0 0, .slice none 0 0, .slice none 0 0] 61)
    rw [hw0, hbx]; simpa using this
  have hrow : ∀ w1, Below w0.heap.size w0 w1 → w1.heap[bx]? = _ ∧ w1.heap[bx + 1]? = _ := fun w1 hb => ⟨(hb.block _ (Array.getElem?_eq_some_iff.1 hr0).1).trans hr0, (hb.block _ (Array.getElem?_eq_some_iff.1 hr1).1).trans hr1⟩
  have hbox : ∀ w1, Below w0.heap.size w0 w1 → w1.cell? ⟨bx, 0, none⟩ = some (.int .u8 (kd : Int)) ∧ w1.cell? ⟨bx, 1, none⟩ = some (.string (tx tt)) ∧ w1.cell? ⟨bx, 2, none⟩ = some (.slice a1 xl.len c1) ∧ w1.cell? ⟨bx, 3, none⟩ = some (.slice a2 xb.len c2) ∧ w1.cell? ⟨bx, 4, none⟩ = some (.slice a3 xe.len c3) := fun w1 hb =>
    ⟨cell_of_row w1 bx 0 _ _ _ (hrow w1 hb).1, cell_of_row w1 bx 1 _ _ _ (hrow w1 hb).1, cell_of_row w1 bx 2 _ _ _ (hrow w1 hb).1, cell_of_row w1 bx 3 _ _ _ (hrow w1 hb).1, cell_of_row w1 bx 4 _ _ _ (hrow w1 hb).1⟩
  have hres : ∀ w1, Below w0.heap.size w0 w1 → w1.heap[bx + 1]? = some (.cells #[.int .u8 0, .string ⟨#[]⟩, .slice none 0 0, .slice none 0 0, .slice none 0 0] 61 (0, 0)) := fun w1 hb => (hrow w1 hb).2
  rw [← hw0] at hA
  have HX := Lib.hid hbox
  have HR := Lib.hid hres
  have Y0 := Lib.hid hA
  have M1 := Lib.hid (N1.out.below (hA.mono HB.out))
  have M2 := Lib.hid (N2.out.below (hA.mono HB.out))
  have M3 := Lib.hid (N3.out.below (hA.mono HB.out))
  have HB0 := Lib.hid (Nat.le_trans HB.out hA.size)
  clear hA1 hA hr0 hr1 hrow hbox hres
  go_upto_region 1 with fail
  rw [← hbx, ← hw0]
  have hbw : w.heap.size ≤ bx + 1 := by omega
  clear hbx hw0
  obtain ⟨q0, q1, q2, q3, q4⟩ := HX.out w0.drew (Below.refl _ _).drew
  have hH0 : Held w (bx + 1) w0.drew := ⟨Y0.out.drew, _, _, _, _, _, HR.out w0.drew (Below.refl _ _).drew⟩
  have hHS : (w0.drew.cell? ⟨bx, 0, none⟩ = some (.int .u8 (kd : Int)) ∧ w0.drew.cell? ⟨bx, 1, none⟩ = some (.string (tx tt)) ∧ w0.drew.cell? ⟨bx, 2, none⟩ = some (.slice a1 xl.len c1) ∧ w0.drew.cell? ⟨bx, 3, none⟩ = some (.slice a2 xb.len c2) ∧ w0.drew.cell? ⟨bx, 4, none⟩ = some (.slice a3 xe.len c3)) ∧ Held w (bx + 1) w0.drew := ⟨⟨q0, q1, q2, q3, q4⟩, hH0⟩
  clear HX HR M1 M2 M3 HB0 hH0 q0 q1 q2 q3 q4
  go_region_held3 (fun w' => (w'.cell? ⟨bx, 0, none⟩ = some (.int .u8 (kd : Int)) ∧ w'.cell? ⟨bx, 1, none⟩ = some (.string (tx tt)) ∧ w'.cell? ⟨bx, 2, none⟩ = some (.slice a1 xl.len c1) ∧ w'.cell? ⟨bx, 3, none⟩ = some (.slice a2 xb.len c2) ∧ w'.cell? ⟨bx, 4, none⟩ = some (.slice a3 xe.len c3)) ∧ Held w (bx + 1) w')
    (first | assumption | exact keep5 (by assumption) (by assumption))
    (first
      | (go_at_call_of 31 (Value.slice a1 xl.len c1); refine twin_arm H1.out HB.out N1.out (by assumption) _ ?_; intro v1 w1 hb1 f1; obtain ⟨u1, k1, rfl⟩ := Nodes.form f1.1; have G1 := Lib.hid f1; clear f1)
      | (go_at_call_of 31 (Value.slice a2 xb.len c2); refine twin_arm H2.out HB.out N2.out (by assumption) _ ?_; intro v2 w2 hb2 f2; obtain ⟨u2, k2, rfl⟩ := Nodes.form f2.1; have G2 := Lib.hid (And.intro f2 hb2); clear f2)
      | (go_at_call_of 31 (Value.slice a3 xe.len c3); refine twin_arm H3.out HB.out N3.out (by assumption) _ ?_; intro v3 w3 hb3 f3; obtain ⟨u3, k3, rfl⟩ := Nodes.form f3.1; have G3 := Lib.hid (And.intro f3 hb3); clear f3; have hS3 := keep5 (w := w) (c := bx + 1) (u0 := .int .u8 (kd : Int)) (u1 := .string (tx tt)) (u2 := .slice a1 xl.len c1) (u3 := .slice a2 xb.len c2) (u4 := .slice a3 xe.len c3) (by assumption) hb3; have hst := wrote5 hS3 (Nat.ne_of_lt (Nat.lt_succ_self bx)) hbw (.int .u8 (kd : Int)) (.string (tx tt)) (.slice u1 xl.len k1) (.slice u2 xb.len k2) (.slice u3 xe.len k3); obtain ⟨z0, z1, z2, z3, z4, ⟨⟨p0, p0'⟩, ⟨p1, p1'⟩, ⟨p2, p2'⟩, ⟨p3, p3'⟩, ⟨p4, p4'⟩⟩, hz⟩ := hst; have HZ := Lib.hid hz; have hSF := (hz _ rfl).2.2.2.2; clear hz))
  all_goals
    generalize hwz : ((((w3.setCell ⟨bx + 1, 0, none⟩ (.int .u8 (kd : Int))).setCell ⟨bx + 1, 1, none⟩ (.string (tx tt))).setCell ⟨bx + 1, 2, none⟩ (.slice u1 xl.len k1)).setCell ⟨bx + 1, 3, none⟩ (.slice u2 xb.len k2)).setCell ⟨bx + 1, 4, none⟩ (.slice u3 xe.len k3) = wz at *
    have hZ := HZ.out wz rfl
    obtain ⟨_, _, _, _, _, hrw⟩ := hHS.2.2
    have s0 : bx + 1 < w0.drew.heap.size := (Array.getElem?_eq_some_iff.1 hrw).1
    have s1 := hHS.2.1.size
    have s2 := hb1.size
    have s3 := hb2.size
    have c0 : wz.cell? ⟨bx + 1, 0, none⟩ = some (.int .u8 (kd : Int)) := (cell_of_row wz (bx + 1) 0 _ _ _ hZ.1).trans rfl
    have c1 : wz.cell? ⟨bx + 1, 1, none⟩ = some (.string (tx tt)) := (cell_of_row wz (bx + 1) 1 _ _ _ hZ.1).trans rfl
    have c2 : wz.cell? ⟨bx + 1, 2, none⟩ = some (.slice u1 xl.len k1) := (cell_of_row wz (bx + 1) 2 _ _ _ hZ.1).trans rfl
    have c3 : wz.cell? ⟨bx + 1, 3, none⟩ = some (.slice u2 xb.len k2) := (cell_of_row wz (bx + 1) 3 _ _ _ hZ.1).trans rfl
    have c4 : wz.cell? ⟨bx + 1, 4, none⟩ = some (.slice u3 xe.len k3) := (cell_of_row wz (bx + 1) 4 _ _ _ hZ.1).trans rfl
    have e1 : FreshN w wz (.slice u1 xl.len k1) xl := fresh_at G1.out.1 (hb2.trans (hb3.mono hb2.size)) hZ.2.2.2.1 s0 s1
    have e2 : FreshN w wz (.slice u2 xb.len k2) xb := fresh_at G2.out.1.1 hb3 hZ.2.2.2.1 (Nat.lt_of_lt_of_le s0 s2) (Nat.le_trans s1 s2)
    have e3 : FreshN w wz (.slice u3 xe.len k3) xe := fresh_at G3.out.1.1 (Below.refl _ w3) hZ.2.2.2.1 (Nat.lt_of_lt_of_le s0 (Nat.le_trans s2 s3)) (Nat.le_trans s1 (Nat.le_trans s2 s3))
    have l1 := lr_at G1.out.2 (hb2.trans (hb3.mono hb2.size)) hZ.2.2.2.1 s0
    have l2 := lr_at G2.out.1.2 hb3 hZ.2.2.2.1 (Nat.lt_of_lt_of_le s0 s2)
    have l3 := lr_at G3.out.1.2 (Below.refl _ w3) hZ.2.2.2.1 (Nat.lt_of_lt_of_le s0 (Nat.le_trans s2 s3))
    have HE := Lib.hid (And.intro hZ.2.1 (And.intro e1 (And.intro e2 (And.intro e3 (show ∃ m0 m1 m2 m3, w.heap.size ≤ m0 ∧ m0 ≤ m1 ∧ m1 ≤ m2 ∧ m2 ≤ m3 ∧ m3 ≤ wz.heap.size ∧ LR wz TN m0 m1 (.slice u1 xl.len k1) xl ∧ LR wz TN m1 m2 (.slice u2 xb.len k2) xb ∧ LR wz TN m2 m3 (.slice u3 xe.len k3) xe from ⟨_, _, _, _, s1, s2, s3, hb3.size, by rw [hZ.2.2.1]; exact Nat.le_refl _, l1, l2, l3⟩)))))
    clear l1 l2 l3
    clear p0 p0' p1 p1' p2 p2' p3 p3' p4 p4' hSF hS3 hwz hZ e1 e2 e3 hrw s0 s1 s2 s3
    go_wp2_with fail
    exact bodyPost_ret (v := .agg #[.int .u8 (kd : Int), .string (tx tt), .slice u1 xl.len k1, .slice u2 xb.len k2, .slice u3 xe.len k3]) (by simp [results, Tryz.results97, go_sem, c0, c1, c2, c3, c4]) rfl (H.out _ _ _ _ HE.out.1 HE.out.2.1 HE.out.2.2.1 HE.out.2.2.2.1 HE.out.2.2.2.2)
end Go.Proofs.YtmkhfonafcikdaaGreatDoor
