/- Trees: are two lists of nodes the same. -/
import Derived.Test.YtcldcigopkfmmaaGreatDoorTrD2
import Derived.Test.YtcldcigopkfmmaaGreatDoorTrD1
import Derived.Test.YtcldcigopkfmmaaGreatDoorRows
import Derived.Deep.RegionHeld3
namespace Go.Nd
def ndEq (x y : Nd) : Bool := x.kind == y.kind && x.text == y.text && decide (x.l = y.l) && decide (x.body = y.body) && decide (x.els = y.els)
theorem ndEq_iff (x y : Nd) : ndEq x y = true ↔ x = y := by
  unfold ndEq
  simp only [Bool.and_eq_true, beq_iff_eq, decide_eq_true_eq]
  cases x; cases y
  simp only [Nd.mk.injEq]
  constructor
  · rintro ⟨⟨⟨⟨h1, h2⟩, h3⟩, h4⟩, h5⟩; exact ⟨h1, h2, h3, h4, h5⟩
  · rintro ⟨h1, h2, h3, h4, h5⟩; exact ⟨⟨⟨⟨h1, h2⟩, h3⟩, h4⟩, h5⟩
theorem ns_ext {x y : Ns} (h : x.items = y.items) : x = y := by rw [← Ns.of_items x, ← Ns.of_items y, h]
end Go.Nd
namespace Go.My
open Go.RowKit Go.Nd
theorem NodeAt.framed {w w' : World} {S : Nat → Prop} {tw : Bool} {b off : Nat} {x : Nd} {v1 v2 v3 : Value} (h : NodeAt w S tw b off x v1 v2 v3) (hS : S b) (hs : ∀ b, S b → b < w.heap.size → w'.heap[b]? = w.heap[b]?) : NodeAt w' S tw b off x v1 v2 v3 := by
  have hlt := World.block_lt_of_cell? w _ h.d0
  have e : ∀ o, w'.cell? ⟨b, o, none⟩ = w.cell? ⟨b, o, none⟩ := fun o => World.cell?_of_block (hs b hS hlt)
  exact ⟨h.kind, h.text, (e _).trans h.d0, (e _).trans h.d1, (e _).trans h.d2, (e _).trans h.d3, (e _).trans h.d4, h.l.frame hs, h.body.frame hs, h.els.frame hs⟩
end Go.My
namespace Go.Proofs.YtcldcigopkfmmaaGreatDoor
open Go.RowKit Go.My Go.Nd

theorem keep10s {wr w' w'' : World} {b o b' o' : Nat} {u0 u1 u2 u3 u4 s0 s1 s2 s3 s4 : Value}
    (hS : ((w'.cell? ⟨b, o, none⟩ = some u0 ∧ w'.cell? ⟨b, o + 1, none⟩ = some u1 ∧ w'.cell? ⟨b, o + 2, none⟩ = some u2 ∧ w'.cell? ⟨b, o + 3, none⟩ = some u3 ∧ w'.cell? ⟨b, o + 4, none⟩ = some u4) ∧ (w'.cell? ⟨b', o', none⟩ = some s0 ∧ w'.cell? ⟨b', o' + 1, none⟩ = some s1 ∧ w'.cell? ⟨b', o' + 2, none⟩ = some s2 ∧ w'.cell? ⟨b', o' + 3, none⟩ = some s3 ∧ w'.cell? ⟨b', o' + 4, none⟩ = some s4)) ∧ Below wr.heap.size wr w') (hk : Below w'.heap.size w' w'') :
    ((w''.cell? ⟨b, o, none⟩ = some u0 ∧ w''.cell? ⟨b, o + 1, none⟩ = some u1 ∧ w''.cell? ⟨b, o + 2, none⟩ = some u2 ∧ w''.cell? ⟨b, o + 3, none⟩ = some u3 ∧ w''.cell? ⟨b, o + 4, none⟩ = some u4) ∧ (w''.cell? ⟨b', o', none⟩ = some s0 ∧ w''.cell? ⟨b', o' + 1, none⟩ = some s1 ∧ w''.cell? ⟨b', o' + 2, none⟩ = some s2 ∧ w''.cell? ⟨b', o' + 3, none⟩ = some s3 ∧ w''.cell? ⟨b', o' + 4, none⟩ = some s4)) ∧ Below wr.heap.size wr w'' := by
  obtain ⟨⟨⟨h0, h1, h2, h3, h4⟩, ⟨k0, k1, k2, k3, k4⟩⟩, hb⟩ := hS
  have e : ∀ q, w''.cell? ⟨b, q, none⟩ = w'.cell? ⟨b, q, none⟩ := fun q => World.cell?_of_block (hk.block b (World.block_lt_of_cell? _ _ h0))
  have e' : ∀ q, w''.cell? ⟨b', q, none⟩ = w'.cell? ⟨b', q, none⟩ := fun q => World.cell?_of_block (hk.block b' (World.block_lt_of_cell? _ _ k0))
  exact ⟨⟨⟨(e _).trans h0, (e _).trans h1, (e _).trans h2, (e _).trans h3, (e _).trans h4⟩, ⟨(e' _).trans k0, (e' _).trans k1, (e' _).trans k2, (e' _).trans k3, (e' _).trans k4⟩⟩, hb.trans (hk.mono hb.size)⟩


def SameSaid (x : Ns) : Prop := ∀ (y : Ns) (w : World) (B : Nat) (v u : Value), B ≤ w.heap.size → Nodes w (· < B) false v x → Nodes w (· < B) false u y → Calls Tryz.prog 63 #[v, u] w fun e w' => e = .returned (.bool (decide (x = y))) ∧ Below w.heap.size w w'

theorem txT (l : List UInt8) : (tx l).toList = l := by rw [ByteArray.toList_eq]; simp [tx]

set_option maxRecDepth 100000 in
set_option maxHeartbeats 4000000 in
theorem same_one {B : Nat} {x y : Nd} (h1 : SameSaid x.l) (h2 : SameSaid x.body) (h3 : SameSaid x.els) {w : World} {a1 a2 a3 b1 b2 b3 : Option Addr} {c1 c2 c3 d1 d2 d3 : Nat} (hB : B ≤ w.heap.size) (hkx : x.kind < 256) (hky : y.kind < 256)
    (t1 : Nodes w (· < B) false (.slice a1 x.l.len c1) x.l) (t2 : Nodes w (· < B) false (.slice a2 x.body.len c2) x.body) (t3 : Nodes w (· < B) false (.slice a3 x.els.len c3) x.els)
    (n1 : Nodes w (· < B) false (.slice b1 y.l.len d1) y.l) (n2 : Nodes w (· < B) false (.slice b2 y.body.len d2) y.body) (n3 : Nodes w (· < B) false (.slice b3 y.els.len d3) y.els) :
    Calls Tryz.prog 115 #[.agg #[.int .u8 (x.kind : Int), .string (tx x.text), .slice a1 x.l.len c1, .slice a2 x.body.len c2, .slice a3 x.els.len c3], .agg #[.int .u8 (y.kind : Int), .string (tx y.text), .slice b1 y.l.len d1, .slice b2 y.body.len d2, .slice b3 y.els.len d3]] w fun e w' => e = .returned (.bool (ndEq x y)) ∧ Below w.heap.size w w' := by
  obtain ⟨kd, tt, xl, xb, xe⟩ := x
  obtain ⟨kd', tt', yl, yb, ye⟩ := y
  simp only at *
  obtain ⟨res, hres⟩ : ∃ res, res = ndEq (⟨kd, tt, xl, xb, xe⟩ : Nd) ⟨kd', tt', yl, yb, ye⟩ := ⟨_, rfl⟩
  rw [← hres]
  unfold ndEq at hres
  simp only at hres
  have HRES := Lib.hid hres
  clear hres
  have H1 := Lib.hid h1
  have H2 := Lib.hid h2
  have H3 := Lib.hid h3
  clear h1 h2 h3
  go_enter Tryz.func115, Tryz.ntmps115
  obtain ⟨hA1, hn1, hz1⟩ := show Below w.heap.size w (w.alloc (.cells #[.int .u8 (kd : Int), .string (tx tt), .slice a1 xl.len c1, .slice a2 xb.len c2, .slice a3 xe.len c3] 74)) ∧ _ ∧ _ from ⟨Below.alloc (Below.refl _ w) (Nat.le_refl _) _, heap_alloc_new w _, World.size_alloc _ _⟩
  obtain ⟨bx, hbx⟩ : ∃ bx, bx = w.heap.size := ⟨_, rfl⟩
  obtain ⟨w1, hw1⟩ : ∃ w1, w1 = w.alloc (.cells #[.int .u8 (kd : Int), .string (tx tt), .slice a1 xl.len c1, .slice a2 xb.len c2, .slice a3 xe.len c3] 74) := ⟨_, rfl⟩
  rw [← hw1] at hA1 hn1 hz1
  obtain ⟨hA2, hn2, hz2⟩ := show Below w1.heap.size w1 (w1.alloc (.cells #[.int .u8 (kd' : Int), .string (tx tt'), .slice b1 yl.len d1, .slice b2 yb.len d2, .slice b3 ye.len d3] 74)) ∧ _ ∧ _ from ⟨Below.alloc (Below.refl _ w1) (Nat.le_refl _) _, heap_alloc_new w1 _, World.size_alloc _ _⟩
  obtain ⟨w0, hw0⟩ : ∃ w0, w0 = w1.alloc (.cells #[.int .u8 (kd' : Int), .string (tx tt'), .slice b1 yl.len d1, .slice b2 yb.len d2, .slice b3 ye.len d3] 74) := ⟨_, rfl⟩
  rw [← hw0] at hA2 hn2 hz2
  have hr0 : w0.heap[bx]? = some (.cells #[.int .u8 (kd : Int), .string (tx tt), .slice a1 xl.len c1, .slice a2 xb.len c2, .slice a3 xe.len c3] 74 (0, 0)) := by rw [hbx]; exact (hA2.block _ (by omega)).trans hn1
  have hr1 : w0.heap[bx + 1]? = some (.cells #[.int .u8 (kd' : Int), .string (tx tt'), .slice b1 yl.len d1, .slice b2 yb.len d2, .slice b3 ye.len d3] 74 (0, 0)) := by rw [hbx, ← hz1]; exact hn2
  have hA : Below w.heap.size w w0 := hA1.trans (hA2.mono hA1.size)
  have hbox : ∀ w1, Below w0.heap.size w0 w1 → (w1.cell? ⟨bx, 0, none⟩ = some (.int .u8 (kd : Int)) ∧ w1.cell? ⟨bx, 1, none⟩ = some (.string (tx tt)) ∧ w1.cell? ⟨bx, 2, none⟩ = some (.slice a1 xl.len c1) ∧ w1.cell? ⟨bx, 3, none⟩ = some (.slice a2 xb.len c2) ∧ w1.cell? ⟨bx, 4, none⟩ = some (.slice a3 xe.len c3)) ∧
      (w1.cell? ⟨bx + 1, 0, none⟩ = some (.int .u8 (kd' : Int)) ∧ w1.cell? ⟨bx + 1, 1, none⟩ = some (.string (tx tt')) ∧ w1.cell? ⟨bx + 1, 2, none⟩ = some (.slice b1 yl.len d1) ∧ w1.cell? ⟨bx + 1, 3, none⟩ = some (.slice b2 yb.len d2) ∧ w1.cell? ⟨bx + 1, 4, none⟩ = some (.slice b3 ye.len d3)) := fun w1 hb => by
    have q0 := (hb.block _ (Array.getElem?_eq_some_iff.1 hr0).1).trans hr0
    have q1 := (hb.block _ (Array.getElem?_eq_some_iff.1 hr1).1).trans hr1
    exact ⟨⟨cell_of_row w1 bx 0 _ _ _ q0, cell_of_row w1 bx 1 _ _ _ q0, cell_of_row w1 bx 2 _ _ _ q0, cell_of_row w1 bx 3 _ _ _ q0, cell_of_row w1 bx 4 _ _ _ q0⟩,
     ⟨cell_of_row w1 (bx + 1) 0 _ _ _ q1, cell_of_row w1 (bx + 1) 1 _ _ _ q1, cell_of_row w1 (bx + 1) 2 _ _ _ q1, cell_of_row w1 (bx + 1) 3 _ _ _ q1, cell_of_row w1 (bx + 1) 4 _ _ _ q1⟩⟩
  have HX := Lib.hid hbox
  have Y0 := Lib.hid hA
  have T1 := Lib.hid (t1.below (hA.mono hB))
  have T2 := Lib.hid (t2.below (hA.mono hB))
  have T3 := Lib.hid (t3.below (hA.mono hB))
  have N1 := Lib.hid (n1.below (hA.mono hB))
  have N2 := Lib.hid (n2.below (hA.mono hB))
  have N3 := Lib.hid (n3.below (hA.mono hB))
  have HB0 := Lib.hid (Nat.le_trans hB hA.size)
  rw [hw1] at hw0
  have HKK := Lib.hid (And.intro hkx hky)
  clear hA1 hA2 hn1 hn2 hz1 hz2 hA hr0 hr1 hbox t1 t2 t3 n1 n2 n3 hB hw1 hkx hky
  have e1 := txT tt
  have e2 := txT tt'
  go_upto_region 1 with fail
  rw [← hbx, ← hw0]
  clear hbx hw0
  obtain ⟨⟨p0, p1, p2, p3, p4⟩, ⟨q0, q1, q2, q3, q4⟩⟩ := HX.out w0 (Below.refl _ _)
  by_cases hk : kd = kd'
  · by_cases ht : tt = tt'
    · obtain rfl := hk
      obtain rfl := ht
      have ek : ((kd : Int) == (kd : Int)) = true := by simp
      have et : ((tx tt).toList == (tx tt).toList) = true := by simp
      have hR : res = (decide (xl = yl) && decide (xb = yb) && decide (xe = ye)) := by rw [HRES.out]; simp
      have HR := Lib.hid hR
      clear hR
      go_wp2_with fail
      refine (H1.out _ w0 B _ _ HB0.out T1.out N1.out).mono ?_
      rintro e w1 ⟨rfl, hb⟩
      have K1 := Lib.hid hb
      obtain ⟨r1, hr1⟩ : ∃ r1, r1 = decide (xl = yl) := ⟨_, rfl⟩
      rw [← hr1]
      have HR1 := Lib.hid hr1
      clear hb p0 p1 p2 p3 p4 q0 q1 q2 q3 q4 hr1
      obtain ⟨⟨p0, p1, p2, p3, p4⟩, ⟨q0, q1, q2, q3, q4⟩⟩ := HX.out w1 K1.out
      cases r1 with
      | false =>
        go_wp2_with fail
        go_ret
        exact ⟨by rw [HR.out, ← HR1.out]; rfl, Y0.out.trans (K1.out.mono Y0.out.size)⟩
      | true =>
        go_wp2_with fail
        refine (H2.out _ w1 B _ _ (Nat.le_trans HB0.out K1.out.size) (T2.out.below (K1.out.mono HB0.out)) (N2.out.below (K1.out.mono HB0.out))).mono ?_
        rintro e w2 ⟨rfl, hb⟩
        have K2 := Lib.hid (K1.out.trans (hb.mono K1.out.size))
        obtain ⟨r2, hr2⟩ : ∃ r2, r2 = decide (xb = yb) := ⟨_, rfl⟩
        rw [← hr2]
        have HR2 := Lib.hid hr2
        clear hb p0 p1 p2 p3 p4 q0 q1 q2 q3 q4 hr2
        obtain ⟨⟨p0, p1, p2, p3, p4⟩, ⟨q0, q1, q2, q3, q4⟩⟩ := HX.out w2 K2.out
        cases r2 with
        | false =>
          go_wp2_with fail
          go_ret
          exact ⟨by rw [HR.out, ← HR1.out, ← HR2.out]; rfl, Y0.out.trans (K2.out.mono Y0.out.size)⟩
        | true =>
          go_wp2_with fail
          refine (H3.out _ w2 B _ _ (Nat.le_trans HB0.out K2.out.size) (T3.out.below (K2.out.mono HB0.out)) (N3.out.below (K2.out.mono HB0.out))).mono ?_
          rintro e w3 ⟨rfl, hb⟩
          have K3 := Lib.hid (K2.out.trans (hb.mono K2.out.size))
          obtain ⟨r3, hr3⟩ : ∃ r3, r3 = decide (xe = ye) := ⟨_, rfl⟩
          rw [← hr3]
          have HR3 := Lib.hid hr3
          clear hb p0 p1 p2 p3 p4 q0 q1 q2 q3 q4 hr3
          go_wp2_with fail
          go_ret
          exact ⟨by rw [HR.out, ← HR1.out, ← HR2.out, ← HR3.out]; rfl, Y0.out.trans (K3.out.mono Y0.out.size)⟩
    · have ek : ((kd : Int) == (kd' : Int)) = true := by rw [hk]; simp
      have et : ((tx tt).toList == (tx tt').toList) = false := by rw [e1, e2]; simpa using ht
      have et' : (tt == tt') = false := by simpa using ht
      have hR : res = false := by rw [HRES.out, et']; simp
      have HR := Lib.hid hR
      obtain rfl := hk
      clear hR ht
      go_wp2_with fail
      go_ret
      exact ⟨by rw [HR.out]; rfl, Y0.out⟩
  · have ek : ((kd : Int) == (kd' : Int)) = false := by rw [beq_eq_false_iff_ne]; omega
    have hR : res = false := by
      rw [HRES.out, show (kd == kd') = false by simpa using hk]; rfl
    have HR := Lib.hid hR
    clear hR hk
    go_wp2_with fail
    go_ret
    exact ⟨by rw [HR.out]; rfl, Y0.out⟩

theorem same_arm {B : Nat} {x y : Nd} (hI : SameSaid x.l ∧ SameSaid x.body ∧ SameSaid x.els) {wr w' : World} {a1 a2 a3 b1 b2 b3 : Option Addr} {c1 c2 c3 d1 d2 d3 : Nat} (hB : B ≤ wr.heap.size) (hkx : x.kind < 256) (hky : y.kind < 256)
    (t1 : Nodes wr (· < B) false (.slice a1 x.l.len c1) x.l) (t2 : Nodes wr (· < B) false (.slice a2 x.body.len c2) x.body) (t3 : Nodes wr (· < B) false (.slice a3 x.els.len c3) x.els)
    (n1 : Nodes wr (· < B) false (.slice b1 y.l.len d1) y.l) (n2 : Nodes wr (· < B) false (.slice b2 y.body.len d2) y.body) (n3 : Nodes wr (· < B) false (.slice b3 y.els.len d3) y.els) {r : Bool} (hr : r = ndEq x y) {X : Prop} (hS : X ∧ Below wr.heap.size wr w') :
    Calls Tryz.prog 115 #[.agg #[.int .u8 (x.kind : Int), .string (tx x.text), .slice a1 x.l.len c1, .slice a2 x.body.len c2, .slice a3 x.els.len c3], .agg #[.int .u8 (y.kind : Int), .string (tx y.text), .slice b1 y.l.len d1, .slice b2 y.body.len d2, .slice b3 y.els.len d3]] w' fun e w'' => e = .returned (.bool r) ∧ Below w'.heap.size w' w'' :=
  have hm := hS.2.mono hB
  hr ▸ same_one hI.1 hI.2.1 hI.2.2 (Nat.le_trans hB hS.2.size) hkx hky (t1.below hm) (t2.below hm) (t3.below hm) (n1.below hm) (n2.below hm) (n3.below hm)

def SameAtN (w : World) (xs ys : List Nd) (gk : Nat) (v3 : Value) (wr : World) : Prop :=
  ∃ i : Nat, i ≤ xs.length ∧ gk = xs.length - i ∧ v3 = .int .i64 (i : Int) ∧ Below w.heap.size w wr ∧ xs.take i = ys.take i

set_option maxRecDepth 100000 in
set_option maxHeartbeats 4000000 in
theorem same_nodes : ∀ xs, SameSaid xs := by
  refine Ns.each fun xs ih ys w B v u hB hv hu => ?_
  obtain ⟨a0, cp, rfl, hr, hcell⟩ := hv.open_
  obtain ⟨a0', cp', rfl, hr', hcell'⟩ := hu.open_
  obtain ⟨res, hres⟩ : ∃ res, res = decide (xs = ys) := ⟨_, rfl⟩
  rw [← hres]
  have HRES := Lib.hid hres
  have HI := Lib.hid ih
  have HC := Lib.hid hcell
  have HT := Lib.hid hcell'
  have HB := Lib.hid hB
  have l0 : (0 : Int) ≤ (xs.items.length : Int) := by omega
  have l1 : (xs.items.length : Int) * 96 ≤ 140737488351232 := by have := hr.2.2.1; omega
  have l0' : (0 : Int) ≤ (ys.items.length : Int) := by omega
  have l1' : (ys.items.length : Int) * 96 ≤ 140737488351232 := by have := hr'.2.2.1; omega
  clear hv hu hcell hcell' hr hr' hB ih hres
  go_enter Tryz.func63, Tryz.ntmps63
  by_cases hlen : xs.items.length = ys.items.length
  · have hn1 : ((xs.items.length : Int) == (ys.items.length : Int)) = true := by rw [hlen]; simp
    have hn2 : ((xs.items.length : Int) != (ys.items.length : Int)) = false := by rw [hlen]; simp
    have HLEN := Lib.hid hlen
    clear hlen
    go_wp2_with fail
    go_loopg [5] xs.items.length (fun gk v3 wr => SameAtN w xs.items ys.items gk v3 wr)
    case atStart => exact ⟨0, Nat.zero_le _, rfl, rfl, Below.refl _ _, rfl⟩
    case round =>
      obtain ⟨k, hk, rfl, rfl, hb, htk⟩ := hrel
      have k0 : (0 : Int) ≤ (k : Int) := by omega
      have K := Lib.hid (And.intro hb htk)
      by_cases hlt : k < xs.items.length
      · have k1 : (k : Int) < (xs.items.length : Int) := by omega
        have k1' : (k : Int) < (ys.items.length : Int) := by have := HLEN.out; omega
        have hlt' : k < ys.items.length := by have := HLEN.out; omega
        obtain ⟨b, off, v1, v2, v3, hb1, hS, hN⟩ := HC.out k hlt
        obtain ⟨b', off', u1, u2, u3, hb2, hS', hN'⟩ := HT.out k hlt'
        subst hb1
        subst hb2
        have hM := hN.framed hS fun j hj _ => hb.block j (Nat.lt_of_lt_of_le hj HB.out)
        have hM' := hN'.framed hS' fun j hj _ => hb.block j (Nat.lt_of_lt_of_le hj HB.out)
        obtain ⟨x, hx⟩ : ∃ x, x = xs.items[k] := ⟨_, rfl⟩
        obtain ⟨y, hy⟩ : ∃ y, y = ys.items[k] := ⟨_, rfl⟩
        have hI := HI.out _ (List.getElem_mem hlt)
        rw [← hx] at hM hI
        rw [← hy] at hM'
        have d0 := hM.d0
        have d1 := hM.d1
        have d2 := hM.d2
        have d3 := hM.d3
        have d4 := hM.d4
        have e0 := hM'.d0
        have e1 := hM'.d1
        have e2 := hM'.d2
        have e3 := hM'.d3
        have e4 := hM'.d4
        have M1 := Lib.hid hM.l
        have M2 := Lib.hid hM.body
        have M3 := Lib.hid hM.els
        have M1' := Lib.hid hM'.l
        have M2' := Lib.hid hM'.body
        have M3' := Lib.hid hM'.els
        obtain ⟨z1, y1, rfl⟩ := M1.out.form
        obtain ⟨z2, y2, rfl⟩ := M2.out.form
        obtain ⟨z3, y3, rfl⟩ := M3.out.form
        obtain ⟨z4, y4, rfl⟩ := M1'.out.form
        obtain ⟨z5, y5, rfl⟩ := M2'.out.form
        obtain ⟨z6, y6, rfl⟩ := M3'.out.form
        obtain ⟨r, hr⟩ : ∃ r, r = ndEq x y := ⟨_, rfl⟩
        have hx' : xs.items[k]? = some x := by rw [List.getElem?_eq_getElem hlt, hx]
        have hy' : ys.items[k]? = some y := by rw [List.getElem?_eq_getElem hlt', hy]
        have HK := Lib.hid (And.intro hlt (And.intro hI (And.intro hM.kind (And.intro hM'.kind (And.intro hr (And.intro hx' (And.intro hy' hlt')))))))
        have HBr := Lib.hid (Nat.le_trans HB.out hb.size)
        clear hN hN' hM hM' hI hx hy hx' hy' hb hlt hlt' hk hS hS' htk hr
        obtain ⟨kd, tt, xl, xb, xe⟩ := x
        obtain ⟨kd', tt', yl, yb, ye⟩ := y
        simp only at d0 d1 d2 d3 d4 e0 e1 e2 e3 e4
        go_upto_region 6 with fail
        go_region_held3 (fun w' => ((w'.cell? ⟨b, off + k * 5, none⟩ = some (.int .u8 (kd : Int)) ∧ w'.cell? ⟨b, off + k * 5 + 1, none⟩ = some (.string (tx tt)) ∧ w'.cell? ⟨b, off + k * 5 + 2, none⟩ = some (.slice z1 xl.len y1) ∧ w'.cell? ⟨b, off + k * 5 + 3, none⟩ = some (.slice z2 xb.len y2) ∧ w'.cell? ⟨b, off + k * 5 + 4, none⟩ = some (.slice z3 xe.len y3)) ∧ (w'.cell? ⟨b', off' + k * 5, none⟩ = some (.int .u8 (kd' : Int)) ∧ w'.cell? ⟨b', off' + k * 5 + 1, none⟩ = some (.string (tx tt')) ∧ w'.cell? ⟨b', off' + k * 5 + 2, none⟩ = some (.slice z4 yl.len y4) ∧ w'.cell? ⟨b', off' + k * 5 + 3, none⟩ = some (.slice z5 yb.len y5) ∧ w'.cell? ⟨b', off' + k * 5 + 4, none⟩ = some (.slice z6 ye.len y6))) ∧ Below wr.heap.size wr w')
          (first | assumption | exact ⟨⟨⟨d0, d1, d2, d3, d4⟩, ⟨e0, e1, e2, e3, e4⟩⟩, (Below.refl _ _).drew⟩ | exact keep10s (by assumption) (by assumption))
          ((go_at_call 115; refine (same_arm (x := ⟨kd, tt, xl, xb, xe⟩) (y := ⟨kd', tt', yl, yb, ye⟩) HK.out.2.1 HBr.out HK.out.2.2.1 HK.out.2.2.2.1 M1.out M2.out M3.out M1'.out M2'.out M3'.out HK.out.2.2.2.2.1 (by assumption)).mono ?_; rintro e w'' ⟨rfl, hk⟩))
        rename_i hH
        have K5 := Lib.hid (K.out.1.trans (hH.2.mono K.out.1.size))
        clear hH d0 d1 d2 d3 d4 e0 e1 e2 e3 e4
        cases r with
        | true =>
          go_wp2_with fail
          go_roundg (xs.items.length - (k + 1))
          case measure => have := HK.out.1; omega
          case rel =>
            refine ⟨k + 1, HK.out.1, rfl, by go_num, K5.out, ?_⟩
            have hxy := (ndEq_iff _ _).1 HK.out.2.2.2.2.1.symm
            rw [List.take_add_one, List.take_add_one, K.out.2, HK.out.2.2.2.2.2.1, HK.out.2.2.2.2.2.2.1, hxy]
        | false =>
          go_wp2_with fail
          go_ret
          refine ⟨?_, K5.out⟩
          have hne : ¬ xs = ys := fun e => by
            subst e
            have h1 := Option.some.inj (HK.out.2.2.2.2.2.1.symm.trans HK.out.2.2.2.2.2.2.1)
            have := HK.out.2.2.2.2.1
            rw [h1, (ndEq_iff _ _).2 rfl] at this
            cases this
          rw [HRES.out, decide_eq_false hne]; rfl
      · obtain rfl : k = xs.items.length := by omega
        clear hlt hk hb htk
        go_wp2_with fail
        go_ret
        refine ⟨?_, K.out.1⟩
        have he : xs = ys := ns_ext (by have := K.out.2; rw [List.take_length, HLEN.out, List.take_length] at this; exact this)
        rw [HRES.out, decide_eq_true he]; rfl
  · have hn1 : ((xs.items.length : Int) == (ys.items.length : Int)) = false := by rw [beq_eq_false_iff_ne]; omega
    have hn2 : ((xs.items.length : Int) != (ys.items.length : Int)) = true := by simp; omega
    have hne : ¬ xs = ys := fun e => hlen (by rw [e])
    have HNE := Lib.hid hne
    clear hlen hne
    go_wp2_with fail
    go_ret
    refine ⟨?_, Below.refl _ _⟩
    rw [HRES.out, decide_eq_false HNE.out]; rfl
end Go.Proofs.YtcldcigopkfmmaaGreatDoor
