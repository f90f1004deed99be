/- Programs: whether functions, and a program, are as they were. -/
import Derived.Test.YtmkhfonafcikdaaGreatDoorTwL2V
import Derived.Test.YtmkhfonafcikdaaGreatDoorTwCV
namespace Go.Proofs.YtmkhfonafcikdaaGreatDoor
open Go.RowKit Go.My Go.Nd

theorem left_nodes_t {w : World} {B : Nat} {x : Ns} {tv v : Value} (hB : B ≤ w.heap.size) (ht : Nodes w (· < B) true tv x) (hv : Nodes w (· < B) false v x) : Calls Tryz.prog 46 #[tv, v] w fun e w' => e = .returned (.bool true) ∧ Below w.heap.size w w' := left_nodes x w B tv v hB ht hv

set_option maxRecDepth 100000 in
set_option maxHeartbeats 4000000 in
theorem left_func {B : Nat} {f : Nd.Fn} {w : World} {a1 a2 b1 b2 : Option Addr} {c1 c2 d1 d2 : Nat} (hB : B ≤ w.heap.size)
    (t1 : TextsIn w (· < B) true (.slice a1 f.args.length c1) f.args) (t2 : Nodes w (· < B) true (.slice a2 f.body.len c2) f.body)
    (n1 : TextsIn w (· < B) false (.slice b1 f.args.length d1) f.args) (n2 : Nodes w (· < B) false (.slice b2 f.body.len d2) f.body) :
    Calls Tryz.prog 107 #[.agg #[.string (tx f.name), .slice a1 f.args.length c1, .slice a2 f.body.len c2], .agg #[.string (tx f.name), .slice b1 f.args.length d1, .slice b2 f.body.len d2]] w fun e w' => e = .returned (.bool true) ∧ Below w.heap.size w w' := by
  obtain ⟨tt, xl, xb⟩ := f
  simp only at *
  go_enter Tryz.func107, Tryz.ntmps107
  have hA1 := Below.alloc (Below.refl w.heap.size w) (Nat.le_refl _) (.cells #[.string (tx tt), .slice a1 xl.length c1, .slice a2 xb.len c2] 57)
  have hA := Below.alloc hA1 (Nat.le_trans (Nat.le_refl _) hA1.size) (.cells #[.string (tx tt), .slice b1 xl.length d1, .slice b2 xb.len d2] 57)
  obtain ⟨bx, hbx⟩ : ∃ bx, bx = w.heap.size := ⟨_, rfl⟩
  obtain ⟨w0, hw0⟩ : ∃ w0, w0 = (w.alloc (.cells #[.string (tx tt), .slice a1 xl.length c1, .slice a2 xb.len c2] 57)).alloc (.cells #[.string (tx tt), .slice b1 xl.length d1, .slice b2 xb.len d2] 57) := ⟨_, rfl⟩
  have hr0 : w0.heap[bx]? = some (.cells #[.string (tx tt), .slice a1 xl.length c1, .slice a2 xb.len c2] 57 (0, 0)) := by
    rw [hw0, hbx, Below.heap_alloc _ _ _ (by simp)]; exact heap_alloc_new w _
  have hr1 : w0.heap[bx + 1]? = some (.cells #[.string (tx tt), .slice b1 xl.length d1, .slice b2 xb.len d2] 57 (0, 0)) := by
    have := heap_alloc_new (w.alloc (.cells #[.string (tx tt), .slice a1 xl.length c1, .slice a2 xb.len c2] 57)) (.cells #[.string (tx tt), .slice b1 xl.length d1, .slice b2 xb.len d2] 57)
    rw [hw0, hbx]; simpa using this
  have hrow : ∀ w1, Below w0.heap.size w0 w1 → w1.heap[bx]? = _ ∧ w1.heap[bx + 1]? = _ := fun w1 hb => ⟨(hb.block _ (Array.getElem?_eq_some_iff.1 hr0).1).trans hr0, (hb.block _ (Array.getElem?_eq_some_iff.1 hr1).1).trans hr1⟩
  have hbox : ∀ w1, Below w0.heap.size w0 w1 → (w1.cell? ⟨bx, 0, none⟩ = some (.string (tx tt)) ∧ w1.cell? ⟨bx, 1, none⟩ = some (.slice a1 xl.length c1) ∧ w1.cell? ⟨bx, 2, none⟩ = some (.slice a2 xb.len c2)) ∧
      (w1.cell? ⟨bx + 1, 0, none⟩ = some (.string (tx tt)) ∧ w1.cell? ⟨bx + 1, 1, none⟩ = some (.slice b1 xl.length d1) ∧ w1.cell? ⟨bx + 1, 2, none⟩ = some (.slice b2 xb.len d2)) := fun w1 hb =>
    ⟨⟨cell_of_row w1 bx 0 _ _ _ (hrow w1 hb).1, cell_of_row w1 bx 1 _ _ _ (hrow w1 hb).1, cell_of_row w1 bx 2 _ _ _ (hrow w1 hb).1⟩,
     ⟨cell_of_row w1 (bx + 1) 0 _ _ _ (hrow w1 hb).2, cell_of_row w1 (bx + 1) 1 _ _ _ (hrow w1 hb).2, cell_of_row w1 (bx + 1) 2 _ _ _ (hrow w1 hb).2⟩⟩
  rw [← hw0] at hA
  have HX := Lib.hid hbox
  have Y0 := Lib.hid hA
  have T1 := Lib.hid (t1.below (hA.mono hB))
  have T2 := Lib.hid (t2.below (hA.mono hB))
  have N1 := Lib.hid (n1.below (hA.mono hB))
  have N2 := Lib.hid (n2.below (hA.mono hB))
  have HB0 := Lib.hid (Nat.le_trans hB hA.size)
  clear hA1 hA hr0 hr1 hrow hbox t1 t2 n1 n2 hB
  go_upto_region 1 with fail
  rw [← hbx, ← hw0]
  clear hbx hw0
  obtain ⟨⟨p0, p1, p2⟩, ⟨q0, q1, q2⟩⟩ := HX.out w0 (Below.refl _ _)
  go_wp2_with fail
  refine (left_texts T1.out N1.out).mono ?_
  rintro e w1 ⟨rfl, hb⟩
  have K1 := Lib.hid hb
  clear hb p0 p1 p2 q0 q1 q2
  obtain ⟨⟨p0, p1, p2⟩, ⟨q0, q1, q2⟩⟩ := HX.out w1 K1.out
  go_wp2_with fail
  refine (left_nodes_t (Nat.le_trans HB0.out K1.out.size) (T2.out.below (K1.out.mono HB0.out)) (N2.out.below (K1.out.mono HB0.out))).mono ?_
  rintro e w2 ⟨rfl, hb⟩
  have K2 := Lib.hid (K1.out.trans (hb.mono K1.out.size))
  clear hb p0 p1 p2 q0 q1 q2
  go_wp2_with fail
  go_ret
  exact ⟨rfl, Y0.out.trans (K2.out.mono Y0.out.size)⟩

theorem keep6 {wr w' w'' : World} {b o b' o' : Nat} {u0 u1 u2 s0 s1 s2 : Value}
    (hS : ((w'.cell? ⟨b, o, none⟩ = some u0 ∧ w'.cell? ⟨b, o + 1, none⟩ = some u1 ∧ w'.cell? ⟨b, o + 2, none⟩ = some u2) ∧ (w'.cell? ⟨b', o', none⟩ = some s0 ∧ w'.cell? ⟨b', o' + 1, none⟩ = some s1 ∧ w'.cell? ⟨b', o' + 2, none⟩ = some s2)) ∧ Below wr.heap.size wr w') (hk : Below w'.heap.size w' w'') :
    ((w''.cell? ⟨b, o, none⟩ = some u0 ∧ w''.cell? ⟨b, o + 1, none⟩ = some u1 ∧ w''.cell? ⟨b, o + 2, none⟩ = some u2) ∧ (w''.cell? ⟨b', o', none⟩ = some s0 ∧ w''.cell? ⟨b', o' + 1, none⟩ = some s1 ∧ w''.cell? ⟨b', o' + 2, none⟩ = some s2)) ∧ Below wr.heap.size wr w'' := by
  obtain ⟨⟨⟨h0, h1, h2⟩, ⟨k0, k1, k2⟩⟩, hb⟩ := hS
  have e : ∀ q, w''.cell? ⟨b, q, none⟩ = w'.cell? ⟨b, q, none⟩ := fun q => World.cell?_of_block (hk.block b (World.block_lt_of_cell? _ _ h0))
  have e' : ∀ q, w''.cell? ⟨b', q, none⟩ = w'.cell? ⟨b', q, none⟩ := fun q => World.cell?_of_block (hk.block b' (World.block_lt_of_cell? _ _ k0))
  exact ⟨⟨⟨(e _).trans h0, (e _).trans h1, (e _).trans h2⟩, ⟨(e' _).trans k0, (e' _).trans k1, (e' _).trans k2⟩⟩, hb.trans (hk.mono hb.size)⟩

theorem leftF_arm {B : Nat} {f : Nd.Fn} {wr w' : World} {a1 a2 b1 b2 : Option Addr} {c1 c2 d1 d2 : Nat} (hB : B ≤ wr.heap.size)
    (t1 : TextsIn wr (· < B) true (.slice a1 f.args.length c1) f.args) (t2 : Nodes wr (· < B) true (.slice a2 f.body.len c2) f.body)
    (n1 : TextsIn wr (· < B) false (.slice b1 f.args.length d1) f.args) (n2 : Nodes wr (· < B) false (.slice b2 f.body.len d2) f.body) {X : Prop} (hS : X ∧ Below wr.heap.size wr w') :
    Calls Tryz.prog 107 #[.agg #[.string (tx f.name), .slice a1 f.args.length c1, .slice a2 f.body.len c2], .agg #[.string (tx f.name), .slice b1 f.args.length d1, .slice b2 f.body.len d2]] w' fun e w'' => e = .returned (.bool true) ∧ Below w'.heap.size w' w'' :=
  have hm := hS.2.mono hB
  left_func (Nat.le_trans hB hS.2.size) (t1.below hm) (t2.below hm) (n1.below hm) (n2.below hm)

set_option maxRecDepth 100000 in
set_option maxHeartbeats 4000000 in
theorem left_funcs {w : World} {B : Nat} {tv v : Value} {fs : List Nd.Fn} (hB : B ≤ w.heap.size) (ht : FuncsIn w (· < B) true tv fs) (hv : FuncsIn w (· < B) false v fs) :
    Calls Tryz.prog 45 #[tv, v] w fun e w' => e = .returned (.bool true) ∧ Below w.heap.size w w' := by
  obtain ⟨a0, cp, hf, h1, h2, h3, _, hcell⟩ := hv
  subst hf
  obtain ⟨ta, ct, hf, t1, hcm, t3, t4, htc⟩ := ht
  subst hf
  obtain ⟨hct, bt, ot, rfl, hbt, hmk⟩ := t4 rfl
  have HC := Lib.hid hcell
  have HT := Lib.hid htc
  have HB := Lib.hid hB
  have HM := Lib.hid (And.intro hbt hmk)
  have l0 : (0 : Int) ≤ (fs.length : Int) := by omega
  have l1 : (fs.length : Int) * 64 ≤ 140737488351232 := by omega
  have l2 : (fs.length : Int) < (ct : Int) := by omega
  have l3 : decide (ct ≤ fs.length) = false := by simp; omega
  have hsl := slice_hs (P := Tryz.prog) (size := 3) Tryz.underlying22 (by kernel_rfl) bt ot fs.length ct (fs.length + 1) ((fs.length : Int) + 1) rfl hct
  clear hcell hB htc hbt hmk hcm hct h1 h2 h3 t1 t3 t4
  go_enter Tryz.func45, Tryz.ntmps45
  go_wp2_with fail
  go_loopg [5] fs.length (fun gk v3 wr => LeftAtN w fs.length gk v3 wr)
  case atStart => exact ⟨0, Nat.zero_le _, rfl, rfl, Below.refl _ _⟩
  case round =>
    obtain ⟨k, hk, rfl, rfl, hb⟩ := hrel
    have k0 : (0 : Int) ≤ (k : Int) := by omega
    have K := Lib.hid hb
    by_cases hlt : k < fs.length
    · have k1 : (k : Int) < (fs.length : Int) := by omega
      obtain ⟨b, off, v1, v2, hb1, hS, hN⟩ := HC.out k hlt
      obtain ⟨b', off', u1, u2, hb2, hS', hN'⟩ := HT.out k hlt
      cases hb1
      cases hb2
      have hM := hN.frame hS fun j hj _ => hb.block j (Nat.lt_of_lt_of_le hj HB.out)
      have hM' := hN'.frame hS' fun j hj _ => hb.block j (Nat.lt_of_lt_of_le hj HB.out)
      obtain ⟨x, hx⟩ : ∃ x, x = fs[k] := ⟨_, rfl⟩
      rw [← hx] at hM hM'
      have d0 := hM.d0
      have d1 := hM.d1
      have d2 := hM.d2
      have e0 := hM'.d0
      have e1 := hM'.d1
      have e2 := hM'.d2
      have M1 := Lib.hid hM.args
      have M2 := Lib.hid hM.body
      have M1' := Lib.hid hM'.args
      have M2' := Lib.hid hM'.body
      obtain ⟨z1, y1, rfl⟩ := M1.out.form
      obtain ⟨z2, y2, rfl⟩ := M2.out.form
      obtain ⟨z4, y4, rfl⟩ := M1'.out.form
      obtain ⟨z5, y5, rfl⟩ := M2'.out.form
      have HK := Lib.hid hlt
      have HBr := Lib.hid (Nat.le_trans HB.out hb.size)
      clear hN hN' hM hM' hx hb hlt hk hS hS'
      obtain ⟨tt, xl, xb⟩ := x
      simp only at d0 d1 d2 e0 e1 e2
      go_upto_region 6 with fail
      go_region_held3 (fun w' => ((w'.cell? ⟨b, off + k * 3, none⟩ = some (.string (tx tt)) ∧ w'.cell? ⟨b, off + k * 3 + 1, none⟩ = some (.slice z1 xl.length y1) ∧ w'.cell? ⟨b, off + k * 3 + 2, none⟩ = some (.slice z2 xb.len y2)) ∧ (w'.cell? ⟨bt, ot + k * 3, none⟩ = some (.string (tx tt)) ∧ w'.cell? ⟨bt, ot + k * 3 + 1, none⟩ = some (.slice z4 xl.length y4) ∧ w'.cell? ⟨bt, ot + k * 3 + 2, none⟩ = some (.slice z5 xb.len y5))) ∧ Below wr.heap.size wr w')
        (first | assumption | exact ⟨⟨⟨d0, d1, d2⟩, ⟨e0, e1, e2⟩⟩, (Below.refl _ _).drew⟩ | exact keep6 (by assumption) (by assumption))
        ((go_at_call 107; refine (leftF_arm (f := ⟨tt, xl, xb⟩) HBr.out M1'.out M2'.out M1.out M2.out (by assumption)).mono ?_; rintro e w'' ⟨rfl, hk⟩))
      rename_i hH
      have K5 := Lib.hid (K.out.trans (hH.2.mono K.out.size))
      clear hH d0 d1 d2 e0 e1 e2
      go_wp2_with fail
      go_roundg (fs.length - (k + 1))
      case measure => have := HK.out; omega
      case rel => exact ⟨k + 1, HK.out, rfl, by go_num, K5.out⟩
    · obtain rfl : k = fs.length := by omega
      obtain ⟨m0, m1, m2⟩ := HM.out.2.frame (hb.block bt (Nat.lt_of_lt_of_le HM.out.1 HB.out))
      clear hlt hk hb
      have hsp : ((tx spare).toList == [115, 112, 97, 114, 101]) = true := by simp [tx, spare]
      go_wp2_with fail
      go_ret
      exact ⟨rfl, K.out.alloc K.out.size _⟩

set_option maxRecDepth 100000 in
set_option maxHeartbeats 4000000 in
theorem left_prog {B : Nat} {p : Pr} {w : World} {t1 t2 v1 v2 : Value} (hB : B ≤ w.heap.size)
    (ht1 : FuncsIn w (· < B) true t1 p.funcs) (ht2 : Nodes w (· < B) true t2 p.body) (hv1 : FuncsIn w (· < B) false v1 p.funcs) (hv2 : Nodes w (· < B) false v2 p.body) :
    Calls Tryz.prog 14 #[.agg #[t1, t2], .agg #[v1, v2]] w fun e w' => e = .returned (.bool true) ∧ Below w.heap.size w w' := by
  obtain ⟨a1, c1, rfl⟩ := ht1.form
  obtain ⟨a2, c2, rfl⟩ := ht2.form
  obtain ⟨b1, d1, rfl⟩ := hv1.form
  obtain ⟨b2, d2, rfl⟩ := hv2.form
  obtain ⟨xl, xb⟩ := p
  simp only at *
  go_enter Tryz.func14, Tryz.ntmps14
  have hA1 := Below.alloc (Below.refl w.heap.size w) (Nat.le_refl _) (.cells #[.slice a1 xl.length c1, .slice a2 xb.len c2] 25)
  have hA := Below.alloc hA1 (Nat.le_trans (Nat.le_refl _) hA1.size) (.cells #[.slice b1 xl.length d1, .slice b2 xb.len d2] 25)
  obtain ⟨bx, hbx⟩ : ∃ bx, bx = w.heap.size := ⟨_, rfl⟩
  obtain ⟨w0, hw0⟩ : ∃ w0, w0 = (w.alloc (.cells #[.slice a1 xl.length c1, .slice a2 xb.len c2] 25)).alloc (.cells #[.slice b1 xl.length d1, .slice b2 xb.len d2] 25) := ⟨_, rfl⟩
  have hr0 : w0.heap[bx]? = some (.cells #[.slice a1 xl.length c1, .slice a2 xb.len c2] 25 (0, 0)) := by
    rw [hw0, hbx, Below.heap_alloc _ _ _ (by simp)]; exact heap_alloc_new w _
  have hr1 : w0.heap[bx + 1]? = some (.cells #[.slice b1 xl.length d1, .slice b2 xb.len d2] 25 (0, 0)) := by
    have := heap_alloc_new (w.alloc (.cells #[.slice a1 xl.length c1, .slice a2 xb.len c2] 25)) (.cells #[.slice b1 xl.length d1, .slice b2 xb.len d2] 25)
    rw [hw0, hbx]; simpa using this
  have hrow : ∀ w1, Below w0.heap.size w0 w1 → w1.heap[bx]? = _ ∧ w1.heap[bx + 1]? = _ := fun w1 hb => ⟨(hb.block _ (Array.getElem?_eq_some_iff.1 hr0).1).trans hr0, (hb.block _ (Array.getElem?_eq_some_iff.1 hr1).1).trans hr1⟩
  have hbox : ∀ w1, Below w0.heap.size w0 w1 → (w1.cell? ⟨bx, 0, none⟩ = some (.slice a1 xl.length c1) ∧ w1.cell? ⟨bx, 1, none⟩ = some (.slice a2 xb.len c2)) ∧
      (w1.cell? ⟨bx + 1, 0, none⟩ = some (.slice b1 xl.length d1) ∧ w1.cell? ⟨bx + 1, 1, none⟩ = some (.slice b2 xb.len d2)) := fun w1 hb =>
    ⟨⟨cell_of_row w1 bx 0 _ _ _ (hrow w1 hb).1, cell_of_row w1 bx 1 _ _ _ (hrow w1 hb).1⟩,
     ⟨cell_of_row w1 (bx + 1) 0 _ _ _ (hrow w1 hb).2, cell_of_row w1 (bx + 1) 1 _ _ _ (hrow w1 hb).2⟩⟩
  rw [← hw0] at hA
  have HX := Lib.hid hbox
  have Y0 := Lib.hid hA
  have T1 := Lib.hid (ht1.below (hA.mono hB))
  have T2 := Lib.hid (ht2.below (hA.mono hB))
  have N1 := Lib.hid (hv1.below (hA.mono hB))
  have N2 := Lib.hid (hv2.below (hA.mono hB))
  have HB0 := Lib.hid (Nat.le_trans hB hA.size)
  clear hA1 hA hr0 hr1 hrow hbox ht1 ht2 hv1 hv2 hB
  go_upto_region 1 with fail
  rw [← hbx, ← hw0]
  clear hbx hw0
  obtain ⟨⟨p0, p1⟩, ⟨q0, q1⟩⟩ := HX.out w0 (Below.refl _ _)
  go_wp2_with fail
  refine (left_funcs HB0.out T1.out N1.out).mono ?_
  rintro e w1 ⟨rfl, hb⟩
  have K1 := Lib.hid hb
  clear hb p0 p1 q0 q1
  obtain ⟨⟨p0, p1⟩, ⟨q0, q1⟩⟩ := HX.out w1 K1.out
  go_wp2_with fail
  refine (left_nodes_t (Nat.le_trans HB0.out K1.out.size) (T2.out.below (K1.out.mono HB0.out)) (N2.out.below (K1.out.mono HB0.out))).mono ?_
  rintro e w2 ⟨rfl, hb⟩
  have K2 := Lib.hid (K1.out.trans (hb.mono K1.out.size))
  clear hb p0 p1 q0 q1
  go_wp2_with fail
  go_ret
  exact ⟨rfl, Y0.out.trans (K2.out.mono Y0.out.size)⟩
end Go.Proofs.YtmkhfonafcikdaaGreatDoor
