/- Programs: the twin of a program. -/
import Derived.Test.YtmkhfonafcikdaaGreatDoorTwEV
namespace Go.Proofs.YtmkhfonafcikdaaGreatDoor
open Go.RowKit Go.My Go.Nd

theorem store2 {w : World} {b : Nat} {z0 z1 : Value} {ty : TypeId} (h : w.heap[b]? = some (.cells #[z0, z1] ty (0, 0))) (v0 v1 : Value) :
    (w.cell? ⟨b, 0, none⟩ = some z0 ∧ w.frozen? ⟨b, 0, none⟩ = false) ∧
    ((w.setCell ⟨b, 0, none⟩ v0).cell? ⟨b, 1, none⟩ = some z1 ∧ (w.setCell ⟨b, 0, none⟩ v0).frozen? ⟨b, 1, none⟩ = false) ∧
    ((w.setCell ⟨b, 0, none⟩ v0).setCell ⟨b, 1, none⟩ v1).heap[b]? = some (.cells #[v0, v1] ty (0, 0)) := by
  have r1 := heap_setCell_same w b 0 _ _ v0 h
  have r2 := heap_setCell_same _ b 1 _ _ v1 r1
  refine ⟨⟨?_, frozen_of_row _ b _ _ _ h⟩, ⟨?_, frozen_of_row _ b _ _ _ r1⟩, ?_⟩
  · rw [cell_of_row _ b _ _ _ _ h]; rfl
  · rw [cell_of_row _ b _ _ _ _ r1]; rfl
  · rw [r2]; rfl

def HeldP (w : World) (b : Nat) (w' : World) : Prop := Below w.heap.size w w' ∧ ∃ z0 z1, w'.heap[b]? = some (.cells #[z0, z1] 25 (0, 0))
theorem HeldP.later {w w' w'' : World} {b : Nat} (h : HeldP w b w') (hk : Below w'.heap.size w' w'') : HeldP w b w'' := by
  obtain ⟨h1, z0, z1, h2⟩ := h
  exact ⟨h1.trans (hk.mono h1.size), z0, z1, (hk.block b (Array.getElem?_eq_some_iff.1 h2).1).trans h2⟩
theorem keepP {w w' w'' : World} {b c : Nat} {u0 u1 : Value}
    (hS : (w'.cell? ⟨b, 0, none⟩ = some u0 ∧ w'.cell? ⟨b, 1, none⟩ = some u1) ∧ HeldP w c w') (hk : Below w'.heap.size w' w'') :
    (w''.cell? ⟨b, 0, none⟩ = some u0 ∧ w''.cell? ⟨b, 1, none⟩ = some u1) ∧ HeldP w c w'' := by
  obtain ⟨⟨h0, h1⟩, hb⟩ := hS
  have e : ∀ o, w''.cell? ⟨b, o, none⟩ = w'.cell? ⟨b, o, none⟩ := fun o => World.cell?_of_block (hk.block b (World.block_lt_of_cell? _ _ h0))
  exact ⟨⟨(e _).trans h0, (e _).trans h1⟩, hb.later hk⟩
theorem wroteP {w w' : World} {b c : Nat} {u0 u1 : Value}
    (hS : (w'.cell? ⟨b, 0, none⟩ = some u0 ∧ w'.cell? ⟨b, 1, none⟩ = some u1) ∧ HeldP w c w') (hbc : b ≠ c) (hc : w.heap.size ≤ c) (v0 v1 : Value) :
    ∃ z0 z1, ((w'.cell? ⟨c, 0, none⟩ = some z0 ∧ w'.frozen? ⟨c, 0, none⟩ = false) ∧
    ((w'.setCell ⟨c, 0, none⟩ v0).cell? ⟨c, 1, none⟩ = some z1 ∧ (w'.setCell ⟨c, 0, none⟩ v0).frozen? ⟨c, 1, none⟩ = false)) ∧
    (∀ wz, wz = (w'.setCell ⟨c, 0, none⟩ v0).setCell ⟨c, 1, none⟩ v1 → wz.heap[c]? = some (.cells #[v0, v1] 25 (0, 0)) ∧ Below w.heap.size w wz ∧ wz.heap.size = w'.heap.size ∧ (∀ k, k ≠ c → wz.heap[k]? = w'.heap[k]?) ∧
      ((wz.cell? ⟨b, 0, none⟩ = some u0 ∧ wz.cell? ⟨b, 1, none⟩ = some u1) ∧ HeldP w c wz)) := by
  obtain ⟨⟨h0, h1⟩, hb, z0, z1, hr⟩ := hS
  have s5 := store2 hr v0 v1
  refine ⟨z0, z1, ⟨s5.1, s5.2.1⟩, fun wz hw => ?_⟩
  have hrow := s5.2.2
  have hbel := below_set (below_set hb hc 0 v0) hc 1 v1
  have hoth : ∀ k, k ≠ c → ((w'.setCell ⟨c, 0, none⟩ v0).setCell ⟨c, 1, none⟩ v1).heap[k]? = w'.heap[k]? := fun k hk => by
    rw [Below.heap_setCell _ _ _ k (by simpa using hk), Below.heap_setCell _ _ _ k (by simpa using hk)]
  have hsz : ((w'.setCell ⟨c, 0, none⟩ v0).setCell ⟨c, 1, none⟩ v1).heap.size = w'.heap.size := by simp
  rw [← hw] at hrow hbel hoth hsz
  have e : ∀ o, wz.cell? ⟨b, o, none⟩ = w'.cell? ⟨b, o, none⟩ := fun o => World.cell?_of_block (hoth b hbc)
  exact ⟨hrow, hbel, hsz, hoth, ⟨(e _).trans h0, (e _).trans h1⟩, hbel, _, _, hrow⟩

theorem fs_at {wb w3 wz : World} {lo : Nat} {v : Value} {x : List Nd.Fn} {c : Nat} (f : FsR wb lo wb.heap.size v x) (hb : Below wb.heap.size wb w3) (ho : ∀ k, k ≠ c → wz.heap[k]? = w3.heap[k]?) (hc : c < lo) : FsR wz lo wb.heap.size v x :=
  (f.later hb (Nat.le_refl _)).frame fun b h1 _ => ho b (by omega)
theorem funcs_armP {w w' : World} {b B : Nat} {v : Value} {x : List Nd.Fn} (hB : B ≤ w.heap.size) (hN : FuncsIn w (· < B) false v x) {X : Prop} (hS : X ∧ HeldP w b w') (Q : Ending → World → Prop)
    (h : ∀ v' w'', Below w'.heap.size w' w'' → FreshF w' w'' v' x ∧ FsR w'' w'.heap.size w''.heap.size v' x → Q (.returned v') w'') : Calls Tryz.prog 30 #[v] w' Q :=
  twin_funcs (Nat.le_trans hB hS.2.1.size) (hN.below (hS.2.1.mono hB)) h
theorem nodes_armP {w w' : World} {b B : Nat} {v : Value} {x : Ns} (hB : B ≤ w.heap.size) (hN : Nodes w (· < B) false v x) {X : Prop} (hS : X ∧ HeldP w b w') (Q : Ending → World → Prop)
    (h : ∀ v' w'', Below w'.heap.size w' w'' → Fresh w' w'' v' x → Q (.returned v') w'') : Calls Tryz.prog 31 #[v] w' Q :=
  twin_nodes x w' B v (Nat.le_trans hB hS.2.1.size) (hN.below (hS.2.1.mono hB)) Q h

set_option maxRecDepth 100000 in
set_option maxHeartbeats 6000000 in
theorem twin_prog {B : Nat} {p : Pr} {w : World} {va vb : Value} (hB : B ≤ w.heap.size)
    (n1 : FuncsIn w (· < B) false va p.funcs) (n2 : Nodes w (· < B) false vb p.body) {Q : Ending → World → Prop}
    (h : ∀ v1 v2 w', Below w.heap.size w w' → FreshF w w' v1 p.funcs → FreshN w w' v2 p.body → (∃ m0 m1 m2, w.heap.size ≤ m0 ∧ m0 ≤ m1 ∧ m1 ≤ m2 ∧ m2 ≤ w'.heap.size ∧ FsR w' m0 m1 v1 p.funcs ∧ LR w' TN m1 m2 v2 p.body) → Q (.returned (.agg #[v1, v2])) w') :
    Calls Tryz.prog 11 #[.agg #[va, vb]] w Q := by
  obtain ⟨a1, c1, rfl⟩ := FuncsIn.form n1
  obtain ⟨a2, c2, rfl⟩ := Nodes.form n2
  obtain ⟨xl, xb⟩ := p
  simp only at *
  have H := Lib.hid h
  have HB := Lib.hid hB
  have N1 := Lib.hid n1
  have N2 := Lib.hid n2
  clear h n1 n2 hB
  go_enter Tryz.func11, Tryz.ntmps11
  have hA1 := Below.alloc (Below.refl w.heap.size w) (Nat.le_refl _) (.cells #[.slice a1 xl.length c1, .slice a2 xb.len c2] 25)
  have hA := Below.alloc hA1 (Nat.le_trans (Nat.le_refl _) hA1.size) (.cells #[.slice none 0 0, .slice none 0 0] 25)
  obtain ⟨bx, hbx⟩ : ∃ bx, bx = w.heap.size := ⟨_, rfl⟩
  obtain ⟨w0, hw0⟩ : ∃ w0, w0 = (w.alloc (.cells #[.slice a1 xl.length c1, .slice a2 xb.len c2] 25)).alloc (.cells #[.slice none 0 0, .slice none 0 0] 25) := ⟨_, rfl⟩
  have hr0 : w0.heap[bx]? = some (.cells #[.slice a1 xl.length c1, .slice a2 xb.len c2] 25 (0, 0)) := by
    rw [hw0, hbx, Below.heap_alloc _ _ _ (by simp)]; exact heap_alloc_new w _
  have hr1 : w0.heap[bx + 1]? = some (.cells #[.slice none 0 0, .slice none 0 0] 25 (0, 0)) := by
    have := heap_alloc_new (w.alloc (.cells #[.slice a1 xl.length c1, .slice a2 xb.len c2] 25)) (.cells #[.slice none 0 0, .slice none 0 0] 25)
    rw [hw0, hbx]; simpa using this
  have hrow : ∀ w1, Below w0.heap.size w0 w1 → w1.heap[bx]? = _ ∧ w1.heap[bx + 1]? = _ := fun w1 hb => ⟨(hb.block _ (Array.getElem?_eq_some_iff.1 hr0).1).trans hr0, (hb.block _ (Array.getElem?_eq_some_iff.1 hr1).1).trans hr1⟩
  have hbox : ∀ w1, Below w0.heap.size w0 w1 → w1.cell? ⟨bx, 0, none⟩ = some (.slice a1 xl.length c1) ∧ w1.cell? ⟨bx, 1, none⟩ = some (.slice a2 xb.len c2) := fun w1 hb =>
    ⟨cell_of_row w1 bx 0 _ _ _ (hrow w1 hb).1, cell_of_row w1 bx 1 _ _ _ (hrow w1 hb).1⟩
  have hres : ∀ w1, Below w0.heap.size w0 w1 → w1.heap[bx + 1]? = some (.cells #[.slice none 0 0, .slice none 0 0] 25 (0, 0)) := fun w1 hb => (hrow w1 hb).2
  rw [← hw0] at hA
  have HX := Lib.hid hbox
  have HR := Lib.hid hres
  have Y0 := Lib.hid hA
  clear hA1 hA hr0 hr1 hrow hbox hres
  go_upto_region 1 with fail
  rw [← hbx, ← hw0]
  have hbw : w.heap.size ≤ bx + 1 := by omega
  clear hbx hw0
  obtain ⟨q0, q1⟩ := HX.out w0.drew (Below.refl _ _).drew
  have hH0 : HeldP w (bx + 1) w0.drew := ⟨Y0.out.drew, _, _, HR.out w0.drew (Below.refl _ _).drew⟩
  have hHS : (w0.drew.cell? ⟨bx, 0, none⟩ = some (.slice a1 xl.length c1) ∧ w0.drew.cell? ⟨bx, 1, none⟩ = some (.slice a2 xb.len c2)) ∧ HeldP w (bx + 1) w0.drew := ⟨⟨q0, q1⟩, hH0⟩
  clear HX HR hH0 q0 q1
  go_region_held3 (fun w' => (w'.cell? ⟨bx, 0, none⟩ = some (.slice a1 xl.length c1) ∧ w'.cell? ⟨bx, 1, none⟩ = some (.slice a2 xb.len c2)) ∧ HeldP w (bx + 1) w')
    (first | assumption | exact keepP (by assumption) (by assumption))
    (first
      | (go_at_call_of 30 (Value.slice a1 xl.length c1); refine funcs_armP HB.out N1.out (by assumption) _ ?_; intro v1 w1 hb1 f1; obtain ⟨u1, k1, rfl⟩ := FuncsIn.form f1.1; have G1 := Lib.hid f1; clear f1)
      | (go_at_call_of 31 (Value.slice a2 xb.len c2); refine nodes_armP HB.out N2.out (by assumption) _ ?_; intro v2 w2 hb2 f2; obtain ⟨u2, k2, rfl⟩ := Nodes.form f2.1; have G2 := Lib.hid (And.intro f2 hb2); clear f2; have hS3 := keepP (w := w) (c := bx + 1) (u0 := .slice a1 xl.length c1) (u1 := .slice a2 xb.len c2) (by assumption) hb2; have hst := wroteP hS3 (Nat.ne_of_lt (Nat.lt_succ_self bx)) hbw (.slice u1 xl.length k1) (.slice u2 xb.len k2); obtain ⟨z0, z1, ⟨⟨p0, p0'⟩, ⟨p1, p1'⟩⟩, hz⟩ := hst; have HZ := Lib.hid hz; have hSF := (hz _ rfl).2.2.2.2; clear hz))
  all_goals
    generalize hwz : (w2.setCell ⟨bx + 1, 0, none⟩ (.slice u1 xl.length k1)).setCell ⟨bx + 1, 1, none⟩ (.slice u2 xb.len k2) = wz at *
    have hZ := HZ.out wz rfl
    obtain ⟨_, _, hrw⟩ := hHS.2.2
    have s0 : bx + 1 < w0.drew.heap.size := (Array.getElem?_eq_some_iff.1 hrw).1
    have s1 := hHS.2.1.size
    have s2 := hb1.size
    have c0 : wz.cell? ⟨bx + 1, 0, none⟩ = some (.slice u1 xl.length k1) := (cell_of_row wz (bx + 1) 0 _ _ _ hZ.1).trans rfl
    have c1 : wz.cell? ⟨bx + 1, 1, none⟩ = some (.slice u2 xb.len k2) := (cell_of_row wz (bx + 1) 1 _ _ _ hZ.1).trans rfl
    have e1 : FreshF w wz (.slice u1 xl.length k1) xl := freshF_at G1.out.1 hb2 hZ.2.2.2.1 s0 s1
    have e2 : FreshN w wz (.slice u2 xb.len k2) xb := fresh_at G2.out.1.1 (Below.refl _ w2) hZ.2.2.2.1 (Nat.lt_of_lt_of_le s0 s2) (Nat.le_trans s1 s2)
    have l1 := fs_at G1.out.2 hb2 hZ.2.2.2.1 s0
    have l2 := lr_at G2.out.1.2 (Below.refl _ w2) hZ.2.2.2.1 (Nat.lt_of_lt_of_le s0 s2)
    have HE := Lib.hid (And.intro hZ.2.1 (And.intro e1 (And.intro e2 (show ∃ m0 m1 m2, w.heap.size ≤ m0 ∧ m0 ≤ m1 ∧ m1 ≤ m2 ∧ m2 ≤ wz.heap.size ∧ FsR wz m0 m1 (.slice u1 xl.length k1) xl ∧ LR wz TN m1 m2 (.slice u2 xb.len k2) xb from ⟨_, _, _, s1, s2, hb2.size, by rw [hZ.2.2.1]; exact Nat.le_refl _, l1, l2⟩))))
    clear l1 l2
    clear p0 p0' p1 p1' hSF hS3 hwz hZ e1 e2 hrw s0 s1 s2
    go_wp2_with fail
    exact bodyPost_ret (v := .agg #[.slice u1 xl.length k1, .slice u2 xb.len k2]) (by simp [results, Tryz.results11, go_sem, c0, c1]) rfl (H.out _ _ _ HE.out.1 HE.out.2.1 HE.out.2.2.1 HE.out.2.2.2)
end Go.Proofs.YtmkhfonafcikdaaGreatDoor
