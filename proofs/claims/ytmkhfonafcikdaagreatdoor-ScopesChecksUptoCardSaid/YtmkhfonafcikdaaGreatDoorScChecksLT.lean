/- The statement ScopesChecks: its walk. -/
import Derived.Test.YtmkhfonafcikdaaGreatDoorTrA3
import Derived.Test.YtmkhfonafcikdaaGreatDoorScCheckT
import Derived.Test.YtmkhfonafcikdaaGreatDoorScRCheckT
namespace Go.Proofs.YtmkhfonafcikdaaGreatDoor
open Go.RowKit Go.My Go.Nd

theorem keepL {w4 w' w'' : World} {bx bz : Nat} {u1 u2 z1 z2 : Value}
    (hS : ((w'.cell? ⟨bx, 0, none⟩ = some u1 ∧ w'.cell? ⟨bx, 1, none⟩ = some u2) ∧ (w'.cell? ⟨bz, 0, none⟩ = some z1 ∧ w'.cell? ⟨bz, 1, none⟩ = some z2)) ∧ Below w4.heap.size w4 w') (hk : Below w'.heap.size w' w'') :
    ((w''.cell? ⟨bx, 0, none⟩ = some u1 ∧ w''.cell? ⟨bx, 1, none⟩ = some u2) ∧ (w''.cell? ⟨bz, 0, none⟩ = some z1 ∧ w''.cell? ⟨bz, 1, none⟩ = some z2)) ∧ Below w4.heap.size w4 w'' := by
  obtain ⟨⟨⟨h0, h1⟩, ⟨k0, k1⟩⟩, hb⟩ := hS
  have e : ∀ q, w''.cell? ⟨bx, q, none⟩ = w'.cell? ⟨bx, q, none⟩ := fun q => World.cell?_of_block (hk.block bx (World.block_lt_of_cell? _ _ h0))
  have e' : ∀ q, w''.cell? ⟨bz, q, none⟩ = w'.cell? ⟨bz, q, none⟩ := fun q => World.cell?_of_block (hk.block bz (World.block_lt_of_cell? _ _ k0))
  exact ⟨⟨⟨(e _).trans h0, (e _).trans h1⟩, ⟨(e' _).trans k0, (e' _).trans k1⟩⟩, hb.trans (hk.mono hb.size)⟩

theorem scheck_arm {p : Pr} {w4 w' : World} {B : Nat} {v1 v2 : Value} {c : Nat} (hS : SmallP p) (hc : scheck wrapI p = c) (hB : B ≤ w4.heap.size) (h1 : FuncsIn w4 (· < B) true v1 p.funcs) (h2 : Nodes w4 (· < B) true v2 p.body) {X : Prop} (hX : X ∧ Below w4.heap.size w4 w') :
    Calls Tryz.prog 12 #[.agg #[v1, v2]] w' fun e w'' => e = .returned (.int .i64 (c : Int)) ∧ Below w'.heap.size w' w'' :=
  hc ▸ scheck_t (Nat.le_trans hB hX.2.size) ((FuncsIn.untw h1).below (hX.2.mono hB)) ((Nodes.untw h2).below (hX.2.mono hB)) hS
theorem rscheck_arm {p : Pr} {w4 w' : World} {B : Nat} {v1 v2 : Value} {c : Nat} (hS : SmallP p) (hc : scheck wrapI p = c) (hB : B ≤ w4.heap.size) (h1 : FuncsIn w4 (· < B) false v1 p.funcs) (h2 : Nodes w4 (· < B) false v2 p.body) {X : Prop} (hX : X ∧ Below w4.heap.size w4 w') :
    Calls Tryz.prog 13 #[.agg #[v1, v2]] w' fun e w'' => e = .returned (.int .i64 (c : Int)) ∧ Below w'.heap.size w' w'' :=
  hc ▸ rscheck_t (Nat.le_trans hB hX.2.size) (h1.below (hX.2.mono hB)) (h2.below (hX.2.mono hB)) hS
theorem leftP_arm {p : Pr} {w4 w' : World} {B : Nat} {t1 t2 v1 v2 : Value} (hB : B ≤ w4.heap.size) (ht1 : FuncsIn w4 (· < B) true t1 p.funcs) (ht2 : Nodes w4 (· < B) true t2 p.body) (h1 : FuncsIn w4 (· < B) false v1 p.funcs) (h2 : Nodes w4 (· < B) false v2 p.body) {X : Prop} (hS : X ∧ Below w4.heap.size w4 w') :
    Calls Tryz.prog 14 #[.agg #[t1, t2], .agg #[v1, v2]] w' fun e w'' => e = .returned (.bool true) ∧ Below w'.heap.size w' w'' :=
  have hm := hS.2.mono hB
  left_prog (Nat.le_trans hB hS.2.size) (ht1.below hm) (ht2.below hm) (h1.below hm) (h2.below hm)

set_option maxRecDepth 100000 in
set_option maxHeartbeats 4000000 in
theorem schecks_any (w : World) (v1 v2 : Value) (p : Pr) (h1 : FuncsIn w (fun b => b < w.heap.size) false v1 p.funcs) (h2 : Nodes w (fun b => b < w.heap.size) false v2 p.body) (hps : psz p ≤ 1048576) :
    Calls Tryz.prog 3 #[.agg #[v1, v2]] w fun e w' => e = .returned (.bool true) ∧ Below w.heap.size w w' := by
  have hA := Below.alloc (Below.refl w.heap.size w) (Nat.le_refl _) (.cells #[v1, v2] 25)
  obtain ⟨bx, hbx⟩ : ∃ bx, bx = w.heap.size := ⟨_, rfl⟩
  obtain ⟨w0, hw0⟩ : ∃ w0, w0 = w.alloc (.cells #[v1, v2] 25) := ⟨_, rfl⟩
  have hbox : ∀ w1, Below w0.heap.size w0 w1 → w1.cell? ⟨bx, 0, none⟩ = some v1 ∧ w1.cell? ⟨bx, 1, none⟩ = some v2 := by
    intro w1 hb1
    rw [hw0] at hb1
    rw [hbx]
    have q2 := box_later hb1 0
    have q3 := box_later hb1 1
    simp at q2 q3
    exact ⟨q2, q3⟩
  rw [← hw0] at hA
  have HX := Lib.hid hbox
  have Y0 := Lib.hid hA
  have N1 := Lib.hid (h1.below hA)
  have N2 := Lib.hid (h2.below hA)
  obtain ⟨B, hBe⟩ : ∃ B, B = w.heap.size := ⟨_, rfl⟩
  rw [← hBe] at N1 N2
  have HB := Lib.hid (show B ≤ w0.heap.size from hBe ▸ hA.size)
  clear hBe
  obtain ⟨a1, c1, rfl⟩ := h1.form
  obtain ⟨a2, c2, rfl⟩ := h2.form
  obtain ⟨cc, hcc⟩ : ∃ cc, scheck wrapI p = cc := ⟨_, rfl⟩
  have HSM := Lib.hid (small_of_psz hps)
  have HCC := Lib.hid hcc
  clear hbox hA h1 h2 hcc hps
  go_enter Tryz.func3, Tryz.ntmps3
  go_upto_region 1 with fail
  rw [← hbx, ← hw0]
  clear hbx hw0
  obtain ⟨q2, q3⟩ := HX.out w0 (Below.refl _ _)
  go_wp2_with fail
  refine (progSize_t HB.out N1.out N2.out).mono ?_
  rintro e w1 ⟨m, rfl, hb⟩
  have K := Lib.hid hb
  clear q2 q3
  obtain ⟨q2, q3⟩ := HX.out w1 hb
  clear hb
  by_cases hm : m ≤ 2000
  · go_wp2_with fail
    refine twin_prog (p := p) (Nat.le_trans HB.out K.out.size) (N1.out.below (K.out.mono HB.out)) (N2.out.below (K.out.mono HB.out)) fun t1 t2 w2 hb2 f1 f2 => ?_
    obtain ⟨u1, k1, rfl⟩ := FuncsIn.form f1
    obtain ⟨u2, k2, rfl⟩ := Nodes.form f2
    have K2 := K.out.trans (hb2.mono K.out.size)
    have hA2 := Below.alloc (Below.refl w2.heap.size w2) (Nat.le_refl _) (.cells #[.slice u1 p.funcs.length k1, .slice u2 p.body.len k2] 25)
    obtain ⟨bz, hbz⟩ : ∃ bz, bz = w2.heap.size := ⟨_, rfl⟩
    obtain ⟨w4, hw4⟩ : ∃ w4, w4 = w2.alloc (.cells #[.slice u1 p.funcs.length k1, .slice u2 p.body.len k2] 25) := ⟨_, rfl⟩
    have hnew : w4.heap[bz]? = some (.cells #[.slice u1 p.funcs.length k1, .slice u2 p.body.len k2] 25 (0, 0)) := by rw [hw4, hbz]; exact heap_alloc_new w2 _
    rw [← hw4] at hA2
    have K4 := K2.trans (hA2.mono K2.size)
    have hz : bz = w2.heap.size := hbz
    have hw24 : w2.heap.size ≤ w4.heap.size := hA2.size
    have F1 := Lib.hid (FuncsIn.mono (T := (· < w4.heap.size)) (f1.later hA2) fun b hb _ => hb)
    have F2 := Lib.hid (Nodes.mono (T := (· < w4.heap.size)) (f2.later hA2) fun b hb _ => hb)
    have HK := Lib.hid K4
    have Hb := Lib.hid (Nat.le_trans HB.out K4.size)
    have M1 := Lib.hid (FuncsIn.mono (T := (· < w4.heap.size)) (N1.out.below (K4.mono HB.out)) fun b hb _ => hb)
    have M2 := Lib.hid (Nodes.mono (T := (· < w4.heap.size)) (N2.out.below (K4.mono HB.out)) fun b hb _ => hb)
    obtain ⟨r2, r3⟩ := HX.out w4 K4
    have r4 : w4.cell? ⟨bz, 0, none⟩ = some (.slice u1 p.funcs.length k1) := cell_of_row w4 bz 0 _ _ _ hnew
    have r5 : w4.cell? ⟨bz, 1, none⟩ = some (.slice u2 p.body.len k2) := cell_of_row w4 bz 1 _ _ _ hnew
    clear q2 q3
    obtain ⟨q2, q3⟩ := HX.out w2 K2
    clear f1 f2 K2 K4 hA2 hnew hb2
    go_upto_region 4 with fail
    rw [← hz, ← hw4]
    clear hz hbz hw4 hw24 q2 q3
    go_region_held3 (fun w' => ((w'.cell? ⟨bx, 0, none⟩ = some (.slice a1 p.funcs.length c1) ∧ w'.cell? ⟨bx, 1, none⟩ = some (.slice a2 p.body.len c2)) ∧ (w'.cell? ⟨bz, 0, none⟩ = some (.slice u1 p.funcs.length k1) ∧ w'.cell? ⟨bz, 1, none⟩ = some (.slice u2 p.body.len k2))) ∧ Below w4.heap.size w4 w')
      (first | assumption | exact ⟨⟨⟨r2, r3⟩, ⟨r4, r5⟩⟩, (Below.refl _ _).drew⟩ | exact keepL (by assumption) (by assumption))
      (first
        | (go_at_call 12; refine (scheck_arm HSM.out HCC.out (Nat.le_refl _) F1.out F2.out (by assumption)).mono ?_; rintro e w'' ⟨rfl, hk⟩)
        | (go_at_call 13; refine (rscheck_arm HSM.out HCC.out (Nat.le_refl _) M1.out M2.out (by assumption)).mono ?_; rintro e w'' ⟨rfl, hk⟩)
        | (go_at_call 14; refine (leftP_arm (Nat.le_refl _) F1.out F2.out M1.out M2.out (by assumption)).mono ?_; rintro e w'' ⟨rfl, hk⟩))
    rename_i hH
    have K5 := Lib.hid (Y0.out.trans ((HK.out.trans (hH.2.mono HK.out.size)).mono Y0.out.size))
    clear hH
    go_wp2_with fail
    go_ret
    exact ⟨rfl, K5.out⟩
  · have hm2 : (2000 : Int) < m := by omega
    clear hm
    go_wp2_with fail
    go_ret
    exact ⟨rfl, Y0.out.trans (K.out.mono Y0.out.size)⟩
end Go.Proofs.YtmkhfonafcikdaaGreatDoor
