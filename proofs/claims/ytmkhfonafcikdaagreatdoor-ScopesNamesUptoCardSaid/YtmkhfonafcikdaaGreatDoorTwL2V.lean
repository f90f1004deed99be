/- Trees: whether lists of nodes are as they were. -/
import Derived.Test.YtmkhfonafcikdaaGreatDoorTwL1V
namespace Go.My
open Go.Nd
theorem NodesAt.mark {w : World} {S : Nat → Prop} {a : Option Addr} {xs : Ns} (h : NodesAt w S true a xs) : ∃ b off, a = some ⟨b, off, none⟩ ∧ S b ∧ NodeMark w b (off + xs.items.length * 5) := by
  induction h with
  | nil a h =>
    obtain ⟨b, off, h1, h2, h3⟩ := h rfl
    exact ⟨b, off, h1, h2, by simpa [Ns.items] using h3⟩
  | @cons b off k t l body els r a1 a2 a3 c1 c2 c3 hS hk ht d0 d1 d2 d3 d4 r1 r2 r3 h1 h2 h3 h4 _ _ _ i4 =>
    obtain ⟨b', off', e, hS', hm⟩ := i4
    cases e
    refine ⟨b, off, rfl, hS, ?_⟩
    rw [Ns.items_cons, List.length_cons, show off + (r.items.length + 1) * 5 = off + 5 + r.items.length * 5 by omega]
    exact hm
theorem Nodes.mark {w : World} {S : Nat → Prop} {v : Value} {xs : Ns} (h : Nodes w S true v xs) : ∃ b off c, v = .slice (some ⟨b, off, none⟩) xs.items.length c ∧ S b ∧ NodeMark w b (off + xs.items.length * 5) ∧ xs.items.length + 1 ≤ c ∧ c ≤ maxLen := by
  obtain ⟨a, c, h1, h2, h3⟩ := h
  obtain ⟨b, off, rfl, hS, hm⟩ := h3.mark
  exact ⟨b, off, c, h1, hS, hm, h2.2.2.2 rfl, h2.2.1⟩
end Go.My
namespace Go.Proofs.YtmkhfonafcikdaaGreatDoor
open Go.RowKit Go.My Go.Nd

theorem keep10 {wr w' w'' : World} {b o b' o' : Nat} {u0 u1 u2 u3 u4 s0 s1 s2 s3 s4 : Value}
    (hS : ((w'.cell? ⟨b, o, none⟩ = some u0 ∧ w'.cell? ⟨b, o + 1, none⟩ = some u1 ∧ w'.cell? ⟨b, o + 2, none⟩ = some u2 ∧ w'.cell? ⟨b, o + 3, none⟩ = some u3 ∧ w'.cell? ⟨b, o + 4, none⟩ = some u4) ∧ (w'.cell? ⟨b', o', none⟩ = some s0 ∧ w'.cell? ⟨b', o' + 1, none⟩ = some s1 ∧ w'.cell? ⟨b', o' + 2, none⟩ = some s2 ∧ w'.cell? ⟨b', o' + 3, none⟩ = some s3 ∧ w'.cell? ⟨b', o' + 4, none⟩ = some s4)) ∧ Below wr.heap.size wr w') (hk : Below w'.heap.size w' w'') :
    ((w''.cell? ⟨b, o, none⟩ = some u0 ∧ w''.cell? ⟨b, o + 1, none⟩ = some u1 ∧ w''.cell? ⟨b, o + 2, none⟩ = some u2 ∧ w''.cell? ⟨b, o + 3, none⟩ = some u3 ∧ w''.cell? ⟨b, o + 4, none⟩ = some u4) ∧ (w''.cell? ⟨b', o', none⟩ = some s0 ∧ w''.cell? ⟨b', o' + 1, none⟩ = some s1 ∧ w''.cell? ⟨b', o' + 2, none⟩ = some s2 ∧ w''.cell? ⟨b', o' + 3, none⟩ = some s3 ∧ w''.cell? ⟨b', o' + 4, none⟩ = some s4)) ∧ Below wr.heap.size wr w'' := by
  obtain ⟨⟨⟨h0, h1, h2, h3, h4⟩, ⟨k0, k1, k2, k3, k4⟩⟩, hb⟩ := hS
  have e : ∀ q, w''.cell? ⟨b, q, none⟩ = w'.cell? ⟨b, q, none⟩ := fun q => World.cell?_of_block (hk.block b (World.block_lt_of_cell? _ _ h0))
  have e' : ∀ q, w''.cell? ⟨b', q, none⟩ = w'.cell? ⟨b', q, none⟩ := fun q => World.cell?_of_block (hk.block b' (World.block_lt_of_cell? _ _ k0))
  exact ⟨⟨⟨(e _).trans h0, (e _).trans h1, (e _).trans h2, (e _).trans h3, (e _).trans h4⟩, ⟨(e' _).trans k0, (e' _).trans k1, (e' _).trans k2, (e' _).trans k3, (e' _).trans k4⟩⟩, hb.trans (hk.mono hb.size)⟩

theorem left_arm {B : Nat} {x : Nd} (hI : LeftSaid x.l ∧ LeftSaid x.body ∧ LeftSaid x.els) {wr w' : World} {a1 a2 a3 b1 b2 b3 : Option Addr} {c1 c2 c3 d1 d2 d3 : Nat} (hB : B ≤ wr.heap.size)
    (t1 : Nodes wr (· < B) true (.slice a1 x.l.len c1) x.l) (t2 : Nodes wr (· < B) true (.slice a2 x.body.len c2) x.body) (t3 : Nodes wr (· < B) true (.slice a3 x.els.len c3) x.els)
    (n1 : Nodes wr (· < B) false (.slice b1 x.l.len d1) x.l) (n2 : Nodes wr (· < B) false (.slice b2 x.body.len d2) x.body) (n3 : Nodes wr (· < B) false (.slice b3 x.els.len d3) x.els) {X : Prop} (hS : X ∧ Below wr.heap.size wr w') :
    Calls Tryz.prog 108 #[.agg #[.int .u8 (x.kind : Int), .string (tx x.text), .slice a1 x.l.len c1, .slice a2 x.body.len c2, .slice a3 x.els.len c3], .agg #[.int .u8 (x.kind : Int), .string (tx x.text), .slice b1 x.l.len d1, .slice b2 x.body.len d2, .slice b3 x.els.len d3]] w' fun e w'' => e = .returned (.bool true) ∧ Below w'.heap.size w' w'' :=
  have hm := hS.2.mono hB
  left_one hI.1 hI.2.1 hI.2.2 (Nat.le_trans hB hS.2.size) (t1.below hm) (t2.below hm) (t3.below hm) (n1.below hm) (n2.below hm) (n3.below hm)

def LeftAtN (w : World) (n gk : Nat) (v3 : Value) (wr : World) : Prop :=
  ∃ i : Nat, i ≤ n ∧ gk = n - i ∧ v3 = .int .i64 (i : Int) ∧ Below w.heap.size w wr

set_option maxRecDepth 100000 in
set_option maxHeartbeats 4000000 in
theorem left_nodes : ∀ xs, LeftSaid xs := by
  refine Ns.each fun xs ih w B tv v hB ht hv => ?_
  obtain ⟨a0, cp, rfl, hr, hcell⟩ := hv.open_
  obtain ⟨bt, ot, ct, hf, hbt, hmk, hct, hcm⟩ := ht.mark
  obtain ⟨_, _, ht2, _, htc⟩ := ht.open_
  rw [hf] at ht2
  cases ht2
  subst hf
  have HI := Lib.hid ih
  have HC := Lib.hid hcell
  have HT := Lib.hid htc
  have HB := Lib.hid hB
  have HM := Lib.hid (And.intro hbt hmk)
  have l0 : (0 : Int) ≤ (xs.items.length : Int) := by omega
  have l1 : (xs.items.length : Int) * 96 ≤ 140737488351232 := by have := hr.2.2.1; omega
  have l2 : (xs.items.length : Int) < (ct : Int) := by omega
  have l3 : decide (ct ≤ xs.items.length) = false := by simp; omega
  have hsl := slice_hs (P := Tryz.prog) (size := 5) Tryz.underlying23 (by kernel_rfl) bt ot xs.items.length ct (xs.items.length + 1) ((xs.items.length : Int) + 1) rfl hct
  clear hv ht hcell hr hB ih htc hbt hmk hcm hct
  go_enter Tryz.func46, Tryz.ntmps46
  go_wp2_with fail
  go_loopg [5] xs.items.length (fun gk v3 wr => LeftAtN w xs.items.length gk v3 wr)
  case atStart => exact ⟨0, Nat.zero_le _, rfl, rfl, Below.refl _ _⟩
  case round =>
    obtain ⟨k, hk, rfl, rfl, hb⟩ := hrel
    have k0 : (0 : Int) ≤ (k : Int) := by omega
    have K := Lib.hid hb
    by_cases hlt : k < xs.items.length
    · have k1 : (k : Int) < (xs.items.length : Int) := by omega
      obtain ⟨b, off, v1, v2, v3, hb1, hS, hN⟩ := HC.out k hlt
      obtain ⟨b', off', u1, u2, u3, hb2, hS', hN'⟩ := HT.out k hlt
      cases hb1
      cases hb2
      have hM := hN.frame hS fun j hj _ => hb.block j (Nat.lt_of_lt_of_le hj HB.out)
      have hM' := hN'.frame hS' fun j hj _ => hb.block j (Nat.lt_of_lt_of_le hj HB.out)
      obtain ⟨x, hx⟩ : ∃ x, x = xs.items[k] := ⟨_, rfl⟩
      have hI := HI.out _ (List.getElem_mem hlt)
      rw [← hx] at hM hM' hI
      have d0 := hM.d0
      have d1 := hM.d1
      have d2 := hM.d2
      have d3 := hM.d3
      have d4 := hM.d4
      have e0 := hM'.d0
      have e1 := hM'.d1
      have e2 := hM'.d2
      have e3 := hM'.d3
      have e4 := hM'.d4
      have M1 := Lib.hid hM.l
      have M2 := Lib.hid hM.body
      have M3 := Lib.hid hM.els
      have M1' := Lib.hid hM'.l
      have M2' := Lib.hid hM'.body
      have M3' := Lib.hid hM'.els
      obtain ⟨z1, y1, rfl⟩ := M1.out.form
      obtain ⟨z2, y2, rfl⟩ := M2.out.form
      obtain ⟨z3, y3, rfl⟩ := M3.out.form
      obtain ⟨z4, y4, rfl⟩ := M1'.out.form
      obtain ⟨z5, y5, rfl⟩ := M2'.out.form
      obtain ⟨z6, y6, rfl⟩ := M3'.out.form
      have HK := Lib.hid (And.intro hlt hI)
      have HBr := Lib.hid (Nat.le_trans HB.out hb.size)
      clear hN hN' hM hM' hI hx hb hlt hk hS hS'
      obtain ⟨kd, tt, xl, xb, xe⟩ := x
      simp only at d0 d1 d2 d3 d4 e0 e1 e2 e3 e4
      go_upto_region 6 with fail
      go_region_held3 (fun w' => ((w'.cell? ⟨b, off + k * 5, none⟩ = some (.int .u8 (kd : Int)) ∧ w'.cell? ⟨b, off + k * 5 + 1, none⟩ = some (.string (tx tt)) ∧ w'.cell? ⟨b, off + k * 5 + 2, none⟩ = some (.slice z1 xl.len y1) ∧ w'.cell? ⟨b, off + k * 5 + 3, none⟩ = some (.slice z2 xb.len y2) ∧ w'.cell? ⟨b, off + k * 5 + 4, none⟩ = some (.slice z3 xe.len y3)) ∧ (w'.cell? ⟨bt, ot + k * 5, none⟩ = some (.int .u8 (kd : Int)) ∧ w'.cell? ⟨bt, ot + k * 5 + 1, none⟩ = some (.string (tx tt)) ∧ w'.cell? ⟨bt, ot + k * 5 + 2, none⟩ = some (.slice z4 xl.len y4) ∧ w'.cell? ⟨bt, ot + k * 5 + 3, none⟩ = some (.slice z5 xb.len y5) ∧ w'.cell? ⟨bt, ot + k * 5 + 4, none⟩ = some (.slice z6 xe.len y6))) ∧ Below wr.heap.size wr w')
        (first | assumption | exact ⟨⟨⟨d0, d1, d2, d3, d4⟩, ⟨e0, e1, e2, e3, e4⟩⟩, (Below.refl _ _).drew⟩ | exact keep10 (by assumption) (by assumption))
        ((go_at_call 108; refine (left_arm (x := ⟨kd, tt, xl, xb, xe⟩) HK.out.2 HBr.out M1'.out M2'.out M3'.out M1.out M2.out M3.out (by assumption)).mono ?_; rintro e w'' ⟨rfl, hk⟩))
      rename_i hH
      have K5 := Lib.hid (K.out.trans (hH.2.mono K.out.size))
      clear hH d0 d1 d2 d3 d4 e0 e1 e2 e3 e4
      go_wp2_with fail
      go_roundg (xs.items.length - (k + 1))
      case measure => have := HK.out.1; omega
      case rel => exact ⟨k + 1, HK.out.1, rfl, by go_num, K5.out⟩
    · obtain rfl : k = xs.items.length := by omega
      obtain ⟨m0, m1, m2, m3, m4⟩ := HM.out.2.frame (hb.block bt (Nat.lt_of_lt_of_le HM.out.1 HB.out))
      clear hlt hk hb
      have hsp : ((tx [115, 112, 97, 114, 101]).toList == [115, 112, 97, 114, 101]) = true := by simp [tx]
      go_wp2_with fail
      go_ret
      exact ⟨rfl, K.out.alloc K.out.size _⟩
end Go.Proofs.YtmkhfonafcikdaaGreatDoor
