/- Shows, as the document has it: expressions, by their kinds. -/
import Derived.Test.YtobpnjnfpgcpaaaDoorShRfST
import Derived.Test.YtobpnjnfpgcpaaaDoorTrA2
namespace Go.Proofs.YtobpnjnfpgcpaaaDoor
open Go.RowKit Go.My Go.Nd


set_option maxRecDepth 100000 in
set_option maxHeartbeats 4000000 in
theorem rexpr_leaf {tw : Bool} {x : Nd} (h3 : x.kind ≠ 3) (h4 : x.kind ≠ 4) (h5 : x.kind ≠ 5) (h6 : x.kind ≠ 6) (h7 : x.kind ≠ 7) : RExprOk tw x := by
  intro w B v hB h
  have hv := h
  obtain ⟨a1, c1, a2, c2, a3, c3, rfl, hk, ht, hn1, hn2, hn3⟩ := h
  obtain ⟨hA, hn, hz⟩ := Put.new w #[.int .u8 (x.kind : Int), .string (tx x.text), .slice a1 x.l.len c1, .slice a2 x.body.len c2, .slice a3 x.els.len c3] 25
  obtain ⟨bx, hbx⟩ : ∃ bx, bx = w.heap.size := ⟨_, rfl⟩
  obtain ⟨w0, hw0⟩ : ∃ w0, w0 = w.alloc (.cells #[.int .u8 (x.kind : Int), .string (tx x.text), .slice a1 x.l.len c1, .slice a2 x.body.len c2, .slice a3 x.els.len c3] 25) := ⟨_, rfl⟩
  rw [← hw0] at hA hn hz
  rw [← hbx] at hn
  have hmB := hA.mono hB
  have hbox : BxIs tw w0 B bx x a1 c1 a2 c2 a3 c3 := ⟨hn, hk, ht, hn1.below hmB, hn2.below hmB, hn3.below hmB, Nat.le_trans hB hA.size⟩
  have X := Lib.hid (And.intro hA hbox)
  obtain ⟨q0, q1, q2, q3, q4, _, _, _, _, _⟩ := row5 hn
  have k0 : (0 : Int) ≤ (x.kind : Int) := by omega
  clear hA hn hz hmB hn1 hn2 hn3 hv hB ht hbox hk
  have e3 : ((x.kind : Int) == 3) = false := by rw [beq_eq_false_iff_ne]; omega
  have e4 : ((x.kind : Int) == 4) = false := by rw [beq_eq_false_iff_ne]; omega
  have e5 : ((x.kind : Int) == 5) = false := by rw [beq_eq_false_iff_ne]; omega
  have e6 : ((x.kind : Int) == 6) = false := by rw [beq_eq_false_iff_ne]; omega
  have e7 : ((x.kind : Int) == 7) = false := by rw [beq_eq_false_iff_ne]; omega
  have HR := Lib.hid (show x.sh = x.text by unfold Nd.sh shOne; rw [if_neg h3, if_neg h4, if_neg h6, if_neg h7, if_neg h5])
  clear h3 h4 h5 h6 h7
  go_enter Tryd.func17, Tryd.ntmps17
  go_upto_region 1 with fail
  rw [← hbx, ← hw0]
  clear hbx hw0
  go_wp2_with fail
  refine (rank_r X.out.2.nv).mono ?_
  rintro e w1 ⟨rfl, hb⟩
  have Y := Lib.hid (And.intro (X.out.1.trans (hb.mono X.out.1.size)) (X.out.2.later hb))
  clear hb q0 q1 q2 q3 q4
  obtain ⟨q0, q1, q2, q3, q4, _, _, _, _, _⟩ := row5 Y.out.2.row
  go_wp2_with fail
  go_ret
  exact ⟨by rw [HR.out]; rfl, Y.out.1⟩

set_option maxRecDepth 100000 in
set_option maxHeartbeats 4000000 in
theorem rexpr_list {tw : Bool} {x : Nd} (h3 : x.kind = 3) (hx : ∀ y ∈ x.l.items, RExprOk tw y) (hlen : tot (x.l.items.map Nd.sh) ≤ 17592186044416) : RExprOk tw x := by
  intro w B v hB h
  have hv := h
  obtain ⟨a1, c1, a2, c2, a3, c3, rfl, hk, ht, hn1, hn2, hn3⟩ := h
  obtain ⟨hA, hn, hz⟩ := Put.new w #[.int .u8 (x.kind : Int), .string (tx x.text), .slice a1 x.l.len c1, .slice a2 x.body.len c2, .slice a3 x.els.len c3] 25
  obtain ⟨bx, hbx⟩ : ∃ bx, bx = w.heap.size := ⟨_, rfl⟩
  obtain ⟨w0, hw0⟩ : ∃ w0, w0 = w.alloc (.cells #[.int .u8 (x.kind : Int), .string (tx x.text), .slice a1 x.l.len c1, .slice a2 x.body.len c2, .slice a3 x.els.len c3] 25) := ⟨_, rfl⟩
  rw [← hw0] at hA hn hz
  rw [← hbx] at hn
  have hmB := hA.mono hB
  have hbox : BxIs tw w0 B bx x a1 c1 a2 c2 a3 c3 := ⟨hn, hk, ht, hn1.below hmB, hn2.below hmB, hn3.below hmB, Nat.le_trans hB hA.size⟩
  have X := Lib.hid (And.intro hA hbox)
  obtain ⟨q0, q1, q2, q3, q4, _, _, _, _, _⟩ := row5 hn
  have k0 : (0 : Int) ≤ (x.kind : Int) := by omega
  clear hA hn hz hmB hn1 hn2 hn3 hv hB ht hbox hk
  have HK := Lib.hid (show (x.kind : Int) = 3 by omega)
  obtain ⟨s, hs⟩ : ∃ s, s = sepx [44, 32] (x.l.items.map Nd.sh) := ⟨_, rfl⟩
  have hl := sepx_len [44, 32] (by decide) (x.l.items.map Nd.sh)
  rw [← hs] at hl
  have hR : x.sh = [91] ++ s ++ [93] := by unfold Nd.sh shOne; rw [if_pos h3, sh_items, hs]
  have ad1 : ∀ wx, (Op.stringOp .add ⟨#[91]⟩ (bs s)).run Tryd.prog wx = .ok (.string (bs ([91] ++ s))) wx := add_any [91] s (by simp; omega)
  have ad2 : ∀ wx, (Op.stringOp .add (bs ([91] ++ s)) ⟨#[93]⟩).run Tryd.prog wx = .ok (.string (bs ([91] ++ s ++ [93]))) wx := add_any ([91] ++ s) [93] (by simp; omega)
  rw [← hR] at ad2
  obtain ⟨s1, hs1⟩ : ∃ s1, s1 = [91] ++ s := ⟨_, rfl⟩
  rw [← hs1] at ad1 ad2
  obtain ⟨z, hz⟩ : ∃ z, z = x.sh := ⟨_, rfl⟩
  rw [← hz] at ad2 ⊢
  have HS := Lib.hid hs
  have HX := Lib.hid (And.intro hx hlen)
  clear hs hs1 hR hl hx hlen h3 hz
  go_enter Tryd.func17, Tryd.ntmps17
  go_upto_region 1 with fail
  rw [← hbx, ← hw0]
  clear hbx hw0
  go_wp2_with fail
  refine (rank_r X.out.2.nv).mono ?_
  rintro e w1 ⟨rfl, hb⟩
  have Y := Lib.hid (And.intro (X.out.1.trans (hb.mono X.out.1.size)) (X.out.2.later hb))
  clear hb q0 q1 q2 q3 q4
  obtain ⟨q0, q1, q2, q3, q4, _, _, _, _, _⟩ := row5 Y.out.2.row
  rw [HK.out] at q0
  go_wp2_with fail
  refine (several_r HX.out.1 (by have := HX.out.2; omega) Y.out.2.hB Y.out.2.l).mono ?_
  rintro e w2 ⟨rfl, hb⟩
  rw [← HS.out]
  have K := Lib.hid (Y.out.1.trans (hb.mono Y.out.1.size))
  clear hb q0 q1 q2 q3 q4
  go_wp2_with fail
  go_ret
  exact ⟨rfl, K.out⟩


set_option maxRecDepth 100000 in
set_option maxHeartbeats 4000000 in
theorem rexpr_neg {tw : Bool} {x y : Nd} (hkk : x.kind = 6) (hi : x.l.items = [y]) (hx : RExprOk tw y) (hlen : y.sh.length ≤ 17592186044416) : RExprOk tw x := by
  intro w B v hB h
  have hv := h
  obtain ⟨a1, c1, a2, c2, a3, c3, rfl, hk, ht, hn1, hn2, hn3⟩ := h
  obtain ⟨hA, hn, hz⟩ := Put.new w #[.int .u8 (x.kind : Int), .string (tx x.text), .slice a1 x.l.len c1, .slice a2 x.body.len c2, .slice a3 x.els.len c3] 25
  obtain ⟨bx, hbx⟩ : ∃ bx, bx = w.heap.size := ⟨_, rfl⟩
  obtain ⟨w0, hw0⟩ : ∃ w0, w0 = w.alloc (.cells #[.int .u8 (x.kind : Int), .string (tx x.text), .slice a1 x.l.len c1, .slice a2 x.body.len c2, .slice a3 x.els.len c3] 25) := ⟨_, rfl⟩
  rw [← hw0] at hA hn hz
  rw [← hbx] at hn
  have hmB := hA.mono hB
  have hbox : BxIs tw w0 B bx x a1 c1 a2 c2 a3 c3 := ⟨hn, hk, ht, hn1.below hmB, hn2.below hmB, hn3.below hmB, Nat.le_trans hB hA.size⟩
  have X := Lib.hid (And.intro hA hbox)
  obtain ⟨q0, q1, q2, q3, q4, _, _, _, _, _⟩ := row5 hn
  have k0 : (0 : Int) ≤ (x.kind : Int) := by omega
  clear hA hn hz hmB hn1 hn2 hn3 hv hB ht hbox hk
  have hlen1 : x.l.items.length = 1 := by rw [hi]; rfl
  obtain ⟨b, off, z1, y1, z2, y2, z3, y3, rfl, hbB, hcell, hnv⟩ := X.out.2.child 0 (by omega)
  have hy : x.l.items[0]'(by omega) = y := by simp [hi]
  rw [hy] at hcell hnv
  have hl1 : x.l.len = 1 := hlen1
  have HL1 := Lib.hid hl1
  have HC := Lib.hid (And.intro hcell hnv)
  have HX := Lib.hid (And.intro hx hlen)
  obtain ⟨s, hs⟩ : ∃ s, s = inx y.rk 4 y.sh := ⟨_, rfl⟩
  have hsl := inx_len y.rk 4 y.sh
  rw [← hs] at hsl
  have HK := Lib.hid (show (x.kind : Int) = 6 by omega)
  have hR : x.sh = [45] ++ s := by unfold Nd.sh shOne; rw [hkk, sh_items, hi, hs]; rfl
  have ad1 : ∀ wx, (Op.stringOp .add ⟨#[45]⟩ (bs s)).run Tryd.prog wx = .ok (.string (bs ([45] ++ s))) wx := add_any [45] s (by simp; omega)
  rw [← hR] at ad1
  obtain ⟨z, hz⟩ : ∃ z, z = x.sh := ⟨_, rfl⟩
  rw [← hz] at ad1 ⊢
  have HS := Lib.hid hs
  clear hs hR hsl hx hlen hkk hz hi hcell hnv hy hlen1 hl1 hbB
  go_enter Tryd.func17, Tryd.ntmps17
  go_upto_region 1 with fail
  rw [← hbx, ← hw0]
  clear hbx hw0
  rw [HL1.out] at q2
  have hnv0 := X.out.2.nv
  rw [HL1.out] at hnv0
  have HNV := Lib.hid hnv0
  clear hnv0
  go_wp2_with fail
  refine (rank_r HNV.out).mono ?_
  rintro e w1 ⟨rfl, hb⟩
  have Y := Lib.hid (And.intro (X.out.1.trans (hb.mono X.out.1.size)) (X.out.2.later hb))
  have YB := Lib.hid hb
  clear hb q0 q1 q2 q3 q4
  obtain ⟨q0, q1, q2, q3, q4, _, _, _, _, _⟩ := row5 Y.out.2.row
  rw [HK.out] at q0
  rw [HL1.out] at q2
  obtain ⟨d0, d1, d2, d3, d4⟩ := HC.out.1 w1 YB.out
  simp only [Nat.zero_mul, Nat.add_zero] at d0 d1 d2 d3 d4
  go_wp2_with fail
  refine (in_r HX.out.1 (by have := HX.out.2; omega) Y.out.2.hB (HC.out.2 w1 YB.out) 4 (by decide)).mono ?_
  rintro e w2 ⟨rfl, hb⟩
  rw [← HS.out]
  have K := Lib.hid (Y.out.1.trans (hb.mono Y.out.1.size))
  clear hb q0 q1 q2 q3 q4 d0 d1 d2 d3 d4
  go_wp2_with fail
  go_ret
  exact ⟨rfl, K.out⟩

set_option maxRecDepth 100000 in
set_option maxHeartbeats 4000000 in
theorem rexpr_not {tw : Bool} {x y : Nd} (hkk : x.kind = 7) (hi : x.l.items = [y]) (hx : RExprOk tw y) (hlen : y.sh.length ≤ 17592186044416) : RExprOk tw x := by
  intro w B v hB h
  have hv := h
  obtain ⟨a1, c1, a2, c2, a3, c3, rfl, hk, ht, hn1, hn2, hn3⟩ := h
  obtain ⟨hA, hn, hz⟩ := Put.new w #[.int .u8 (x.kind : Int), .string (tx x.text), .slice a1 x.l.len c1, .slice a2 x.body.len c2, .slice a3 x.els.len c3] 25
  obtain ⟨bx, hbx⟩ : ∃ bx, bx = w.heap.size := ⟨_, rfl⟩
  obtain ⟨w0, hw0⟩ : ∃ w0, w0 = w.alloc (.cells #[.int .u8 (x.kind : Int), .string (tx x.text), .slice a1 x.l.len c1, .slice a2 x.body.len c2, .slice a3 x.els.len c3] 25) := ⟨_, rfl⟩
  rw [← hw0] at hA hn hz
  rw [← hbx] at hn
  have hmB := hA.mono hB
  have hbox : BxIs tw w0 B bx x a1 c1 a2 c2 a3 c3 := ⟨hn, hk, ht, hn1.below hmB, hn2.below hmB, hn3.below hmB, Nat.le_trans hB hA.size⟩
  have X := Lib.hid (And.intro hA hbox)
  obtain ⟨q0, q1, q2, q3, q4, _, _, _, _, _⟩ := row5 hn
  have k0 : (0 : Int) ≤ (x.kind : Int) := by omega
  clear hA hn hz hmB hn1 hn2 hn3 hv hB ht hbox hk
  have hlen1 : x.l.items.length = 1 := by rw [hi]; rfl
  obtain ⟨b, off, z1, y1, z2, y2, z3, y3, rfl, hbB, hcell, hnv⟩ := X.out.2.child 0 (by omega)
  have hy : x.l.items[0]'(by omega) = y := by simp [hi]
  rw [hy] at hcell hnv
  have hl1 : x.l.len = 1 := hlen1
  have HL1 := Lib.hid hl1
  have HC := Lib.hid (And.intro hcell hnv)
  have HX := Lib.hid (And.intro hx hlen)
  obtain ⟨s, hs⟩ : ∃ s, s = inx y.rk 4 y.sh := ⟨_, rfl⟩
  have hsl := inx_len y.rk 4 y.sh
  rw [← hs] at hsl
  have HK := Lib.hid (show (x.kind : Int) = 7 by omega)
  have hR : x.sh = [110, 111, 116, 32] ++ s := by unfold Nd.sh shOne; rw [hkk, sh_items, hi, hs]; rfl
  have ad1 : ∀ wx, (Op.stringOp .add ⟨#[110, 111, 116, 32]⟩ (bs s)).run Tryd.prog wx = .ok (.string (bs ([110, 111, 116, 32] ++ s))) wx := add_any [110, 111, 116, 32] s (by simp; omega)
  rw [← hR] at ad1
  obtain ⟨z, hz⟩ : ∃ z, z = x.sh := ⟨_, rfl⟩
  rw [← hz] at ad1 ⊢
  have HS := Lib.hid hs
  clear hs hR hsl hx hlen hkk hz hi hcell hnv hy hlen1 hl1 hbB
  go_enter Tryd.func17, Tryd.ntmps17
  go_upto_region 1 with fail
  rw [← hbx, ← hw0]
  clear hbx hw0
  rw [HL1.out] at q2
  have hnv0 := X.out.2.nv
  rw [HL1.out] at hnv0
  have HNV := Lib.hid hnv0
  clear hnv0
  go_wp2_with fail
  refine (rank_r HNV.out).mono ?_
  rintro e w1 ⟨rfl, hb⟩
  have Y := Lib.hid (And.intro (X.out.1.trans (hb.mono X.out.1.size)) (X.out.2.later hb))
  have YB := Lib.hid hb
  clear hb q0 q1 q2 q3 q4
  obtain ⟨q0, q1, q2, q3, q4, _, _, _, _, _⟩ := row5 Y.out.2.row
  rw [HK.out] at q0
  rw [HL1.out] at q2
  obtain ⟨d0, d1, d2, d3, d4⟩ := HC.out.1 w1 YB.out
  simp only [Nat.zero_mul, Nat.add_zero] at d0 d1 d2 d3 d4
  go_wp2_with fail
  refine (in_r HX.out.1 (by have := HX.out.2; omega) Y.out.2.hB (HC.out.2 w1 YB.out) 4 (by decide)).mono ?_
  rintro e w2 ⟨rfl, hb⟩
  rw [← HS.out]
  have K := Lib.hid (Y.out.1.trans (hb.mono Y.out.1.size))
  clear hb q0 q1 q2 q3 q4 d0 d1 d2 d3 d4
  go_wp2_with fail
  go_ret
  exact ⟨rfl, K.out⟩
end Go.Proofs.YtobpnjnfpgcpaaaDoor
