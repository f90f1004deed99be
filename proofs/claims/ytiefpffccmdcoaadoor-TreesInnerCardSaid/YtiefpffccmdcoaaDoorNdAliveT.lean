/- Trees: the law's fixed answers. -/
import Derived.Test.YtiefpffccmdcoaaDoorNdOneT
import Derived.Test.YtiefpffccmdcoaaDoorPsLitT
namespace Go.Proofs.YtiefpffccmdcoaaDoor
open Go.RowKit Go.My Go.Nd

set_option maxRecDepth 100000 in
set_option maxHeartbeats 8000000 in
theorem alive9_t {w : World} {Q : Ending → World → Prop} (hQ : ∀ w', Below w.heap.size w w' → Q (.returned (.bool true)) w') : Calls Tryd.prog 14 #[] w Q := by
  have HQ := Lib.hid hQ
  clear hQ
  go_enter Tryd.func14, Tryd.ntmps14
  go_wp2_with fail
  refine (parse_t (w := w) lz).mono ?_
  rintro e w1 ⟨hb1, pv, rfl, hP⟩
  rw [lz_is] at hP ⊢
  obtain ⟨m, v1, v2, rfl, h1, h2, h3, h4⟩ := hP
  obtain ⟨a1, d1, rfl⟩ := h3.form
  have hNs := h4.nodes (S := fun _ => True) fun b q1 q2 => trivial
  obtain ⟨a0, cp, rfl, hr, hat⟩ := hNs.open_
  obtain ⟨st, hst⟩ : ∃ st : Nd, st = ⟨9, [], Ns.of [leaf 2 [97]], .nil, Ns.of [⟨13, [], Ns.of [leaf 2 [98]], .nil, .nil⟩]⟩ := ⟨_, rfl⟩
  simp only [← hst] at hat hr ⊢
  have hi0 : (Ns.of [st]).items = [st] := Ns.items_of _
  obtain ⟨b, off, u1, u2, u3, rfl, hS, hN⟩ := hat 0 (by rw [hi0]; simp)
  simp only [hi0, List.getElem_cons_zero, Nat.zero_mul, Nat.add_zero] at hN
  obtain ⟨z2, f2, rfl⟩ := hN.body.form
  obtain ⟨z3, f3, rfl⟩ := hN.els.form
  have n0 := hN.d0
  have n3 := hN.d3
  have n4 := hN.d4
  rw [show st.kind = 9 by rw [hst]] at n0
  rw [show st.body.len = 0 by rw [hst]; rfl] at n3
  rw [show st.els.len = 1 by rw [hst]; rfl] at n4
  have hlen0 : (Ns.of [st]).items.length = 1 := by rw [hi0]; rfl
  rw [hlen0]
  dsimp only [List.length_nil]
  obtain ⟨hA2, hn2, hz2⟩ := Put.new w1 #[.slice a1 0 d1, .slice (some ⟨b, off, none⟩) 1 cp] 25
  obtain ⟨b4, hb4⟩ : ∃ b4, b4 = w1.heap.size := ⟨_, rfl⟩
  obtain ⟨w2, hw2⟩ : ∃ w2, w2 = w1.alloc (.cells #[.slice a1 0 d1, .slice (some ⟨b, off, none⟩) 1 cp] 25) := ⟨_, rfl⟩
  rw [← hw2] at hA2 hn2 hz2
  rw [← hb4] at hn2
  have cell2 : ∀ b o u, w1.cell? ⟨b, o, none⟩ = some u → w2.cell? ⟨b, o, none⟩ = some u := fun b o u h => (World.cell?_of_block (hA2.block b (World.block_lt_of_cell? w1 _ h))).trans h
  have n0 := cell2 _ _ _ n0
  have n3 := cell2 _ _ _ n3
  have n4 := cell2 _ _ _ n4
  have p0 := cell_of_row w2 b4 0 _ _ _ hn2
  have p1 := cell_of_row w2 b4 1 _ _ _ hn2
  simp at p0 p1
  have K2 := Lib.hid (hb1.trans (hA2.mono hb1.size))
  clear hb1 h1 h2 h3 h4 hNs hr hat hi0 hN hlen0 hA2 hn2 hz2 cell2 hS hst
  go_upto_region 2 with fail
  rw [← hw2, ← hb4]
  clear hw2 hb4
  go_wp2_with fail
  refine same_t (s := la) (s' := lb) la_one lb_one same_ab fun w3 hb => ?_
  have K3 := Lib.hid (K2.out.trans (hb.mono K2.out.size))
  clear hb
  go_wp2_with fail
  refine same_t (s := lc) (s' := ld) lc_one ld_one same_cd fun w4 hb => ?_
  have K4 := Lib.hid (K3.out.trans (hb.mono K3.out.size))
  clear hb
  go_wp2_with fail
  refine same_t (s := lc) (s' := le) lc_one le_one same_ce fun w5 hb => ?_
  have K5 := Lib.hid (K4.out.trans (hb.mono K4.out.size))
  clear hb
  go_wp2_with fail
  refine fails_t lf_bad fun w6 hb => ?_
  have K6 := Lib.hid (K5.out.trans (hb.mono K5.out.size))
  clear hb
  go_wp2_with fail
  refine fails_t lg_bad fun w7 hb => ?_
  have K7 := Lib.hid (K6.out.trans (hb.mono K6.out.size))
  clear hb
  go_wp2_with fail
  refine fails_t lh_bad fun w8 hb => ?_
  have K8 := Lib.hid (K7.out.trans (hb.mono K7.out.size))
  clear hb
  go_wp2_with fail
  refine fails_t li_bad fun w9 hb => ?_
  have K9 := Lib.hid (K8.out.trans (hb.mono K8.out.size))
  clear hb
  go_wp2_with fail
  refine fails_t lj_bad fun w10 hb => ?_
  have K10 := Lib.hid (K9.out.trans (hb.mono K9.out.size))
  clear hb
  go_wp2_with fail
  exact HQ.out _ K10.out
end Go.Proofs.YtiefpffccmdcoaaDoor
