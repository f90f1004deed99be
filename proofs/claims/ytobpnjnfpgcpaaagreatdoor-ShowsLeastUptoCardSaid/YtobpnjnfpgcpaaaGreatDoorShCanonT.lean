/- Shows: the law's fixed answers. -/
import Derived.Test.YtobpnjnfpgcpaaaGreatDoorShExprET
import Derived.Test.YtobpnjnfpgcpaaaGreatDoorTrA4
import Derived.Test.YtobpnjnfpgcpaaaGreatDoorNdBoxT
import Derived.Test.YtobpnjnfpgcpaaaGreatDoorTrA2
namespace Go.Proofs.YtobpnjnfpgcpaaaGreatDoor
open Go.RowKit Go.My Go.Nd

/-- A text that, parsed and written, is another one. -/
structure Canon (s want : Tx) : Prop where
  ok : (parse wrapI s).2.2 = 0
  is : showP wrapI (parse wrapI s).1 = (want, 0)
  len : s.length ≤ 500000

set_option maxRecDepth 100000 in
set_option maxHeartbeats 4000000 in
theorem canon_t {w : World} {s want : Tx} (h : Canon s want) : Calls Tryz.prog 33 #[.string (bs s), .string (bs want)] w fun e w' => e = .returned (.bool true) ∧ Below w.heap.size w w' := by
  have H := Lib.hid h
  clear h
  go_enter Tryz.func33, Tryz.ntmps33
  go_wp2_with fail
  refine (parse_t (w := w) s).mono ?_
  rintro e w1 ⟨hb1, pv, rfl, hP⟩
  rw [H.out.ok]
  obtain ⟨pl, hpl⟩ : ∃ pl : Nat, pl = (parse wrapI s).2.1 := ⟨_, rfl⟩
  rw [← hpl]
  clear hpl
  have hbk := parse_bulk wrapI s
  have his := H.out.is
  obtain ⟨p, hp⟩ : ∃ p, p = (parse wrapI s).1 := ⟨_, rfl⟩
  rw [← hp] at hP hbk his
  clear hp
  obtain ⟨a1, d1, a2, d2, rfl, X⟩ := PB.of (Below.refl _ w) hb1 hP
  obtain ⟨b4, hb4⟩ : ∃ b4, b4 = w1.heap.size := ⟨_, rfl⟩
  obtain ⟨w2, hw2⟩ : ∃ w2, w2 = w1.alloc (.cells #[.slice a1 p.funcs.length d1, .slice a2 p.body.len d2] 25) := ⟨_, rfl⟩
  rw [← hw2, ← hb4] at X
  obtain ⟨q0, q1⟩ := X.cells
  have HX := Lib.hid X
  have HI := Lib.hid (And.intro his hbk)
  clear hb1 hP X his hbk
  go_upto_region 2 with fail
  rw [← hw2, ← hb4]
  clear hw2 hb4
  go_wp2_with fail
  refine (text_t (p := p) (Nat.le_of_lt HX.out.lt) HX.out.funcs HX.out.nodes (by have := HI.out.2; have := H.out.len; omega)).mono ?_
  rintro e w3 ⟨rfl, hb3⟩
  rw [HI.out.1]
  have K := Lib.hid (HX.out.below.trans (hb3.mono HX.out.below.size))
  clear hb3 q0 q1
  go_wp2_with fail
  go_ret
  exact ⟨by simp, K.out⟩

theorem canon0 : Canon [40, 49, 32, 45, 32, 50, 41, 32, 45, 32, 51, 59] [49, 32, 45, 32, 50, 32, 45, 32, 51, 59, 10] := ⟨by kernel_rfl, by kernel_rfl, by decide⟩
theorem canon1 : Canon [49, 32, 45, 32, 40, 50, 32, 45, 32, 51, 41, 59] [49, 32, 45, 32, 40, 50, 32, 45, 32, 51, 41, 59, 10] := ⟨by kernel_rfl, by kernel_rfl, by decide⟩
theorem canon2 : Canon [40, 45, 120, 41, 94, 50, 59] [40, 45, 120, 41, 94, 50, 59, 10] := ⟨by kernel_rfl, by kernel_rfl, by decide⟩
theorem canon3 : Canon [45, 120, 94, 50, 59] [45, 120, 94, 50, 59, 10] := ⟨by kernel_rfl, by kernel_rfl, by decide⟩
theorem canon4 : Canon [40, 97, 32, 60, 32, 98, 41, 32, 61, 61, 32, 99, 59] [40, 97, 32, 60, 32, 98, 41, 32, 61, 61, 32, 99, 59, 10] := ⟨by kernel_rfl, by kernel_rfl, by decide⟩
theorem canon5 : Canon [110, 111, 116, 40, 97, 32, 43, 32, 98, 41, 59] [110, 111, 116, 32, 40, 97, 32, 43, 32, 98, 41, 59, 10] := ⟨by kernel_rfl, by kernel_rfl, by decide⟩
theorem canon6 : Canon [45, 32, 45, 120, 59] [45, 45, 120, 59, 10] := ⟨by kernel_rfl, by kernel_rfl, by decide⟩
theorem canon7 : Canon [102, 110, 32, 102, 40, 97, 41, 123, 114, 101, 116, 117, 114, 110, 32, 97, 59, 125, 105, 102, 32, 49, 123, 116, 101, 108, 108, 32, 102, 40, 50, 41, 59, 125] [102, 110, 32, 102, 40, 97, 41, 32, 123, 10, 9, 114, 101, 116, 117, 114, 110, 32, 97, 59, 10, 125, 10, 105, 102, 32, 49, 32, 123, 10, 9, 116, 101, 108, 108, 32, 102, 40, 50, 41, 59, 10, 125, 10] := ⟨by kernel_rfl, by kernel_rfl, by decide⟩

def zeroX : Nd := ⟨0, [], .nil, .nil, .nil⟩
theorem zero_nv (w : World) (B : Nat) : NV false w B (.agg #[.int .u8 0, .string ⟨#[]⟩, .slice none 0 0, .slice none 0 0, .slice none 0 0]) zeroX :=
  ⟨none, 0, none, 0, none, 0, rfl, by decide, by decide, nodes_none _ _, nodes_none _ _, nodes_none _ _⟩
theorem zero_e : showE wrapI zeroX = ([], 1) := by kernel_rfl
theorem zero_p : showP wrapI ⟨[], Ns.of [zeroX]⟩ = ([], 1) := by kernel_rfl
theorem none_p : showP wrapI ⟨[], .nil⟩ = ([], 0) := by kernel_rfl
theorem none_p1 : bs (showP wrapI ⟨[], .nil⟩).1 = ⟨#[]⟩ := by rw [none_p]; rfl
theorem none_p2 : (showP wrapI ⟨[], .nil⟩).2 = 0 := by rw [none_p]

set_option maxRecDepth 100000 in
set_option maxHeartbeats 8000000 in
theorem alive10_t {w : World} {Q : Ending → World → Prop} (hQ : ∀ w', Below w.heap.size w w' → Q (.returned (.bool true)) w') : Calls Tryz.prog 13 #[] w Q := by
  have HQ := Lib.hid hQ
  clear hQ
  go_enter Tryz.func13, Tryz.ntmps13
  go_wp2_with fail
  refine (showExpr_t (w := w) (Nat.le_refl _) (zero_nv w _) (by decide)).mono ?_
  rintro e w1 ⟨rfl, hb1⟩
  rw [zero_e]
  have K1 := Lib.hid hb1
  clear hb1
  have hN := nodes_lit 39 (zero_nv w1 w1.heap.size) (Nat.le_refl _)
  have hA := Below.alloc (Below.refl w1.heap.size w1) (Nat.le_refl _) (.cells #[.int .u8 0, .string ⟨#[]⟩, .slice none 0 0, .slice none 0 0, .slice none 0 0] 39)
  have hz : (w1.alloc (.cells #[.int .u8 0, .string ⟨#[]⟩, .slice none 0 0, .slice none 0 0, .slice none 0 0] 39)).heap.size = w1.heap.size + 1 := (Put.new w1 _ _).2.2
  obtain ⟨b1, hb1⟩ : ∃ b1, b1 = w1.heap.size := ⟨_, rfl⟩
  obtain ⟨w2, hw2⟩ : ∃ w2, w2 = w1.alloc (.cells #[.int .u8 0, .string ⟨#[]⟩, .slice none 0 0, .slice none 0 0, .slice none 0 0] 39) := ⟨_, rfl⟩
  rw [← hw2] at hA hz hN
  have K2 := Lib.hid (K1.out.trans (hA.mono K1.out.size))
  rw [← hb1] at hN hz
  have HN := Lib.hid (And.intro hN (show b1 + 1 ≤ w2.heap.size by omega))
  clear hA hN hz
  go_wp2_with fail
  rw [← hb1, ← hw2]
  clear hb1 hw2
  refine (text_t (p := ⟨[], Ns.of [zeroX]⟩) HN.out.2 (funcs_none _ _) HN.out.1 (by decide)).mono ?_
  rintro e w3 ⟨rfl, hb3⟩
  rw [zero_p]
  have K3 := Lib.hid (K2.out.trans (hb3.mono K2.out.size))
  clear hb3
  go_wp2_with fail
  refine (text_t (w := w3) (p := ⟨[], .nil⟩) (Nat.le_refl _) (funcs_none _ _) (nodes_none _ _) (by decide)).mono ?_
  rintro e w4 ⟨rfl, hb4⟩
  rw [none_p1, none_p2]
  have K4 := Lib.hid (K3.out.trans (hb4.mono K3.out.size))
  clear hb4

  go_wp2_with fail
  refine (canon_t canon0).mono ?_
  rintro e w5 ⟨rfl, hb⟩
  have K5 := Lib.hid (K4.out.trans (hb.mono K4.out.size))
  clear hb
  go_wp2_with fail
  refine (canon_t canon1).mono ?_
  rintro e w6 ⟨rfl, hb⟩
  have K6 := Lib.hid (K5.out.trans (hb.mono K5.out.size))
  clear hb
  go_wp2_with fail
  refine (canon_t canon2).mono ?_
  rintro e w7 ⟨rfl, hb⟩
  have K7 := Lib.hid (K6.out.trans (hb.mono K6.out.size))
  clear hb
  go_wp2_with fail
  refine (canon_t canon3).mono ?_
  rintro e w8 ⟨rfl, hb⟩
  have K8 := Lib.hid (K7.out.trans (hb.mono K7.out.size))
  clear hb
  go_wp2_with fail
  refine (canon_t canon4).mono ?_
  rintro e w9 ⟨rfl, hb⟩
  have K9 := Lib.hid (K8.out.trans (hb.mono K8.out.size))
  clear hb
  go_wp2_with fail
  refine (canon_t canon5).mono ?_
  rintro e w10 ⟨rfl, hb⟩
  have K10 := Lib.hid (K9.out.trans (hb.mono K9.out.size))
  clear hb
  go_wp2_with fail
  refine (canon_t canon6).mono ?_
  rintro e w11 ⟨rfl, hb⟩
  have K11 := Lib.hid (K10.out.trans (hb.mono K10.out.size))
  clear hb
  go_wp2_with fail
  refine (canon_t canon7).mono ?_
  rintro e w12 ⟨rfl, hb⟩
  have K12 := Lib.hid (K11.out.trans (hb.mono K11.out.size))
  clear hb
  go_wp2_with fail
  exact HQ.out _ K12.out
end Go.Proofs.YtobpnjnfpgcpaaaGreatDoor
