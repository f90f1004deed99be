/- Trees: the reader: an expression and what ends it; tell, return; a block. -/
import Derived.Test.YtobpnjnfpgcpaaaGreatDoorPxSignedT
namespace Go.Proofs.YtobpnjnfpgcpaaaGreatDoor
open Go.RowKit Go.My Go.Nd

set_option maxRecDepth 100000 in
set_option maxHeartbeats 2000000 in
theorem ends_t {rb : Nat} {tv : Value} {xs : List To.T} {inn : Bool} {w : World} {ts : List Tx} (k : Nat) (hk : k < 256) (h : Rd w rb tv xs ts inn) :
    Calls Tryz.prog 101 #[.pointer (some ⟨rb, 0, none⟩), .int .u8 (k : Int)] w (Got w rb tv xs inn (ends k [] ts)) := by
  have R0 := RA.start h.lt
  have h0 := h.later (Put.new w #[.int .u8 0, .string ⟨#[]⟩, .slice none 0 0, .slice none 0 0, .slice none 0 0] TN).1
  obtain ⟨c, hc⟩ : ∃ c, c = w.heap.size := ⟨_, rfl⟩
  obtain ⟨wA, hwA⟩ : ∃ wA, wA = w.alloc (.cells #[.int .u8 0, .string ⟨#[]⟩, .slice none 0 0, .slice none 0 0, .slice none 0 0] TN) := ⟨_, rfl⟩
  rw [← hwA] at R0 h0
  rw [← hc] at R0
  have X0 := Lib.hid (And.intro R0 h0)
  clear h R0 h0
  have HK := Lib.hid hk
  clear hk
  go_enter Tryz.func101, Tryz.ntmps101
  go_upto_region 1 with fail
  rw [← hwA, ← hc]
  clear hwA hc
  go_wp2_with fail
  refine (expr_t X0.out.2).mono ?_
  rintro e w1 ⟨hs1, h1, hres⟩
  cases hrd : expr ts with
  | bad q =>
    rw [hrd] at hres h1
    subst hres
    have X1 := Lib.hid (And.intro (X0.out.1.step hs1) (And.intro h1 hrd))
    clear hs1 h1 hrd
    go_wp2_with fail
    refine ⟨rfl, ?_⟩
    unfold ends
    rw [X1.out.2.2]
    exact X1.out.1.bad X1.out.2.1
  | ok x q =>
    rw [hrd] at hres h1
    obtain ⟨v, rfl, hN⟩ := hres
    obtain ⟨a1, d1, a2, d2, a3, d3, rfl⟩ := hN.form
    have hL := LR.one hN hs1.size (Nat.le_refl _)
    obtain ⟨b4, hb4⟩ : ∃ b4, b4 = w1.heap.size := ⟨_, rfl⟩
    have hb2 := (X0.out.1.step hs1).box #[.int .u8 (x.kind : Int), .string (tx x.text), .slice a1 x.l.len d1, .slice a2 x.body.len d2, .slice a3 x.els.len d3]
    have hz2 := (Put.new w1 #[.int .u8 (x.kind : Int), .string (tx x.text), .slice a1 x.l.len d1, .slice a2 x.body.len d2, .slice a3 x.els.len d3] TN).2.2
    obtain ⟨w2, hw2⟩ : ∃ w2, w2 = w1.alloc (.cells #[.int .u8 (x.kind : Int), .string (tx x.text), .slice a1 x.l.len d1, .slice a2 x.body.len d2, .slice a3 x.els.len d3] TN) := ⟨_, rfl⟩
    rw [← hw2] at hL hb2 hz2
    obtain ⟨b5, hb5⟩ : ∃ b5, b5 = b4 + 1 := ⟨_, rfl⟩
    have hb3 := hb2.1.box #[.int .u8 (k : Int), .string ⟨#[]⟩, .slice (some ⟨b4, 0, none⟩) 1 1, .slice none 0 0, .slice none 0 0]
    obtain ⟨w3, hw3⟩ : ∃ w3, w3 = w2.alloc (.cells #[.int .u8 (k : Int), .string ⟨#[]⟩, .slice (some ⟨b4, 0, none⟩) 1 1, .slice none 0 0, .slice none 0 0] TN) := ⟨_, rfl⟩
    rw [← hw3, hz2, ← hb4, ← hb5] at hb3
    have hN3 : NR w2 TN wA.heap.size w2.heap.size (.agg #[.int .u8 (k : Int), .string (tx []), .slice (some ⟨b4, 0, none⟩) 1 1, .slice none 0 0, .slice none 0 0]) ⟨k, [], Ns.of [x], .nil, .nil⟩ := NR.mk HK.out (by decide) (hz2 ▸ hb4 ▸ hL) (LR.nil _ _ _ _) (LR.nil _ _ _ w2.heap.size) (by have := hs1.size; omega) (Nat.le_refl _) (Nat.le_refl _)
    have hB3 := hb3.2.2
    rw [hb5, hb4, ← hz2] at hB3
    have hN4 := NS.later (hN3.ns (S := fun b => c < b ∧ b < b5) fun b q1 q2 => by have := X0.out.1.lt; omega) hB3
    have X3 := Lib.hid (And.intro hb3.1 (And.intro hb3.2.1 (And.intro ((h1.later hb2.2.2).later hB3) (And.intro hN4 (And.intro hrd (show c < b5 by have := X0.out.1.lt; have := hs1.size; omega))))))
    clear hL hb2 hz2 hb3 hN3 hN4 hB3 hs1 h1 hN hrd
    go_upto_region 2 with fail
    rw [← hw2, ← hb4, ← hw3, ← hb5]
    clear hw2 hb4 hb5 hw3
    go_wp2_with fail
    by_cases hh : q.head? = some [59]
    · obtain ⟨q', rfl⟩ := head_form hh
      refine takes_yes X3.out.2.2.1 (by decide) fun w4 hs4 h4 => ?_
      have hrb := X3.out.1.hrb
      have hcb := X3.out.2.2.2.2.2
      have R4 := X3.out.1.step hs4
      have row4 := (hs4.kept (heap_lt X3.out.2.1) (by omega)).trans X3.out.2.1
      have N4 := NS.over X3.out.2.2.2.1 hs4 (fun b hb => by omega)
      obtain ⟨x0, x1, x2, x3, x4, _, _, _, _, _⟩ := row5 row4
      obtain ⟨y0, y1, y2, y3, y4, g0, g1, g2, g3, g4⟩ := row5 R4.row
      have X4 := Lib.hid (And.intro R4 (And.intro h4 N4))
      clear hs4 h4 R4 row4 N4 hh hrb hcb
      go_wp2_with (refine must_yes ?_)
      have hp := put5 X4.out.1.row (.int .u8 (k : Int)) (.string ⟨#[]⟩) (.slice (some ⟨b4, 0, none⟩) 1 1) (.slice none 0 0) (.slice none 0 0)
      refine bodyPost_ret (results_cell1 rfl _ _ _ rfl (nodeVar _ c _ _ _ _ _ hp.row)) rfl ?_
      unfold ends
      rw [X3.out.2.2.2.2.1]
      show Got w rb tv xs inn (must [59] (⟨k, [], Ns.of [x], .nil, .nil⟩ : Nd) ([59] :: q')) _ _
      rw [show must [59] (⟨k, [], Ns.of [x], .nil, .nil⟩ : Nd) ([59] :: q') = .ok ⟨k, [], Ns.of [x], .nil, .nil⟩ q' by unfold must; simp only; rw [if_pos trivial]]
      exact X4.out.1.fin (x := ⟨k, [], Ns.of [x], .nil, .nil⟩) X4.out.2.1 X4.out.2.2 (fun _ h => h.1.1) hp
    · refine takes_no X3.out.2.2.1 [59] (by decide) hh fun w4 hb4 => ?_
      have X4 := Lib.hid (And.intro hh hb4)
      clear hh hb4
      go_wp2_with (refine must_no ?_)
      refine ⟨rfl, ?_⟩
      unfold ends
      rw [X3.out.2.2.2.2.1]
      show Got w rb tv xs inn (must [59] (⟨k, [], Ns.of [x], .nil, .nil⟩ : Nd) q) _ _
      rw [show must [59] (⟨k, [], Ns.of [x], .nil, .nil⟩ : Nd) q = .bad q by
        cases q with
        | nil => rfl
        | cons s q' => unfold must; simp only; rw [if_neg (by intro e; subst e; exact X4.out.1 rfl)]]
      exact (X3.out.1.below X4.out.2).bad (X3.out.2.2.1.later X4.out.2)

set_option maxRecDepth 100000 in
set_option maxHeartbeats 2000000 in
theorem tell_t {rb : Nat} {tv : Value} {xs : List To.T} {inn : Bool} {w : World} {ts : List Tx} (h : Rd w rb tv xs ts inn) :
    Calls Tryz.prog 98 #[.pointer (some ⟨rb, 0, none⟩)] w (Got w rb tv xs inn (ends 12 [] ts)) := by
  have R0 := RA.start h.lt
  have h0 := h.later (Put.new w #[.int .u8 0, .string ⟨#[]⟩, .slice none 0 0, .slice none 0 0, .slice none 0 0] TN).1
  obtain ⟨c, hc⟩ : ∃ c, c = w.heap.size := ⟨_, rfl⟩
  obtain ⟨wA, hwA⟩ : ∃ wA, wA = w.alloc (.cells #[.int .u8 0, .string ⟨#[]⟩, .slice none 0 0, .slice none 0 0, .slice none 0 0] TN) := ⟨_, rfl⟩
  rw [← hwA] at R0 h0
  rw [← hc] at R0
  have X0 := Lib.hid (And.intro R0 h0)
  clear h R0 h0
  go_enter Tryz.func98, Tryz.ntmps98
  go_upto_region 1 with fail
  rw [← hwA, ← hc]
  clear hwA hc
  go_wp2_with fail
  refine (ends_t 12 (by decide) X0.out.2).mono ?_
  rintro e w4 ⟨hs4, h4, hres⟩
  have R4 := X0.out.1.step hs4
  cases hrd : ends 12 [] ts with
  | bad q =>
    rw [hrd] at hres h4
    subst hres
    have X4 := Lib.hid (And.intro R4 (And.intro h4 hrd))
    clear hs4 h4 hrd R4
    go_wp2_with fail
    refine ⟨rfl, ?_⟩
    first | rw [X4.out.2.2] | skip
    exact X4.out.1.bad X4.out.2.1
  | ok x q =>
    rw [hrd] at hres h4
    obtain ⟨v, rfl, hN⟩ := hres
    obtain ⟨a1, d1, a2, d2, a3, d3, rfl⟩ := hN.form
    obtain ⟨y0, y1, y2, y3, y4, g0, g1, g2, g3, g4⟩ := row5 R4.row
    have X4 := Lib.hid (And.intro R4 (And.intro h4 (And.intro hrd (NR.past X0.out.1 hN))))
    clear hs4 h4 hrd R4 hN
    go_wp2_with fail
    have hp := put5 X4.out.1.row (.int .u8 (x.kind : Int)) (.string (tx x.text)) (.slice a1 x.l.len d1) (.slice a2 x.body.len d2) (.slice a3 x.els.len d3)
    refine bodyPost_ret (results_cell1 rfl _ _ _ rfl (nodeVar _ c _ _ _ _ _ hp.row)) rfl ?_
    first | rw [X4.out.2.2.1] | skip
    exact X4.out.1.fin X4.out.2.1 X4.out.2.2.2 (fun _ h => h) hp

set_option maxRecDepth 100000 in
set_option maxHeartbeats 2000000 in
theorem answer_t {rb : Nat} {tv : Value} {xs : List To.T} {inn : Bool} {w : World} {ts : List Tx} (h : Rd w rb tv xs ts inn) :
    Calls Tryz.prog 99 #[.pointer (some ⟨rb, 0, none⟩)] w (Got w rb tv xs inn (ends 11 [] ts)) := by
  have R0 := RA.start h.lt
  have h0 := h.later (Put.new w #[.int .u8 0, .string ⟨#[]⟩, .slice none 0 0, .slice none 0 0, .slice none 0 0] TN).1
  obtain ⟨c, hc⟩ : ∃ c, c = w.heap.size := ⟨_, rfl⟩
  obtain ⟨wA, hwA⟩ : ∃ wA, wA = w.alloc (.cells #[.int .u8 0, .string ⟨#[]⟩, .slice none 0 0, .slice none 0 0, .slice none 0 0] TN) := ⟨_, rfl⟩
  rw [← hwA] at R0 h0
  rw [← hc] at R0
  have X0 := Lib.hid (And.intro R0 h0)
  clear h R0 h0
  go_enter Tryz.func99, Tryz.ntmps99
  go_upto_region 1 with fail
  rw [← hwA, ← hc]
  clear hwA hc
  go_wp2_with fail
  refine (ends_t 11 (by decide) X0.out.2).mono ?_
  rintro e w4 ⟨hs4, h4, hres⟩
  have R4 := X0.out.1.step hs4
  cases hrd : ends 11 [] ts with
  | bad q =>
    rw [hrd] at hres h4
    subst hres
    have X4 := Lib.hid (And.intro R4 (And.intro h4 hrd))
    clear hs4 h4 hrd R4
    go_wp2_with fail
    refine ⟨rfl, ?_⟩
    first | rw [X4.out.2.2] | skip
    exact X4.out.1.bad X4.out.2.1
  | ok x q =>
    rw [hrd] at hres h4
    obtain ⟨v, rfl, hN⟩ := hres
    obtain ⟨a1, d1, a2, d2, a3, d3, rfl⟩ := hN.form
    obtain ⟨y0, y1, y2, y3, y4, g0, g1, g2, g3, g4⟩ := row5 R4.row
    have X4 := Lib.hid (And.intro R4 (And.intro h4 (And.intro hrd (NR.past X0.out.1 hN))))
    clear hs4 h4 hrd R4 hN
    go_wp2_with fail
    have hp := put5 X4.out.1.row (.int .u8 (x.kind : Int)) (.string (tx x.text)) (.slice a1 x.l.len d1) (.slice a2 x.body.len d2) (.slice a3 x.els.len d3)
    refine bodyPost_ret (results_cell1 rfl _ _ _ rfl (nodeVar _ c _ _ _ _ _ hp.row)) rfl ?_
    first | rw [X4.out.2.2.1] | skip
    exact X4.out.1.fin X4.out.2.1 X4.out.2.2.2 (fun _ h => h) hp
end Go.Proofs.YtobpnjnfpgcpaaaGreatDoor
