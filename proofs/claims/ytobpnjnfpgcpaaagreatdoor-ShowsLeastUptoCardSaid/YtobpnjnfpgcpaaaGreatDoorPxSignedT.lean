/- Trees: the reader: what has signs ahead; so expressions as a whole. -/
import Derived.Test.YtobpnjnfpgcpaaaGreatDoorPxAtomT
namespace Go.Proofs.YtobpnjnfpgcpaaaGreatDoor
open Go.RowKit Go.My Go.Nd

set_option maxRecDepth 100000 in
set_option maxHeartbeats 2000000 in
theorem signed_neg {rb : Nat} {tv : Value} {xs : List To.T} {inn : Bool} {n : Nat} (hsg : Reads 137 #[.pointer (some ⟨rb, 0, none⟩)] rb tv xs inn (fun _ => True) n sg) {w : World} {r : List Tx} (hn : r.length ≤ n) (h : Rd w rb tv xs ([45] :: r) inn) :
    Calls Tryz.prog 137 #[.pointer (some ⟨rb, 0, none⟩)] w (Got w rb tv xs inn ((sg r).map fun x => ⟨6, [], Ns.of [x], .nil, .nil⟩)) := by
  have R0 := RA.start h.lt
  have h0 := h.later (Put.new w #[.int .u8 0, .string ⟨#[]⟩, .slice none 0 0, .slice none 0 0, .slice none 0 0] TN).1
  obtain ⟨c, hc⟩ : ∃ c, c = w.heap.size := ⟨_, rfl⟩
  obtain ⟨wA, hwA⟩ : ∃ wA, wA = w.alloc (.cells #[.int .u8 0, .string ⟨#[]⟩, .slice none 0 0, .slice none 0 0, .slice none 0 0] TN) := ⟨_, rfl⟩
  rw [← hwA] at R0 h0
  rw [← hc] at R0
  have X0 := Lib.hid (And.intro R0 h0)
  clear h R0 h0
  have HE := Lib.hid (And.intro hsg hn)
  clear hsg hn
  go_enter Tryz.func137, Tryz.ntmps137
  go_upto_region 1 with fail
  rw [← hwA, ← hc]
  clear hwA hc
  go_wp2_with fail
  have X1 := Lib.hid X0.out
  refine takes_yes X1.out.2 (by decide) fun w2 hs2 h2 => ?_
  have X2 := Lib.hid (And.intro (X1.out.1.step hs2) h2)
  clear hs2 h2
  go_wp2_with fail
  refine (HE.out.1 w2 r HE.out.2 trivial X2.out.2).mono ?_
  rintro e w3 ⟨hs3, h3, hres⟩
  cases hrd : sg r with
  | bad q =>
    rw [hrd] at hres h3
    subst hres
    have X3 := Lib.hid (And.intro (X2.out.1.step hs3) (And.intro h3 hrd))
    clear hs3 h3 hrd
    go_wp2_with fail
    refine ⟨rfl, ?_⟩
    first | rw [X3.out.2.2] | skip
    exact X3.out.1.bad X3.out.2.1
  | ok x q =>
    rw [hrd] at hres h3
    obtain ⟨v, rfl, hN⟩ := hres
    obtain ⟨a1, d1, a2, d2, a3, d3, rfl⟩ := hN.form
    have hb := (X2.out.1.step hs3).box #[.int .u8 (x.kind : Int), .string (tx x.text), .slice a1 x.l.len d1, .slice a2 x.body.len d2, .slice a3 x.els.len d3]
    have hL := LR.one hN hs3.size (Nat.le_refl _)
    have hz := (Put.new w3 #[.int .u8 (x.kind : Int), .string (tx x.text), .slice a1 x.l.len d1, .slice a2 x.body.len d2, .slice a3 x.els.len d3] TN).2.2
    obtain ⟨y0, y1, y2, y3, y4, g0, g1, g2, g3, g4⟩ := row5 hb.1.row
    have hN4 : NR (w3.alloc (.cells #[.int .u8 (x.kind : Int), .string (tx x.text), .slice a1 x.l.len d1, .slice a2 x.body.len d2, .slice a3 x.els.len d3] TN)) TN w2.heap.size (w3.alloc (.cells #[.int .u8 (x.kind : Int), .string (tx x.text), .slice a1 x.l.len d1, .slice a2 x.body.len d2, .slice a3 x.els.len d3] TN)).heap.size (.agg #[.int .u8 ((6 : Nat) : Int), .string (tx []), .slice (some ⟨w3.heap.size, 0, none⟩) 1 1, .slice none 0 0, .slice none 0 0]) ⟨6, [], Ns.of [x], .nil, .nil⟩ := NR.mk (by decide) (by decide) (hz ▸ hL) (LR.nil _ _ _ _) (LR.nil _ _ _ (w3.alloc (.cells #[.int .u8 (x.kind : Int), .string (tx x.text), .slice a1 x.l.len d1, .slice a2 x.body.len d2, .slice a3 x.els.len d3] TN)).heap.size) (by have := hs3.size; omega) (Nat.le_refl _) (Nat.le_refl _)
    have X4 := Lib.hid (And.intro hb.1 (And.intro (h3.later hb.2.2) (And.intro (NR.past X2.out.1 hN4) hrd)))
    clear hs3 h3 hN hb hL hN4 hz hrd
    go_wp2_with fail
    have hp := put5 X4.out.1.row (.int .u8 6) (.string ⟨#[]⟩) (.slice (some ⟨w3.heap.size, 0, none⟩) 1 1) (.slice none 0 0) (.slice none 0 0)
    refine bodyPost_ret (results_cell1 rfl _ _ _ rfl (nodeVar _ c _ _ _ _ _ hp.row)) rfl ?_
    first | rw [X4.out.2.2.2] | skip
    exact X4.out.1.fin (x := ⟨6, [], Ns.of [x], .nil, .nil⟩) X4.out.2.1 X4.out.2.2.1 (fun _ h => h) hp

set_option maxRecDepth 100000 in
set_option maxHeartbeats 2000000 in
theorem signed_not {rb : Nat} {tv : Value} {xs : List To.T} {inn : Bool} {n : Nat} (hsg : Reads 137 #[.pointer (some ⟨rb, 0, none⟩)] rb tv xs inn (fun _ => True) n sg) {w : World} {r : List Tx} (hn : r.length ≤ n) (h : Rd w rb tv xs ([110, 111, 116] :: r) inn) :
    Calls Tryz.prog 137 #[.pointer (some ⟨rb, 0, none⟩)] w (Got w rb tv xs inn ((sg r).map fun x => ⟨7, [], Ns.of [x], .nil, .nil⟩)) := by
  have R0 := RA.start h.lt
  have h0 := h.later (Put.new w #[.int .u8 0, .string ⟨#[]⟩, .slice none 0 0, .slice none 0 0, .slice none 0 0] TN).1
  obtain ⟨c, hc⟩ : ∃ c, c = w.heap.size := ⟨_, rfl⟩
  obtain ⟨wA, hwA⟩ : ∃ wA, wA = w.alloc (.cells #[.int .u8 0, .string ⟨#[]⟩, .slice none 0 0, .slice none 0 0, .slice none 0 0] TN) := ⟨_, rfl⟩
  rw [← hwA] at R0 h0
  rw [← hc] at R0
  have X0 := Lib.hid (And.intro R0 h0)
  clear h R0 h0
  have HE := Lib.hid (And.intro hsg hn)
  clear hsg hn
  go_enter Tryz.func137, Tryz.ntmps137
  go_upto_region 1 with fail
  rw [← hwA, ← hc]
  clear hwA hc
  go_wp2_with fail
  refine takes_no X0.out.2 [45] (by decide) (by simp) fun w1 hb1 => ?_
  have X1 := Lib.hid (And.intro (X0.out.1.below hb1) (X0.out.2.later hb1))
  clear hb1
  go_wp2_with fail
  refine takes_yes X1.out.2 (by decide) fun w2 hs2 h2 => ?_
  have X2 := Lib.hid (And.intro (X1.out.1.step hs2) h2)
  clear hs2 h2
  go_wp2_with fail
  refine (HE.out.1 w2 r HE.out.2 trivial X2.out.2).mono ?_
  rintro e w3 ⟨hs3, h3, hres⟩
  cases hrd : sg r with
  | bad q =>
    rw [hrd] at hres h3
    subst hres
    have X3 := Lib.hid (And.intro (X2.out.1.step hs3) (And.intro h3 hrd))
    clear hs3 h3 hrd
    go_wp2_with fail
    refine ⟨rfl, ?_⟩
    first | rw [X3.out.2.2] | skip
    exact X3.out.1.bad X3.out.2.1
  | ok x q =>
    rw [hrd] at hres h3
    obtain ⟨v, rfl, hN⟩ := hres
    obtain ⟨a1, d1, a2, d2, a3, d3, rfl⟩ := hN.form
    have hb := (X2.out.1.step hs3).box #[.int .u8 (x.kind : Int), .string (tx x.text), .slice a1 x.l.len d1, .slice a2 x.body.len d2, .slice a3 x.els.len d3]
    have hL := LR.one hN hs3.size (Nat.le_refl _)
    have hz := (Put.new w3 #[.int .u8 (x.kind : Int), .string (tx x.text), .slice a1 x.l.len d1, .slice a2 x.body.len d2, .slice a3 x.els.len d3] TN).2.2
    obtain ⟨y0, y1, y2, y3, y4, g0, g1, g2, g3, g4⟩ := row5 hb.1.row
    have hN4 : NR (w3.alloc (.cells #[.int .u8 (x.kind : Int), .string (tx x.text), .slice a1 x.l.len d1, .slice a2 x.body.len d2, .slice a3 x.els.len d3] TN)) TN w2.heap.size (w3.alloc (.cells #[.int .u8 (x.kind : Int), .string (tx x.text), .slice a1 x.l.len d1, .slice a2 x.body.len d2, .slice a3 x.els.len d3] TN)).heap.size (.agg #[.int .u8 ((7 : Nat) : Int), .string (tx []), .slice (some ⟨w3.heap.size, 0, none⟩) 1 1, .slice none 0 0, .slice none 0 0]) ⟨7, [], Ns.of [x], .nil, .nil⟩ := NR.mk (by decide) (by decide) (hz ▸ hL) (LR.nil _ _ _ _) (LR.nil _ _ _ (w3.alloc (.cells #[.int .u8 (x.kind : Int), .string (tx x.text), .slice a1 x.l.len d1, .slice a2 x.body.len d2, .slice a3 x.els.len d3] TN)).heap.size) (by have := hs3.size; omega) (Nat.le_refl _) (Nat.le_refl _)
    have X4 := Lib.hid (And.intro hb.1 (And.intro (h3.later hb.2.2) (And.intro (NR.past X2.out.1 hN4) hrd)))
    clear hs3 h3 hN hb hL hN4 hz hrd
    go_wp2_with fail
    have hp := put5 X4.out.1.row (.int .u8 7) (.string ⟨#[]⟩) (.slice (some ⟨w3.heap.size, 0, none⟩) 1 1) (.slice none 0 0) (.slice none 0 0)
    refine bodyPost_ret (results_cell1 rfl _ _ _ rfl (nodeVar _ c _ _ _ _ _ hp.row)) rfl ?_
    first | rw [X4.out.2.2.2] | skip
    exact X4.out.1.fin (x := ⟨7, [], Ns.of [x], .nil, .nil⟩) X4.out.2.1 X4.out.2.2.1 (fun _ h => h) hp

/-- An atom, and what it is raised to. -/
def sgPow (x : Nd) (r : List Tx) : R Nd := match r with
  | [] => .ok x []
  | p :: r'' => if p = [94] then (number r'').map (bin [94] x) else .ok x (p :: r'')
theorem sgPow_no (x : Nd) (r : List Tx) (h : r.head? ≠ some [94]) : sgPow x r = .ok x r := by
  cases r with
  | nil => rfl
  | cons p r' => unfold sgPow; simp only; rw [if_neg (by intro e; subst e; exact h rfl)]
theorem sgPow_yes (x : Nd) (r : List Tx) : sgPow x ([94] :: r) = (number r).map (bin [94] x) := by unfold sgPow; simp only; rw [if_pos trivial]

set_option maxRecDepth 100000 in
set_option maxHeartbeats 4000000 in
theorem signed_atom {rb : Nat} {tv : Value} {xs : List To.T} {inn : Bool} {n : Nat} (hat : Reads 148 #[.pointer (some ⟨rb, 0, none⟩)] rb tv xs inn (fun _ => True) n (atom expr)) {w : World} {ts : List Tx} (hn : ts.length ≤ n) (k1 : ts.head? ≠ some [45]) (k2 : ts.head? ≠ some [110, 111, 116]) (h : Rd w rb tv xs ts inn) :
    Calls Tryz.prog 137 #[.pointer (some ⟨rb, 0, none⟩)] w (Got w rb tv xs inn ((atom expr ts).then_ sgPow)) := by
  have R0 := RA.start h.lt
  have h0 := h.later (Put.new w #[.int .u8 0, .string ⟨#[]⟩, .slice none 0 0, .slice none 0 0, .slice none 0 0] TN).1
  obtain ⟨c, hc⟩ : ∃ c, c = w.heap.size := ⟨_, rfl⟩
  obtain ⟨wA, hwA⟩ : ∃ wA, wA = w.alloc (.cells #[.int .u8 0, .string ⟨#[]⟩, .slice none 0 0, .slice none 0 0, .slice none 0 0] TN) := ⟨_, rfl⟩
  rw [← hwA] at R0 h0
  rw [← hc] at R0
  have X0 := Lib.hid (And.intro R0 h0)
  clear h R0 h0
  have HE := Lib.hid (And.intro hat (And.intro hn (And.intro k1 k2)))
  clear hat hn k1 k2
  go_enter Tryz.func137, Tryz.ntmps137
  go_upto_region 1 with fail
  rw [← hwA, ← hc]
  clear hwA hc
  go_wp2_with fail
  refine takes_no X0.out.2 [45] (by decide) HE.out.2.2.1 fun w1 hb1 => ?_
  have X1 := Lib.hid (And.intro (X0.out.1.below hb1) (X0.out.2.later hb1))
  clear hb1
  go_wp2_with fail
  refine takes_no X1.out.2 [110, 111, 116] (by decide) HE.out.2.2.2 fun w2 hb2 => ?_
  have X2 := Lib.hid (And.intro (X1.out.1.below hb2) (X1.out.2.later hb2))
  clear hb2
  go_wp2_with fail
  refine (HE.out.1 w2 ts HE.out.2.1 trivial X2.out.2).mono ?_
  rintro e w3 ⟨hs3, h3, hres⟩
  cases hrd : atom expr ts with
  | bad q =>
    rw [hrd] at hres h3
    subst hres
    have X3 := Lib.hid (And.intro (X2.out.1.step hs3) (And.intro h3 hrd))
    clear hs3 h3 hrd
    go_wp2_with fail
    refine ⟨rfl, ?_⟩
    first | rw [X3.out.2.2] | skip
    exact X3.out.1.bad X3.out.2.1
  | ok x q =>
    rw [hrd] at hres h3
    obtain ⟨v, rfl, hN⟩ := hres
    obtain ⟨a1, d1, a2, d2, a3, d3, rfl⟩ := hN.form
    have hb := (X2.out.1.step hs3).box #[.int .u8 (x.kind : Int), .string (tx x.text), .slice a1 x.l.len d1, .slice a2 x.body.len d2, .slice a3 x.els.len d3]
    obtain ⟨b3, hb3⟩ : ∃ b3, b3 = w3.heap.size := ⟨_, rfl⟩
    obtain ⟨w4, hw4⟩ : ∃ w4, w4 = w3.alloc (.cells #[.int .u8 (x.kind : Int), .string (tx x.text), .slice a1 x.l.len d1, .slice a2 x.body.len d2, .slice a3 x.els.len d3] TN) := ⟨_, rfl⟩
    rw [← hw4] at hb
    have hNS : NS w3 TN (fun b => c < b ∧ b < b3) _ x := hN.ns fun b q1 q2 => by have := X2.out.1.lt; omega
    have X4 := Lib.hid (And.intro hb.1 (And.intro (hb3 ▸ hb.2.1) (And.intro (h3.later hb.2.2) (And.intro (NS.later hNS hb.2.2) (And.intro hrd (show c < b3 by have := X2.out.1.lt; have := hs3.size; omega))))))
    clear hb hs3 h3 hN hNS hrd
    go_upto_region 6 with fail
    rw [← hw4, ← hb3]
    clear hw4 hb3
    go_wp2_with fail
    by_cases hh : q.head? = some [94]
    · obtain ⟨q', rfl⟩ := head_form hh
      refine takes_yes X4.out.2.2.1 (by decide) fun w5 hs5 h5 => ?_
      have hrb := X4.out.1.hrb
      have hcb := X4.out.2.2.2.2.2
      have R5 := X4.out.1.step hs5
      have row5' := (hs5.kept (heap_lt X4.out.2.1) (by omega)).trans X4.out.2.1
      have N5 := NS.over X4.out.2.2.2.1 hs5 (fun b hb => by omega)
      obtain ⟨x0, x1, x2, x3, x4, e0, e1, e2, e3, e4⟩ := row5 row5'
      have X5 := Lib.hid (And.intro R5 (And.intro h5 (And.intro row5' (NS.mono (U := fun b => c < b ∧ b < b3) N5 fun b hb _ => hb.1))))
      clear hs5 h5 R5 row5' N5 hh hrb hcb
      go_upto_region 7 with fail
      have HAFT := Lib.hid (fun (w6 : World) (hs6 : Step w5.drew w6 (some rb)) => ((hs6.kept (c := b3) (heap_lt X5.out.2.2.1) (by have := X5.out.1.hrb; have := X4.out.2.2.2.2.2; omega)).trans X5.out.2.2.1))
      go_region_law (first
        | (go_simp; go_at_call 147; (refine bin_t X6.out.2.2.1 X6.out.2.2.2.1 X6.out.2.2.2.2.1 (s := [94]) (by decide) ?_); intro v7 w7 hb7 hN7; obtain ⟨p1, q1, p2, q2, p3, q3, rfl⟩ := hN7.form; have hrow7 := (hb7.block b3 (heap_lt X6.out.2.2.2.2.2)).trans X6.out.2.2.2.2.2; obtain ⟨x0'', x1'', x2'', x3'', x4'', g0'', g1'', g2'', g3'', g4''⟩ := row5 hrow7; have X7 := Lib.hid (And.intro hb7 (And.intro hN7 hrow7)); clear hb7 hN7 hrow7)
        | (go_simp; go_at_call 149; refine (rnum_t (X5.out.2.1.later (Below.refl _ w5).drew)).mono ?_; rintro e w6 ⟨hs6, h6, hres⟩; cases hrd : number q'; rotate_left 1; (rename_i u; rw [hrd] at hres h6; subst hres; refine ⟨rfl, ?_⟩; rw [X4.out.2.2.2.2.1]; show Got w rb tv xs inn (sgPow x ([94] :: q')) _ _; rw [sgPow_yes, hrd]; exact ((X5.out.1.below (Below.refl _ w5).drew).step hs6).bad h6); rename_i y u; rw [hrd] at hres h6; obtain ⟨v6, rfl, hN6⟩ := hres; obtain ⟨o1, i1, o2, i2, o3, i3, rfl⟩ := hN6.form; have hrow6 := HAFT.out w6 hs6; obtain ⟨x0', x1', x2', x3', x4', g0', g1', g2', g3', g4'⟩ := row5 hrow6; have X6 := Lib.hid (show Step w5.drew w6 (some rb) ∧ (number q' = .ok y u ∧ Rd w6 rb tv xs u inn) ∧ NS w6 TN (fun b => (c < b ∧ b < b3) ∧ b < w5.drew.heap.size) (.agg #[.int .u8 (x.kind : Int), .string (tx x.text), .slice a1 x.l.len d1, .slice a2 x.body.len d2, .slice a3 x.els.len d3]) x ∧ NS w6 TN (fun b => w5.drew.heap.size ≤ b) (.agg #[.int .u8 (y.kind : Int), .string (tx y.text), .slice o1 y.l.len i1, .slice o2 y.body.len i2, .slice o3 y.els.len i3]) y ∧ (∀ b, ((c < b ∧ b < b3) ∧ b < w5.drew.heap.size) → w5.drew.heap.size ≤ b → False) ∧ w6.heap[b3]? = some (.cells #[.int .u8 (x.kind : Int), .string (tx x.text), .slice a1 x.l.len d1, .slice a2 x.body.len d2, .slice a3 x.els.len d3] TN (0, 0)) from ⟨hs6, ⟨hrd, h6⟩, NS.over (NS.later X5.out.2.2.2 (Below.refl _ w5).drew) hs6 (fun b hb => by have := X4.out.1.hrb; omega), hN6.ns (fun b h1 _ => h1), fun b h1 h2 => by omega, hrow6⟩); clear hs6 h6 hN6 hrd hrow6))
      all_goals
        have hp7 := put5 X7.out.2.2 (.int .u8 ((bin [94] x y).kind : Int)) (.string (tx (bin [94] x y).text)) (.slice p1 (bin [94] x y).l.len q1) (.slice p2 (bin [94] x y).body.len q2) (.slice p3 (bin [94] x y).els.len q3)
        have R7 := ((X5.out.1.below (Below.refl _ w5).drew).step X6.out.1).below X7.out.1
        have R8 := R7.put hp7 X4.out.2.2.2.2.2
        have h8 := (X6.out.2.1.2.later X7.out.1).put hp7 (by have := X4.out.2.2.2.2.2; have := X4.out.1.hrb; omega)
        have b1 : b3 < w5.drew.heap.size := heap_lt X5.out.2.2.1
        have b2 := X6.out.1.size
        have b4 := X4.out.2.2.2.2.2
        have N8 := NS.frame (NS.mono (U := fun b => c < b ∧ b ≠ b3) X7.out.2.1 fun b hb _ => by
          rcases hb with h | h | h
          · exact ⟨h.1.1, by omega⟩
          · exact ⟨by omega, by omega⟩
          · exact ⟨by omega, by omega⟩) (fun b hb _ => hp7.oth b hb.2)
        have hrow8 := hp7.row
        obtain ⟨w8, hw8⟩ : ∃ w8, w8 = ((((w7.setCell ⟨b3, 0, none⟩ (.int .u8 ((bin [94] x y).kind : Int))).setCell ⟨b3, 1, none⟩ (.string (tx (bin [94] x y).text))).setCell ⟨b3, 2, none⟩ (.slice p1 (bin [94] x y).l.len q1)).setCell ⟨b3, 3, none⟩ (.slice p2 (bin [94] x y).body.len q2)).setCell ⟨b3, 4, none⟩ (.slice p3 (bin [94] x y).els.len q3) := ⟨_, rfl⟩
        rw [← hw8] at R8 h8 N8 hrow8 ⊢
        obtain ⟨z0, z1, z2, z3, z4, _, _, _, _, _⟩ := row5 hrow8
        obtain ⟨y0, y1, y2, y3, y4, f0, f1, f2, f3, f4⟩ := row5 R8.row
        have X8 := Lib.hid (And.intro R8 (And.intro h8 (And.intro N8 X6.out.2.1.1)))
        clear hw8 hp7 R7 R8 h8 N8 hrow8 b1 b2 b4 x0 x1 x2 x3 x4 x0' x1' x2' x3' x4' x0'' x1'' x2'' x3'' x4'' e0 e1 e2 e3 e4 g0' g1' g2' g3' g4' g0'' g1'' g2'' g3'' g4''
        generalize hbn : bin [94] x y = z at *
        have HBN := Lib.hid hbn
        clear hbn X7 X6
        go_wp2_with fail
        have hp := put5 X8.out.1.row (.int .u8 (z.kind : Int)) (.string (tx z.text)) (.slice p1 z.l.len q1) (.slice p2 z.body.len q2) (.slice p3 z.els.len q3)
        refine bodyPost_ret (results_cell1 rfl _ _ _ rfl (nodeVar _ c _ _ _ _ _ hp.row)) rfl ?_
        rw [X4.out.2.2.2.2.1]
        show Got w rb tv xs inn (sgPow x ([94] :: q')) _ _
        rw [sgPow_yes, X8.out.2.2.2]
        show Got w rb tv xs inn (.ok (bin [94] x y) u) _ _
        rw [HBN.out]
        exact X8.out.1.fin X8.out.2.1 X8.out.2.2.1 (fun _ h => h.1) hp
    · refine takes_no X4.out.2.2.1 [94] (by decide) hh fun w5 hb5 => ?_
      have R5 := X4.out.1.below hb5
      have row5' := (hb5.block _ (heap_lt X4.out.2.1)).trans X4.out.2.1
      obtain ⟨x0, x1, x2, x3, x4, _, _, _, _, _⟩ := row5 row5'
      obtain ⟨y0, y1, y2, y3, y4, g0, g1, g2, g3, g4⟩ := row5 R5.row
      have X5 := Lib.hid (And.intro R5 (And.intro (X4.out.2.2.1.later hb5) (And.intro hh (NS.later X4.out.2.2.2.1 hb5))))
      clear hb5 R5 row5' hh
      go_wp2_with fail
      have hp := put5 X5.out.1.row (.int .u8 (x.kind : Int)) (.string (tx x.text)) (.slice a1 x.l.len d1) (.slice a2 x.body.len d2) (.slice a3 x.els.len d3)
      refine bodyPost_ret (results_cell1 rfl _ _ _ rfl (nodeVar _ c _ _ _ _ _ hp.row)) rfl ?_
      rw [X4.out.2.2.2.2.1]
      show Got w rb tv xs inn (sgPow x q) _ _
      rw [sgPow_no x q X5.out.2.2.1]
      exact X5.out.1.fin X5.out.2.1 X5.out.2.2.2 (fun _ h => h.1) hp

/-- What has signs ahead, however many tokens there are. -/
theorem signed_r {rb : Nat} {tv : Value} {xs : List To.T} {inn : Bool} : ∀ n, Reads 137 #[.pointer (some ⟨rb, 0, none⟩)] rb tv xs inn (fun _ => True) n sg := by
  have step : ∀ n (ts : List Tx) (w : World), ts.length ≤ n → (∀ r s, ts = s :: r → Reads 137 #[.pointer (some ⟨rb, 0, none⟩)] rb tv xs inn (fun _ => True) r.length sg) → Rd w rb tv xs ts inn → Calls Tryz.prog 137 #[.pointer (some ⟨rb, 0, none⟩)] w (Got w rb tv xs inn (sg ts)) := by
    intro n ts w hn ih h
    cases ts with
    | nil =>
      exact signed_atom (n := 0) (fun w' us hu _ h' => by
        have : us = [] := List.eq_nil_of_length_eq_zero (by omega)
        subst this
        exact atom_num (by simp) (by simp) (by decide) h') (Nat.zero_le _) (by simp) (by simp) h
    | cons s r =>
      have hs := ih r s rfl
      rw [sg_cons]
      by_cases h1 : s = [45]
      · subst h1; rw [if_pos rfl]; exact signed_neg hs (Nat.le_refl _) h
      · rw [if_neg h1]
        by_cases h2 : s = [110, 111, 116]
        · subst h2; rw [if_pos rfl]; exact signed_not hs (Nat.le_refl _) h
        · rw [if_neg h2]
          exact signed_atom (n := r.length + 1) (atom_r (expr_r hs)) (by simp) (by simpa using h1) (by simpa using h2) h
  intro n
  induction n with
  | zero =>
    intro w ts hn _ h
    have : ts = [] := List.eq_nil_of_length_eq_zero (by omega)
    subst this
    exact step 0 [] w (Nat.le_refl _) (fun r s e => by cases e) h
  | succ n ih =>
    intro w ts hn _ h
    refine step (n + 1) ts w hn (fun r s e => ?_) h
    subst e
    intro w' us hu hK h'
    exact ih w' us (by rw [List.length_cons] at hn; omega) hK h'
/-- AN EXPRESSION. -/
theorem expr_t {rb : Nat} {tv : Value} {xs : List To.T} {inn : Bool} {w : World} {ts : List Tx} (h : Rd w rb tv xs ts inn) : Calls Tryz.prog 131 #[.pointer (some ⟨rb, 0, none⟩)] w (Got w rb tv xs inn (expr ts)) :=
  expr_r (signed_r ts.length) w ts (Nat.le_refl _) trivial h
end Go.Proofs.YtobpnjnfpgcpaaaGreatDoor
