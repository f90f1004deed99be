/- Trees: the reader: an atom. -/
import Derived.Test.YtobpnjnfpgcpaaaGreatDoorPxSevT
namespace Go.Proofs.YtobpnjnfpgcpaaaGreatDoor
open Go.RowKit Go.My Go.Nd

/-- A node in a block of its own, behind a new one. -/
theorem RA.box {w : World} {rb c : Nat} {w1 : World} (h : RA w rb c w1) (cs : Array Value) : RA w rb c (w1.alloc (.cells cs TN)) ∧ (w1.alloc (.cells cs TN)).heap[w1.heap.size]? = some (.cells cs TN (0, 0)) ∧ Below w1.heap.size w1 (w1.alloc (.cells cs TN)) :=
  ⟨h.below (Put.new w1 cs TN).1, (Put.new w1 cs TN).2.1, (Put.new w1 cs TN).1⟩

set_option maxRecDepth 100000 in
set_option maxHeartbeats 2000000 in
theorem atom_paren {rb : Nat} {tv : Value} {xs : List To.T} {inn : Bool} {n : Nat} (hex : Reads 131 #[.pointer (some ⟨rb, 0, none⟩)] rb tv xs inn (fun _ => True) n expr) {w : World} {r : List Tx} (hn : r.length ≤ n) (h : Rd w rb tv xs ([40] :: r) inn) :
    Calls Tryz.prog 148 #[.pointer (some ⟨rb, 0, none⟩)] w (Got w rb tv xs inn ((expr r).then_ fun x r' => must [41] x r')) := by
  have R0 := RA.start h.lt
  have h0 := h.later (Put.new w #[.int .u8 0, .string ⟨#[]⟩, .slice none 0 0, .slice none 0 0, .slice none 0 0] TN).1
  obtain ⟨c, hc⟩ : ∃ c, c = w.heap.size := ⟨_, rfl⟩
  obtain ⟨wA, hwA⟩ : ∃ wA, wA = w.alloc (.cells #[.int .u8 0, .string ⟨#[]⟩, .slice none 0 0, .slice none 0 0, .slice none 0 0] TN) := ⟨_, rfl⟩
  rw [← hwA] at R0 h0
  rw [← hc] at R0
  have X0 := Lib.hid (And.intro R0 h0)
  clear h R0 h0
  have HE := Lib.hid (And.intro hex hn)
  clear hex hn
  go_enter Tryz.func148, Tryz.ntmps148
  go_upto_region 1 with fail
  rw [← hwA, ← hc]
  clear hwA hc
  go_wp2_with fail
  refine takes_yes X0.out.2 (by decide) fun w1 hs1 h1 => ?_
  have X1 := Lib.hid (And.intro (X0.out.1.step hs1) h1)
  clear hs1 h1
  go_wp2_with fail
  refine (HE.out.1 w1 r HE.out.2 trivial X1.out.2).mono ?_
  rintro e w2 ⟨hs2, h2, hres⟩
  cases hrd : expr r with
  | bad q =>
    rw [hrd] at hres h2
    subst hres
    have X2 := Lib.hid (And.intro (X1.out.1.step hs2) (And.intro h2 hrd))
    clear hs2 h2 hrd
    go_wp2_with fail
    refine ⟨rfl, ?_⟩
    rw [X2.out.2.2]
    exact X2.out.1.bad X2.out.2.1
  | ok x q =>
    rw [hrd] at hres h2
    obtain ⟨v, rfl, hN⟩ := hres
    obtain ⟨a1, d1, a2, d2, a3, d3, rfl⟩ := hN.form
    have hb := (X1.out.1.step hs2).box #[.int .u8 (x.kind : Int), .string (tx x.text), .slice a1 x.l.len d1, .slice a2 x.body.len d2, .slice a3 x.els.len d3]
    obtain ⟨b3, hb3⟩ : ∃ b3, b3 = w2.heap.size := ⟨_, rfl⟩
    obtain ⟨w3, hw3⟩ : ∃ w3, w3 = w2.alloc (.cells #[.int .u8 (x.kind : Int), .string (tx x.text), .slice a1 x.l.len d1, .slice a2 x.body.len d2, .slice a3 x.els.len d3] TN) := ⟨_, rfl⟩
    rw [← hw3] at hb
    have X2 := Lib.hid (And.intro hb.1 (And.intro (hb3 ▸ hb.2.1) (And.intro (h2.later hb.2.2) (And.intro (NS.later (NR.past X1.out.1 hN) hb.2.2) (And.intro hrd (show rb < b3 by have := X1.out.1.hrb; have := X1.out.1.lt; have := hs2.size; omega))))))
    clear hb hs2 h2 hN hrd
    go_upto_region 3 with fail
    rw [← hw3, ← hb3]
    clear hw3 hb3
    go_wp2_with fail
    by_cases hh : q.head? = some [41]
    · obtain ⟨q', rfl⟩ := head_form hh
      refine takes_yes X2.out.2.2.1 (by decide) fun w4 hs4 h4 => ?_
      have R4 := X2.out.1.step hs4
      have row4 := (hs4.kept (heap_lt X2.out.2.1) (Nat.ne_of_gt X2.out.2.2.2.2.2)).trans X2.out.2.1
      have N4 := NS.over X2.out.2.2.2.1 hs4 (fun b hb => by have := X2.out.1.hrb; omega)
      obtain ⟨x0, x1, x2, x3, x4, _, _, _, _, _⟩ := row5 row4
      obtain ⟨y0, y1, y2, y3, y4, g0, g1, g2, g3, g4⟩ := row5 R4.row
      have X4 := Lib.hid (And.intro R4 (And.intro h4 N4))
      clear hs4 h4 R4 row4 N4 hh
      go_wp2_with (refine must_yes ?_)
      have hp := put5 X4.out.1.row (.int .u8 (x.kind : Int)) (.string (tx x.text)) (.slice a1 x.l.len d1) (.slice a2 x.body.len d2) (.slice a3 x.els.len d3)
      refine bodyPost_ret (results_cell1 rfl _ _ _ rfl (nodeVar _ c _ _ _ _ _ hp.row)) rfl ?_
      rw [X2.out.2.2.2.2.1]
      show Got w rb tv xs inn (must [41] x ([41] :: q')) _ _
      rw [show must [41] x ([41] :: q') = .ok x q' by unfold must; simp only; rw [if_pos trivial]]
      exact X4.out.1.fin X4.out.2.1 X4.out.2.2 (fun _ h => h.1) hp
    · refine takes_no X2.out.2.2.1 [41] (by decide) hh fun w4 hb4 => ?_
      have X4 := Lib.hid (And.intro hh hb4)
      clear hh hb4
      go_wp2_with (refine must_no ?_)
      refine ⟨rfl, ?_⟩
      rw [X2.out.2.2.2.2.1]
      show Got w rb tv xs inn (must [41] x q) _ _
      rw [show must [41] x q = .bad q by
        cases q with
        | nil => rfl
        | cons s q' => unfold must; simp only; rw [if_neg (by intro e; subst e; exact X4.out.1 rfl)]]
      exact (X2.out.1.below X4.out.2).bad (X2.out.2.2.1.later X4.out.2)

set_option maxRecDepth 100000 in
set_option maxHeartbeats 2000000 in
theorem atom_list {rb : Nat} {tv : Value} {xs : List To.T} {inn : Bool} {n : Nat} (hex : Reads 131 #[.pointer (some ⟨rb, 0, none⟩)] rb tv xs inn (fun _ => True) n expr) {w : World} {r : List Tx} (hn : r.length ≤ n) (h : Rd w rb tv xs ([91] :: r) inn) :
    Calls Tryz.prog 148 #[.pointer (some ⟨rb, 0, none⟩)] w (Got w rb tv xs inn ((several [93] expr r).map fun l => ⟨3, [], Ns.of l, .nil, .nil⟩)) := by
  have R0 := RA.start h.lt
  have h0 := h.later (Put.new w #[.int .u8 0, .string ⟨#[]⟩, .slice none 0 0, .slice none 0 0, .slice none 0 0] TN).1
  obtain ⟨c, hc⟩ : ∃ c, c = w.heap.size := ⟨_, rfl⟩
  obtain ⟨wA, hwA⟩ : ∃ wA, wA = w.alloc (.cells #[.int .u8 0, .string ⟨#[]⟩, .slice none 0 0, .slice none 0 0, .slice none 0 0] TN) := ⟨_, rfl⟩
  rw [← hwA] at R0 h0
  rw [← hc] at R0
  have X0 := Lib.hid (And.intro R0 h0)
  clear h R0 h0
  have HE := Lib.hid (And.intro hex hn)
  clear hex hn
  go_enter Tryz.func148, Tryz.ntmps148
  go_upto_region 1 with fail
  rw [← hwA, ← hc]
  clear hwA hc
  go_wp2_with fail
  refine takes_no X0.out.2 [40] (by decide) (by simp) fun w1 hb1 => ?_
  have X1 := Lib.hid (And.intro (X0.out.1.below hb1) (X0.out.2.later hb1))
  clear hb1
  go_wp2_with fail
  refine takes_yes X1.out.2 (by decide) fun w2 hs2 h2 => ?_
  have X2 := Lib.hid (And.intro (X1.out.1.step hs2) h2)
  clear hs2 h2
  go_wp2_with fail
  refine (sevn_t (first := #[.pointer (some ⟨rb, 0, none⟩)]) (cap := #[]) (fun _ => rfl) (by rw [Array.append_empty]; exact HE.out.1) expr_down [93] (by decide) (by decide) HE.out.2 X2.out.2).mono ?_
  rintro e w3 ⟨hs3, h3, hres⟩
  cases hrd : several [93] expr r with
  | bad q =>
    rw [hrd] at hres h3
    subst hres
    have X3 := Lib.hid (And.intro (X2.out.1.step hs3) (And.intro h3 hrd))
    clear hs3 h3 hrd
    go_wp2_with fail
    refine ⟨rfl, ?_⟩
    rw [X3.out.2.2]
    exact X3.out.1.bad X3.out.2.1
  | ok l q =>
    rw [hrd] at hres h3
    obtain ⟨v, rfl, hL⟩ := hres
    obtain ⟨a1, d1, rfl⟩ := hL.form
    have R3 := X2.out.1.step hs3
    obtain ⟨y0, y1, y2, y3, y4, g0, g1, g2, g3, g4⟩ := row5 R3.row
    have X3 := Lib.hid (And.intro R3 (And.intro h3 (And.intro hL hrd)))
    have HZ := Lib.hid hs3.size
    clear hs3 h3 hrd R3 hL
    go_wp2_with fail
    have hp := put5 X3.out.1.row (.int .u8 3) (.string ⟨#[]⟩) (.slice a1 (Ns.of l).len d1) (.slice none 0 0) (.slice none 0 0)
    refine bodyPost_ret (results_cell1 rfl _ _ _ rfl (nodeVar _ c _ _ _ _ _ hp.row)) rfl ?_
    rw [X3.out.2.2.2]
    have hN : NR w3 TN w2.heap.size w3.heap.size (.agg #[.int .u8 ((3 : Nat) : Int), .string (tx []), .slice a1 (Ns.of l).len d1, .slice none 0 0, .slice none 0 0]) ⟨3, [], Ns.of l, .nil, .nil⟩ := NR.mk (by decide) (by decide) X3.out.2.2.1 (LR.nil _ _ _ _) (LR.nil _ _ _ _) HZ.out (Nat.le_refl _) (Nat.le_refl _)
    exact X3.out.1.fin (x := ⟨3, [], Ns.of l, .nil, .nil⟩) X3.out.2.1 (NR.past X2.out.1 hN) (fun _ h => h) hp

/-- A name, and what it is called with. -/
def atomName (s : Tx) (r : List Tx) : R Nd := match r with
  | [] => .ok (leaf 2 s) []
  | p :: r' => if p = [40] then (several [41] expr r').map fun l => ⟨4, s, Ns.of l, .nil, .nil⟩ else .ok (leaf 2 s) (p :: r')
theorem atomName_call (s : Tx) (r : List Tx) : atomName s ([40] :: r) = (several [41] expr r).map fun l => ⟨4, s, Ns.of l, .nil, .nil⟩ := by unfold atomName; simp only; rw [if_pos trivial]
theorem atomName_no (s : Tx) (r : List Tx) (h : r.head? ≠ some [40]) : atomName s r = .ok (leaf 2 s) r := by
  cases r with
  | nil => rfl
  | cons p r' => unfold atomName; simp only; rw [if_neg (by intro e; subst e; exact h rfl)]
theorem name_not {s : Tx} (h : To.name s = true) (u : Tx) (hu : To.name u = false) : s ≠ u := fun e => by subst e; rw [hu] at h; cases h

set_option maxRecDepth 100000 in
set_option maxHeartbeats 2000000 in
theorem atom_name {rb : Nat} {tv : Value} {xs : List To.T} {inn : Bool} {n : Nat} (hex : Reads 131 #[.pointer (some ⟨rb, 0, none⟩)] rb tv xs inn (fun _ => True) n expr) {w : World} {s : Tx} {r : List Tx} (hs : To.name s = true) (hn : r.length ≤ n) (h : Rd w rb tv xs (s :: r) inn) :
    Calls Tryz.prog 148 #[.pointer (some ⟨rb, 0, none⟩)] w (Got w rb tv xs inn (atomName s r)) := by
  have hsl : s.length ≤ 65536 := by obtain ⟨_, _, _, _, _, _, _, _, _, _, _, _, hs⟩ := h.token 0 (by simp); simpa using hs
  have n1 := name_not hs [40] (by decide)
  have n2 := name_not hs [91] (by decide)
  have R0 := RA.start h.lt
  have h0 := h.later (Put.new w #[.int .u8 0, .string ⟨#[]⟩, .slice none 0 0, .slice none 0 0, .slice none 0 0] TN).1
  obtain ⟨c, hc⟩ : ∃ c, c = w.heap.size := ⟨_, rfl⟩
  obtain ⟨wA, hwA⟩ : ∃ wA, wA = w.alloc (.cells #[.int .u8 0, .string ⟨#[]⟩, .slice none 0 0, .slice none 0 0, .slice none 0 0] TN) := ⟨_, rfl⟩
  rw [← hwA] at R0 h0
  rw [← hc] at R0
  have X0 := Lib.hid (And.intro R0 h0)
  clear h R0 h0
  have HE := Lib.hid (And.intro hex (And.intro hn (And.intro hs (And.intro n1 (And.intro n2 hsl)))))
  clear hex hn hs n1 n2 hsl
  go_enter Tryz.func148, Tryz.ntmps148
  go_upto_region 1 with fail
  rw [← hwA, ← hc]
  clear hwA hc
  go_wp2_with fail
  refine takes_no X0.out.2 [40] (by decide) (by have := HE.out.2.2.2.1; simpa using this) fun w1 hb1 => ?_
  have X1 := Lib.hid (And.intro (X0.out.1.below hb1) (X0.out.2.later hb1))
  clear hb1
  go_wp2_with fail
  refine takes_no X1.out.2 [91] (by decide) (by have := HE.out.2.2.2.2.1; simpa using this) fun w2 hb2 => ?_
  have X2 := Lib.hid (And.intro (X1.out.1.below hb2) (X1.out.2.later hb2))
  clear hb2
  go_wp2_with fail
  refine named_t X2.out.2 fun w3 hb3 => ?_
  rw [show To.name ((s :: r).getD 0 []) = true from HE.out.2.2.1]
  have X3 := Lib.hid (And.intro (X2.out.1.below hb3) (X2.out.2.later hb3))
  clear hb3
  go_wp2_with fail
  refine next_yes X3.out.2 fun w4 hs4 h4 => ?_
  have X4 := Lib.hid (And.intro (X3.out.1.step hs4) h4)
  clear hs4 h4
  have hb := X4.out.1.box #[.int .u8 2, .string (bs s), .slice none 0 0, .slice none 0 0, .slice none 0 0]
  obtain ⟨b4, hb4⟩ : ∃ b4, b4 = w4.heap.size := ⟨_, rfl⟩
  obtain ⟨w5, hw5⟩ : ∃ w5, w5 = w4.alloc (.cells #[.int .u8 2, .string (bs s), .slice none 0 0, .slice none 0 0, .slice none 0 0] TN) := ⟨_, rfl⟩
  rw [← hw5] at hb
  have X5 := Lib.hid (And.intro hb.1 (And.intro (hb4 ▸ hb.2.1) (And.intro (X4.out.2.later hb.2.2) (And.intro (show c < b4 by have := X4.out.1.lt; omega) (show rb < b4 by have := X4.out.1.hrb; have := X4.out.1.lt; omega)))))
  clear hb
  go_upto_region 9 with fail
  rw [← hw5, ← hb4]
  clear hw5 hb4
  go_wp2_with fail
  by_cases hh : r.head? = some [40]
  · obtain ⟨r', rfl⟩ := head_form hh
    refine takes_yes X5.out.2.2.1 (by decide) fun w6 hs6 h6 => ?_
    have X6 := Lib.hid (And.intro (X5.out.1.step hs6) (And.intro h6 ((hs6.kept (heap_lt X5.out.2.1) (Nat.ne_of_gt X5.out.2.2.2.2)).trans X5.out.2.1)))
    clear hs6 h6 hh
    go_wp2_with fail
    have hn' : r'.length ≤ n := by have := HE.out.2.1; rw [List.length_cons] at this; omega
    refine (sevn_t (first := #[.pointer (some ⟨rb, 0, none⟩)]) (cap := #[]) (fun _ => rfl) (by rw [Array.append_empty]; exact HE.out.1) expr_down [41] (by decide) (by decide) hn' X6.out.2.1).mono ?_
    rintro e w7 ⟨hs7, h7, hres⟩
    cases hrd : several [41] expr r' with
    | bad q =>
      rw [hrd] at hres h7
      subst hres
      have X7 := Lib.hid (And.intro (X6.out.1.step hs7) (And.intro h7 hrd))
      clear hs7 h7 hrd hn'
      go_wp2_with fail
      refine ⟨rfl, ?_⟩
      rw [atomName_call, X7.out.2.2]
      exact X7.out.1.bad X7.out.2.1
    | ok l q =>
      rw [hrd] at hres h7
      obtain ⟨v, rfl, hL⟩ := hres
      obtain ⟨a1, d1, rfl⟩ := hL.form
      have R7 := X6.out.1.step hs7
      have row7 := (hs7.kept (heap_lt X6.out.2.2) (Nat.ne_of_gt X5.out.2.2.2.2)).trans X6.out.2.2
      obtain ⟨x0, x1, x2, x3, x4, f0, f1, f2, f3, f4⟩ := row5 row7
      have hp1 := (Put.one row7 0 (.int .u8 4)).trans (Put.one (Put.one row7 0 (.int .u8 4)).row 2 (.slice a1 (Ns.of l).len d1))
      have hp1' : Put w7 ((w7.setCell ⟨b4, 0, none⟩ (.int .u8 4)).setCell ⟨b4, 2, none⟩ (.slice a1 (Ns.of l).len d1)) b4 #[.int .u8 4, .string (bs s), .slice a1 (Ns.of l).len d1, .slice none 0 0, .slice none 0 0] TN := hp1
      obtain ⟨w8, hw8⟩ : ∃ w8, w8 = (w7.setCell ⟨b4, 0, none⟩ (.int .u8 4)).setCell ⟨b4, 2, none⟩ (.slice a1 (Ns.of l).len d1) := ⟨_, rfl⟩
      rw [← hw8] at hp1'
      have R8 := R7.put hp1' X5.out.2.2.2.1
      have h8 := h7.put hp1' X5.out.2.2.2.2
      have hL8 : LR w8 TN w6.heap.size w7.heap.size (.slice a1 (Ns.of l).len d1) (Ns.of l) := LR.frame hL fun b q1 _ => hp1'.oth b (by have := heap_lt X6.out.2.2; omega)
      have hN : NR w8 TN w6.heap.size w8.heap.size (.agg #[.int .u8 ((4 : Nat) : Int), .string (tx s), .slice a1 (Ns.of l).len d1, .slice none 0 0, .slice none 0 0]) ⟨4, s, Ns.of l, .nil, .nil⟩ := NR.mk (by decide) (by have := HE.out.2.2.2.2.2; omega) hL8 (LR.nil _ _ _ _) (LR.nil _ _ _ _) hs7.size (by have := hp1'.size; omega) (Nat.le_refl _)
      have hN8 : NS w8 TN (fun b => c < b) (.agg #[.int .u8 ((4 : Nat) : Int), .string (tx s), .slice a1 (Ns.of l).len d1, .slice none 0 0, .slice none 0 0]) ⟨4, s, Ns.of l, .nil, .nil⟩ := hN.ns fun b q1 _ => by have := heap_lt X6.out.1.row; omega
      obtain ⟨z0, z1, z2, z3, z4, _, _, _, _, _⟩ := row5 hp1'.row
      obtain ⟨y0, y1, y2, y3, y4, g0, g1, g2, g3, g4⟩ := row5 R8.row
      have X7 := Lib.hid (And.intro R8 (And.intro h8 (And.intro hN8 hrd)))
      clear hs7 h7 hrd R7 hL row7 hp1 R8 h8 hL8 hN hN8 hn' hp1'
      go_upto_region 11 with fail
      rw [← hw8]
      clear hw8 x0 x1 x2 x3 x4 f0 f1 f2 f3 f4
      go_wp2_with fail
      have hp := put5 X7.out.1.row (.int .u8 4) (.string (bs s)) (.slice a1 (Ns.of l).len d1) (.slice none 0 0) (.slice none 0 0)
      refine bodyPost_ret (results_cell1 rfl _ _ _ rfl (nodeVar _ c _ _ _ _ _ hp.row)) rfl ?_
      rw [atomName_call, X7.out.2.2.2]
      exact X7.out.1.fin (x := ⟨4, s, Ns.of l, .nil, .nil⟩) X7.out.2.1 X7.out.2.2.1 (fun _ h => h) hp
  · refine takes_no X5.out.2.2.1 [40] (by decide) hh fun w6 hb6 => ?_
    have R6 := X5.out.1.below hb6
    have row6 := (hb6.block _ (heap_lt X5.out.2.1)).trans X5.out.2.1
    obtain ⟨x0, x1, x2, x3, x4, _, _, _, _, _⟩ := row5 row6
    obtain ⟨y0, y1, y2, y3, y4, g0, g1, g2, g3, g4⟩ := row5 R6.row
    have X6 := Lib.hid (And.intro R6 (And.intro (X5.out.2.2.1.later hb6) hh))
    clear hb6 R6 row6 hh
    go_wp2_with fail
    have hp := put5 X6.out.1.row (.int .u8 2) (.string (bs s)) (.slice none 0 0) (.slice none 0 0) (.slice none 0 0)
    refine bodyPost_ret (results_cell1 rfl _ _ _ rfl (nodeVar _ c _ _ _ _ _ hp.row)) rfl ?_
    have hN : NR w6 TN w6.heap.size w6.heap.size (.agg #[.int .u8 ((2 : Nat) : Int), .string (tx s), .slice none 0 0, .slice none 0 0, .slice none 0 0]) (leaf 2 s) := NR.mk (by decide) (by have := HE.out.2.2.2.2.2; omega) (LR.nil _ _ _ _) (LR.nil _ _ _ _) (LR.nil _ _ _ _) (Nat.le_refl _) (Nat.le_refl _) (Nat.le_refl _)
    rw [atomName_no s r X6.out.2.2]
    exact X6.out.1.fin (x := leaf 2 s) X6.out.2.1 (NR.past X6.out.1 hN) (fun _ h => h) hp

set_option maxRecDepth 100000 in
set_option maxHeartbeats 2000000 in
theorem atom_num {rb : Nat} {tv : Value} {xs : List To.T} {inn : Bool} {w : World} {ts : List Tx} (k1 : ts.head? ≠ some [40]) (k2 : ts.head? ≠ some [91]) (hs : To.name (ts.getD 0 []) = false) (h : Rd w rb tv xs ts inn) :
    Calls Tryz.prog 148 #[.pointer (some ⟨rb, 0, none⟩)] w (Got w rb tv xs inn (number ts)) := by
  have R0 := RA.start h.lt
  have h0 := h.later (Put.new w #[.int .u8 0, .string ⟨#[]⟩, .slice none 0 0, .slice none 0 0, .slice none 0 0] TN).1
  obtain ⟨c, hc⟩ : ∃ c, c = w.heap.size := ⟨_, rfl⟩
  obtain ⟨wA, hwA⟩ : ∃ wA, wA = w.alloc (.cells #[.int .u8 0, .string ⟨#[]⟩, .slice none 0 0, .slice none 0 0, .slice none 0 0] TN) := ⟨_, rfl⟩
  rw [← hwA] at R0 h0
  rw [← hc] at R0
  have X0 := Lib.hid (And.intro R0 h0)
  clear h R0 h0
  have HE := Lib.hid (And.intro hs (And.intro k1 k2))
  clear hs k1 k2
  go_enter Tryz.func148, Tryz.ntmps148
  go_upto_region 1 with fail
  rw [← hwA, ← hc]
  clear hwA hc
  go_wp2_with fail
  refine takes_no X0.out.2 [40] (by decide) HE.out.2.1 fun w1 hb1 => ?_
  have X1 := Lib.hid (And.intro (X0.out.1.below hb1) (X0.out.2.later hb1))
  clear hb1
  go_wp2_with fail
  refine takes_no X1.out.2 [91] (by decide) HE.out.2.2 fun w2 hb2 => ?_
  have X2 := Lib.hid (And.intro (X1.out.1.below hb2) (X1.out.2.later hb2))
  clear hb2
  go_wp2_with fail
  refine named_t X2.out.2 fun w3 hb3 => ?_
  rw [HE.out.1]
  have X3 := Lib.hid (And.intro (X2.out.1.below hb3) (X2.out.2.later hb3))
  clear hb3
  go_wp2_with fail
  refine (rnum_t X3.out.2).mono ?_
  rintro e w4 ⟨hs4, h4, hres⟩
  have R4 := X3.out.1.step hs4
  cases hrd : number ts with
  | bad q =>
    rw [hrd] at hres h4
    subst hres
    have X4 := Lib.hid (And.intro R4 (And.intro h4 hrd))
    clear hs4 h4 hrd R4
    go_wp2_with fail
    refine ⟨rfl, ?_⟩
    exact X4.out.1.bad X4.out.2.1
  | ok x q =>
    rw [hrd] at hres h4
    obtain ⟨v, rfl, hN⟩ := hres
    obtain ⟨a1, d1, a2, d2, a3, d3, rfl⟩ := hN.form
    obtain ⟨y0, y1, y2, y3, y4, g0, g1, g2, g3, g4⟩ := row5 R4.row
    have X4 := Lib.hid (And.intro R4 (And.intro h4 (And.intro hrd (NR.past X3.out.1 hN))))
    clear hs4 h4 hrd R4 hN
    go_wp2_with fail
    have hp := put5 X4.out.1.row (.int .u8 (x.kind : Int)) (.string (tx x.text)) (.slice a1 x.l.len d1) (.slice a2 x.body.len d2) (.slice a3 x.els.len d3)
    refine bodyPost_ret (results_cell1 rfl _ _ _ rfl (nodeVar _ c _ _ _ _ _ hp.row)) rfl ?_
    first | rw [X4.out.2.2.1] | skip
    exact X4.out.1.fin X4.out.2.1 X4.out.2.2.2 (fun _ h => h) hp

/-- An atom. -/
theorem atom_r {rb : Nat} {tv : Value} {xs : List To.T} {inn : Bool} {n : Nat} (hex : Reads 131 #[.pointer (some ⟨rb, 0, none⟩)] rb tv xs inn (fun _ => True) n expr) :
    Reads 148 #[.pointer (some ⟨rb, 0, none⟩)] rb tv xs inn (fun _ => True) (n + 1) (atom expr) := by
  intro w ts hn _ h
  cases ts with
  | nil => exact atom_num (by simp) (by simp) (by decide) h
  | cons s r =>
    rw [List.length_cons] at hn
    by_cases h1 : s = [40]
    · subst h1; exact atom_paren hex (by omega) h
    · by_cases h2 : s = [91]
      · subst h2; exact atom_list hex (by omega) h
      · cases h3 : To.name s with
        | true =>
          have := atom_name hex h3 (by omega) h
          unfold atom
          simp only
          rw [if_neg h1, if_neg h2, if_pos h3]
          exact this
        | false =>
          have := atom_num (ts := s :: r) (by simpa using h1) (by simpa using h2) h3 h
          unfold atom
          simp only
          rw [if_neg h1, if_neg h2, if_neg (by rw [h3]; decide)]
          exact this
end Go.Proofs.YtobpnjnfpgcpaaaGreatDoor
