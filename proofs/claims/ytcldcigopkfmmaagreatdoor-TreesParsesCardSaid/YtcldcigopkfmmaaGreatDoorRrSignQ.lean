/- Trees, as the document has them: the reader: what has signs ahead. -/
import Derived.Test.YtcldcigopkfmmaaGreatDoorRrAtomQ
import Derived.Test.YtcldcigopkfmmaaGreatDoorTrD3
namespace Go.Proofs.YtcldcigopkfmmaaGreatDoor
open Go.RowKit Go.My Go.Nd

/-- A node of one. -/
theorem RA.oneR {w : World} {rb c : Nat} {w2 w3 w4 : World} {tv : Value} {xs : List To.T} {inn : Bool} {r : R Nd} {x : Nd} {v0 v1 v2 v3 v4 : Value} {k : Nat} (hA : RA w rb c w2) (hk : k < 256) (hs3 : Step w2 w3 (some rb)) (h3 : Rr w3 rb tv xs r.rest inn r.isBad) (hN : NR w3 TN w2.heap.size w3.heap.size (.agg #[v0, v1, v2, v3, v4]) x) (hi : r.Is x)
    (hp : Put (w3.alloc (.cells #[v0, v1, v2, v3, v4] TN)) w4 c #[.int .u8 (k : Int), .string ⟨#[]⟩, .slice (some ⟨w3.heap.size, 0, none⟩) 1 1, .slice none 0 0, .slice none 0 0] TN) :
    GotR w rb tv xs inn (r.map fun x => ⟨k, [], Ns.of [x], .nil, .nil⟩) (.returned (.agg #[.int .u8 (k : Int), .string ⟨#[]⟩, .slice (some ⟨w3.heap.size, 0, none⟩) 1 1, .slice none 0 0, .slice none 0 0])) w4 := by
  have hL := LR.one hN hs3.size (Nat.le_refl _)
  obtain ⟨hb, _, hz⟩ := Put.new w3 #[v0, v1, v2, v3, v4] TN
  have hlt := hA.lt
  have hs := hs3.size
  have hN4 : NR (w3.alloc (.cells #[v0, v1, v2, v3, v4] TN)) TN w2.heap.size (w3.alloc (.cells #[v0, v1, v2, v3, v4] TN)).heap.size (.agg #[.int .u8 (k : Int), .string (tx []), .slice (some ⟨w3.heap.size, 0, none⟩) 1 1, .slice none 0 0, .slice none 0 0]) ⟨k, [], Ns.of [x], .nil, .nil⟩ := NR.mk hk (by decide) (hz ▸ hL) (LR.nil _ _ _ _) (LR.nil _ _ _ _) (by omega) (Nat.le_refl _) (Nat.le_refl _)
  refine ((hA.step hs3).below hb).finR (S := fun b => c < b) (x := ⟨k, [], Ns.of [x], .nil, .nil⟩) ?_ (hN4.ns fun b h1 _ => by omega) (fun _ h => h) hp (hi.map _)
  rw [R.map_rest, R.map_isBad]
  exact h3.later hb


set_option maxRecDepth 100000 in
set_option maxHeartbeats 2000000 in
theorem rsign_neg {rb : Nat} {tv : Value} {xs : List To.T} {inn : Bool} {n : Nat} (hsg : RReads 164 rb tv xs inn n sg) {w : World} {r : List Tx} (hn : r.length ≤ n) (h : Rr w rb tv xs ([45] :: r) inn false) :
    Calls Tryz.prog 164 #[.pointer (some ⟨rb, 0, none⟩)] w (GotR w rb tv xs inn ((sg r).map fun x => ⟨6, [], Ns.of [x], .nil, .nil⟩)) := by
  have R0 := RA.start h.lt
  have h0 := h.later (Put.new w #[.int .u8 0, .string ⟨#[]⟩, .slice none 0 0, .slice none 0 0, .slice none 0 0] TN).1
  obtain ⟨c, hc⟩ : ∃ c, c = w.heap.size := ⟨_, rfl⟩
  obtain ⟨wA, hwA⟩ : ∃ wA, wA = w.alloc (.cells #[.int .u8 0, .string ⟨#[]⟩, .slice none 0 0, .slice none 0 0, .slice none 0 0] TN) := ⟨_, rfl⟩
  rw [← hwA] at R0 h0
  rw [← hc] at R0
  have X0 := Lib.hid (And.intro R0 h0)
  clear h R0 h0
  have HE := Lib.hid (And.intro hsg hn)
  clear hsg hn
  go_enter Tryz.func164, Tryz.ntmps164
  go_upto_region 1 with fail
  rw [← hwA, ← hc]
  clear hwA hc
  go_wp2_with fail
  refine tk_yes X0.out.2 fun w2 hs2 h2 => ?_
  have X2 := Lib.hid (And.intro (X0.out.1.step hs2) h2)
  clear hs2 h2
  go_wp2_with fail
  refine (HE.out.1 w2 r false HE.out.2 X2.out.2).mono ?_
  rintro e w3 ⟨hs3, h3, v, x, rfl, hN, hi⟩
  rw [gate_ok] at h3 hi
  obtain ⟨a1, d1, a2, d2, a3, d3, rfl⟩ := hN.form
  have hb := (X2.out.1.step hs3).box #[.int .u8 (x.kind : Int), .string (tx x.text), .slice a1 x.l.len d1, .slice a2 x.body.len d2, .slice a3 x.els.len d3]
  obtain ⟨y0, y1, y2, y3, y4, g0, g1, g2, g3, g4⟩ := row5 hb.1.row
  have X3 := Lib.hid (And.intro hb.1.row (And.intro hs3 (And.intro h3 (And.intro hN hi))))
  clear hs3 h3 hb hN hi
  go_wp2_with fail
  have hp := put5 X3.out.1 (.int .u8 6) (.string ⟨#[]⟩) (.slice (some ⟨w3.heap.size, 0, none⟩) 1 1) (.slice none 0 0) (.slice none 0 0)
  refine bodyPost_ret (results_cell1 rfl _ _ _ rfl (nodeVar _ c _ _ _ _ _ hp.row)) rfl ?_
  exact RA.oneR (k := 6) X2.out.1 (by decide) X3.out.2.1 X3.out.2.2.1 X3.out.2.2.2.1 X3.out.2.2.2.2 hp

set_option maxRecDepth 100000 in
set_option maxHeartbeats 2000000 in
theorem rsign_not {rb : Nat} {tv : Value} {xs : List To.T} {inn : Bool} {n : Nat} (hsg : RReads 164 rb tv xs inn n sg) {w : World} {r : List Tx} (hn : r.length ≤ n) (h : Rr w rb tv xs ([110, 111, 116] :: r) inn false) :
    Calls Tryz.prog 164 #[.pointer (some ⟨rb, 0, none⟩)] w (GotR w rb tv xs inn ((sg r).map fun x => ⟨7, [], Ns.of [x], .nil, .nil⟩)) := by
  have R0 := RA.start h.lt
  have h0 := h.later (Put.new w #[.int .u8 0, .string ⟨#[]⟩, .slice none 0 0, .slice none 0 0, .slice none 0 0] TN).1
  obtain ⟨c, hc⟩ : ∃ c, c = w.heap.size := ⟨_, rfl⟩
  obtain ⟨wA, hwA⟩ : ∃ wA, wA = w.alloc (.cells #[.int .u8 0, .string ⟨#[]⟩, .slice none 0 0, .slice none 0 0, .slice none 0 0] TN) := ⟨_, rfl⟩
  rw [← hwA] at R0 h0
  rw [← hc] at R0
  have X0 := Lib.hid (And.intro R0 h0)
  clear h R0 h0
  have HE := Lib.hid (And.intro hsg hn)
  clear hsg hn
  go_enter Tryz.func164, Tryz.ntmps164
  go_upto_region 1 with fail
  rw [← hwA, ← hc]
  clear hwA hc
  go_wp2_with fail
  refine tk_no X0.out.2 [45] (No.head (by simp) _) ?_
  go_wp2_with fail
  refine tk_yes X0.out.2 fun w2 hs2 h2 => ?_
  have X2 := Lib.hid (And.intro (X0.out.1.step hs2) h2)
  clear hs2 h2
  go_wp2_with fail
  refine (HE.out.1 w2 r false HE.out.2 X2.out.2).mono ?_
  rintro e w3 ⟨hs3, h3, v, x, rfl, hN, hi⟩
  rw [gate_ok] at h3 hi
  obtain ⟨a1, d1, a2, d2, a3, d3, rfl⟩ := hN.form
  have hb := (X2.out.1.step hs3).box #[.int .u8 (x.kind : Int), .string (tx x.text), .slice a1 x.l.len d1, .slice a2 x.body.len d2, .slice a3 x.els.len d3]
  obtain ⟨y0, y1, y2, y3, y4, g0, g1, g2, g3, g4⟩ := row5 hb.1.row
  have X3 := Lib.hid (And.intro hb.1.row (And.intro hs3 (And.intro h3 (And.intro hN hi))))
  clear hs3 h3 hb hN hi
  go_wp2_with fail
  have hp := put5 X3.out.1 (.int .u8 7) (.string ⟨#[]⟩) (.slice (some ⟨w3.heap.size, 0, none⟩) 1 1) (.slice none 0 0) (.slice none 0 0)
  refine bodyPost_ret (results_cell1 rfl _ _ _ rfl (nodeVar _ c _ _ _ _ _ hp.row)) rfl ?_
  exact RA.oneR (k := 7) X2.out.1 (by decide) X3.out.2.1 X3.out.2.2.1 X3.out.2.2.2.1 X3.out.2.2.2.2 hp

set_option maxRecDepth 100000 in
set_option maxHeartbeats 4000000 in
theorem rsign_atom {rb : Nat} {tv : Value} {xs : List To.T} {inn bad : Bool} {n : Nat} (hat : RReads 174 rb tv xs inn n (atom expr)) {w : World} {ts : List Tx} (hn : ts.length ≤ n) (k1 : No bad ts [45]) (k2 : No bad ts [110, 111, 116]) (h : Rr w rb tv xs ts inn bad) :
    Calls Tryz.prog 164 #[.pointer (some ⟨rb, 0, none⟩)] w (GotR w rb tv xs inn ((gate bad ts (atom expr ts)).then_ sgPow)) := by
  have R0 := RA.start h.lt
  have h0 := h.later (Put.new w #[.int .u8 0, .string ⟨#[]⟩, .slice none 0 0, .slice none 0 0, .slice none 0 0] TN).1
  obtain ⟨c, hc⟩ : ∃ c, c = w.heap.size := ⟨_, rfl⟩
  obtain ⟨wA, hwA⟩ : ∃ wA, wA = w.alloc (.cells #[.int .u8 0, .string ⟨#[]⟩, .slice none 0 0, .slice none 0 0, .slice none 0 0] TN) := ⟨_, rfl⟩
  rw [← hwA] at R0 h0
  rw [← hc] at R0
  have X0 := Lib.hid (And.intro R0 h0)
  clear h R0 h0
  have HE := Lib.hid (And.intro hat (And.intro hn (And.intro k1 k2)))
  clear hat hn k1 k2
  go_enter Tryz.func164, Tryz.ntmps164
  go_upto_region 1 with fail
  rw [← hwA, ← hc]
  clear hwA hc
  go_wp2_with fail
  refine tk_no X0.out.2 [45] HE.out.2.2.1 ?_
  go_wp2_with fail
  refine tk_no X0.out.2 [110, 111, 116] HE.out.2.2.2 ?_
  go_wp2_with fail
  refine (HE.out.1 wA ts bad HE.out.2.1 X0.out.2).mono ?_
  rintro e w1 ⟨hs1, h1, v, x, rfl, hN, hi⟩
  obtain ⟨r1, hr1⟩ : ∃ r1, r1 = gate bad ts (atom expr ts) := ⟨_, rfl⟩
  rw [← hr1] at h1 hi ⊢
  have HR1 := Lib.hid hr1
  clear hr1
  obtain ⟨a1, d1, a2, d2, a3, d3, rfl⟩ := hN.form
  have hst := RwSt.start X0.out.1 hs1 h1 hN hi
  obtain ⟨b3, hb3⟩ : ∃ b3, b3 = w1.heap.size := ⟨_, rfl⟩
  obtain ⟨w3, hw3⟩ : ∃ w3, w3 = w1.alloc (.cells #[.int .u8 (x.kind : Int), .string (tx x.text), .slice a1 x.l.len d1, .slice a2 x.body.len d2, .slice a3 x.els.len d3] TN) := ⟨_, rfl⟩
  rw [← hw3, ← hb3] at hst
  have X2 := Lib.hid hst
  clear hst hs1 h1 hN hi
  go_upto_region 6 with fail
  rw [← hw3, ← hb3]
  clear hw3 hb3
  go_wp2_with fail
  by_cases hh : ∃ q, r1 = .ok x ([94] :: q)
  · obtain ⟨q, rfl⟩ := hh
    refine tk_yes X2.out.rd fun w4 hs4 h4 => ?_
    have hst := X2.out.step (r' := .ok x q) hs4 h4 (R.Is.ok _ _)
    obtain ⟨x0, x1, x2, x3, x4, e0, e1, e2, e3, e4⟩ := row5 hst.box
    have hst' := hst.below (Below.refl _ w4).drew
    have X4 := Lib.hid hst'
    clear hs4 h4 hst hst'
    go_upto_region 7 with fail
    go_region_law (first
      | (go_simp; go_at_call 175; refine (rnumber_t X4.out.rd).mono ?_; rintro e w6 ⟨hs6, h6, v6, z, rfl, hN6, hi6⟩; obtain ⟨o1, i1, o2, i2, o3, i3, rfl⟩ := hN6.form; have hrow6 := (hs6.kept (heap_lt X4.out.box) (by have := X4.out.hb; have := X4.out.hA.hrb; omega)).trans X4.out.box; obtain ⟨x0', x1', x2', x3', x4', g0', g1', g2', g3', g4'⟩ := row5 hrow6; have y0' := fun o => (row5 (row5_alloc hrow6 o)).1; have y1' := fun o => (row5 (row5_alloc hrow6 o)).2.1; have y2' := fun o => (row5 (row5_alloc hrow6 o)).2.2.1; have y3' := fun o => (row5 (row5_alloc hrow6 o)).2.2.2.1; have y4' := fun o => (row5 (row5_alloc hrow6 o)).2.2.2.2.1; have k0' := fun o => (row5 (row5_alloc hrow6 o)).2.2.2.2.2.1; have k1' := fun o => (row5 (row5_alloc hrow6 o)).2.2.2.2.2.2.1; have k2' := fun o => (row5 (row5_alloc hrow6 o)).2.2.2.2.2.2.2.1; have k3' := fun o => (row5 (row5_alloc hrow6 o)).2.2.2.2.2.2.2.2.1; have k4' := fun o => (row5 (row5_alloc hrow6 o)).2.2.2.2.2.2.2.2.2; have X6 := Lib.hid (And.intro hs6 (And.intro h6 (And.intro hN6 (And.intro hi6 hrow6)))); clear hs6 h6 hN6 hi6 hrow6))
    all_goals
      have hp8 := put5 (row5_alloc X6.out.2.2.2.2 (.cells #[.int .u8 (x.kind : Int), .string (tx x.text), .slice a1 x.l.len d1, .slice a2 x.body.len d2, .slice a3 x.els.len d3, .int .u8 (z.kind : Int), .string (tx z.text), .slice o1 z.l.len i1, .slice o2 z.body.len i2, .slice o3 z.els.len i3] TN)) (.int .u8 5) (.string ⟨#[94]⟩) (.slice (some ⟨w6.heap.size, 0, none⟩) 2 2) (.slice none 0 0) (.slice none 0 0)
      have hst8 := X4.out.bin (r2 := number q) (s := [94]) X6.out.1 X6.out.2.1 X6.out.2.2.1 X6.out.2.2.2.1 (by decide) hp8
      obtain ⟨w8, hw8, hst8⟩ := hide_world (P := fun w8 => RwSt _ _ _ _ _ _ _ _ _ _ w8) hst8
      rw [← hw8]
      have X8 := Lib.hid hst8
      clear hw8 hp8 x0' x1' x2' x3' x4' g0' g1' g2' g3' g4' y0' y1' y2' y3' y4' k0' k1' k2' k3' k4' x0 x1 x2 x3 x4 e0 e1 e2 e3 e4
      obtain ⟨z0, z1, z2, z3, z4, _, _, _, _, _⟩ := row5 hst8.box
      obtain ⟨y0, y1, y2, y3, y4, f0, f1, f2, f3, f4⟩ := row5 hst8.hA.row
      clear hst8
      go_wp2_with fail
      have hp := put5 X8.out.hA.row (.int .u8 5) (.string ⟨#[94]⟩) (.slice (some ⟨w6.heap.size, 0, none⟩) 2 2) (.slice none 0 0) (.slice none 0 0)
      refine bodyPost_ret (results_cell1 rfl _ _ _ rfl (nodeVar _ c _ _ _ _ _ hp.row)) rfl ?_
      rw [← HR1.out]
      show GotR w rb tv xs inn (sgPow x ([94] :: q)) _ _
      rw [sgPow_yes]
      exact X8.out.fin hp
  · have hno : No r1.isBad r1.rest [94] := No.gate fun y q e hq => by
      obtain ⟨q', rfl⟩ := head_form hq
      obtain rfl := X2.out.is y _ e
      exact hh ⟨q', e⟩
    have htot : r1.then_ sgPow = r1 := by
      cases hr : r1 with
      | bad q => rfl
      | ok y q =>
        obtain rfl := X2.out.is y _ hr
        exact sgPow_no y q fun hq => by obtain ⟨q', rfl⟩ := head_form hq; exact hh ⟨q', hr⟩
    have HTT := Lib.hid htot
    obtain ⟨z0, z1, z2, z3, z4, _, _, _, _, _⟩ := row5 X2.out.box
    obtain ⟨y0, y1, y2, y3, y4, f0, f1, f2, f3, f4⟩ := row5 X2.out.hA.row
    clear hh htot
    refine tk_no X2.out.rd [94] hno ?_
    clear hno
    go_wp2_with fail
    have hp := put5 X2.out.hA.row (.int .u8 (x.kind : Int)) (.string (tx x.text)) (.slice a1 x.l.len d1) (.slice a2 x.body.len d2) (.slice a3 x.els.len d3)
    refine bodyPost_ret (results_cell1 rfl _ _ _ rfl (nodeVar _ c _ _ _ _ _ hp.row)) rfl ?_
    rw [← HR1.out, HTT.out]
    exact X2.out.fin hp
end Go.Proofs.YtcldcigopkfmmaaGreatDoor
