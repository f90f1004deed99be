/- Trees, as the document has them: the reader: an atom. -/
import Derived.Test.YtcldcigopkfmmaaGreatDoorRrStQ
namespace Go.Proofs.YtcldcigopkfmmaaGreatDoor
open Go.RowKit Go.My Go.Nd

set_option maxRecDepth 100000 in
set_option maxHeartbeats 2000000 in
theorem ratom_paren {rb : Nat} {tv : Value} {xs : List To.T} {inn : Bool} {n : Nat} (hex : RReads 109 rb tv xs inn n expr) {w : World} {r : List Tx} (hn : r.length ≤ n) (h : Rr w rb tv xs ([40] :: r) inn false) :
    Calls Tryz.prog 174 #[.pointer (some ⟨rb, 0, none⟩)] w (GotR w rb tv xs inn ((expr r).then_ fun x r' => must [41] x r')) := by
  have R0 := RA.start h.lt
  have h0 := h.later (Put.new w #[.int .u8 0, .string ⟨#[]⟩, .slice none 0 0, .slice none 0 0, .slice none 0 0] TN).1
  obtain ⟨c, hc⟩ : ∃ c, c = w.heap.size := ⟨_, rfl⟩
  obtain ⟨wA, hwA⟩ : ∃ wA, wA = w.alloc (.cells #[.int .u8 0, .string ⟨#[]⟩, .slice none 0 0, .slice none 0 0, .slice none 0 0] TN) := ⟨_, rfl⟩
  rw [← hwA] at R0 h0
  rw [← hc] at R0
  have X0 := Lib.hid (And.intro R0 h0)
  clear h R0 h0
  have HE := Lib.hid (And.intro hex hn)
  clear hex hn
  go_enter Tryz.func174, Tryz.ntmps174
  go_upto_region 1 with fail
  rw [← hwA, ← hc]
  clear hwA hc
  go_wp2_with fail
  refine tk_yes X0.out.2 fun w1 hs1 h1 => ?_
  have X1 := Lib.hid (And.intro (X0.out.1.step hs1) h1)
  clear hs1 h1
  go_wp2_with fail
  refine (HE.out.1 w1 r false HE.out.2 X1.out.2).mono ?_
  rintro e w2 ⟨hs2, h2, v, x, rfl, hN, hi⟩
  rw [gate_ok] at h2 hi
  obtain ⟨a1, d1, a2, d2, a3, d3, rfl⟩ := hN.form
  have hst := RwSt.start X1.out.1 hs2 h2 hN hi
  obtain ⟨b3, hb3⟩ : ∃ b3, b3 = w2.heap.size := ⟨_, rfl⟩
  obtain ⟨w3, hw3⟩ : ∃ w3, w3 = w2.alloc (.cells #[.int .u8 (x.kind : Int), .string (tx x.text), .slice a1 x.l.len d1, .slice a2 x.body.len d2, .slice a3 x.els.len d3] TN) := ⟨_, rfl⟩
  rw [← hw3, ← hb3] at hst
  have X2 := Lib.hid hst
  clear hst hs2 h2 hN hi
  go_upto_region 3 with fail
  rw [← hw3, ← hb3]
  clear hw3 hb3
  go_wp2_with fail
  refine mu_any X2.out.rd [41] fun w4 hs4 h4 => ?_
  have h4' := mustG_rest (expr r) [41]
  rw [← h4'.1, ← h4'.2] at h4
  have hst := X2.out.step hs4 h4 (X2.out.is.must [41])
  obtain ⟨x0, x1, x2, x3, x4, _, _, _, _, _⟩ := row5 hst.box
  obtain ⟨y0, y1, y2, y3, y4, g0, g1, g2, g3, g4⟩ := row5 hst.hA.row
  have X4 := Lib.hid hst
  clear hs4 h4 h4' hst
  go_wp2_with fail
  have hp := put5 X4.out.hA.row (.int .u8 (x.kind : Int)) (.string (tx x.text)) (.slice a1 x.l.len d1) (.slice a2 x.body.len d2) (.slice a3 x.els.len d3)
  refine bodyPost_ret (results_cell1 rfl _ _ _ rfl (nodeVar _ c _ _ _ _ _ hp.row)) rfl ?_
  exact X4.out.fin hp

/-- A list in a node. -/
theorem RA.listR {w : World} {rb c : Nat} {w2 w3 w4 : World} {tv : Value} {xs : List To.T} {inn : Bool} {r : R (List Nd)} {l : List Nd} {v : Value} {k : Nat} {s : Tx} (hA : RA w rb c w2) (hk : k < 256) (hs : s.length ≤ 65536) (hs3 : Step w2 w3 (some rb)) (h3 : Rr w3 rb tv xs r.rest inn r.isBad) (hL : LR w3 TN w2.heap.size w3.heap.size v (Ns.of l)) (hi : r.Is l)
    (hp : Put w3 w4 c #[.int .u8 (k : Int), .string (bs s), v, .slice none 0 0, .slice none 0 0] TN) : GotR w rb tv xs inn (r.map fun l => ⟨k, s, Ns.of l, .nil, .nil⟩) (.returned (.agg #[.int .u8 (k : Int), .string (bs s), v, .slice none 0 0, .slice none 0 0])) w4 := by
  have hN : NR w3 TN w2.heap.size w3.heap.size (.agg #[.int .u8 (k : Int), .string (tx s), v, .slice none 0 0, .slice none 0 0]) ⟨k, s, Ns.of l, .nil, .nil⟩ := NR.mk hk (Nat.le_trans hs (by decide)) hL (LR.nil _ _ _ _) (LR.nil _ _ _ _) hs3.size (Nat.le_refl _) (Nat.le_refl _)
  have hlt := hA.lt
  refine (hA.step hs3).finR (S := fun b => c < b) (x := ⟨k, s, Ns.of l, .nil, .nil⟩) ?_ (hN.ns fun b h1 _ => by omega) (fun _ h => h) hp (hi.map _)
  rw [R.map_rest, R.map_isBad]
  exact h3

set_option maxRecDepth 100000 in
set_option maxHeartbeats 2000000 in
theorem ratom_list {rb : Nat} {tv : Value} {xs : List To.T} {inn : Bool} {n : Nat} (hex : RReads 109 rb tv xs inn n expr) {w : World} {r : List Tx} (hn : r.length ≤ n) (h : Rr w rb tv xs ([91] :: r) inn false) :
    Calls Tryz.prog 174 #[.pointer (some ⟨rb, 0, none⟩)] w (GotR w rb tv xs inn ((several [93] expr r).map fun l => ⟨3, [], Ns.of l, .nil, .nil⟩)) := by
  have R0 := RA.start h.lt
  have h0 := h.later (Put.new w #[.int .u8 0, .string ⟨#[]⟩, .slice none 0 0, .slice none 0 0, .slice none 0 0] TN).1
  obtain ⟨c, hc⟩ : ∃ c, c = w.heap.size := ⟨_, rfl⟩
  obtain ⟨wA, hwA⟩ : ∃ wA, wA = w.alloc (.cells #[.int .u8 0, .string ⟨#[]⟩, .slice none 0 0, .slice none 0 0, .slice none 0 0] TN) := ⟨_, rfl⟩
  rw [← hwA] at R0 h0
  rw [← hc] at R0
  have X0 := Lib.hid (And.intro R0 h0)
  clear h R0 h0
  have HE := Lib.hid (And.intro hex hn)
  clear hex hn
  go_enter Tryz.func174, Tryz.ntmps174
  go_upto_region 1 with fail
  rw [← hwA, ← hc]
  clear hwA hc
  go_wp2_with fail
  refine tk_no X0.out.2 [40] (No.head (by simp) _) ?_
  go_wp2_with fail
  refine tk_yes X0.out.2 fun w2 hs2 h2 => ?_
  have X2 := Lib.hid (And.intro (X0.out.1.step hs2) h2)
  clear hs2 h2
  go_wp2_with fail
  refine (rsev_t HE.out.1 expr_down [93] (by decide) HE.out.2 X2.out.2).mono ?_
  rintro e w3 ⟨hs3, h3, v, l, rfl, hL, hi⟩
  rw [gate_ok] at h3 hi
  obtain ⟨a1, d1, rfl⟩ := hL.form
  have R3 := X2.out.1.step hs3
  obtain ⟨y0, y1, y2, y3, y4, g0, g1, g2, g3, g4⟩ := row5 R3.row
  have X3 := Lib.hid (And.intro R3 (And.intro hs3 (And.intro h3 (And.intro hL hi))))
  clear hs3 h3 R3 hL hi
  go_wp2_with fail
  have hp := put5 X3.out.1.row (.int .u8 3) (.string ⟨#[]⟩) (.slice a1 (Ns.of l).len d1) (.slice none 0 0) (.slice none 0 0)
  refine bodyPost_ret (results_cell1 rfl _ _ _ rfl (nodeVar _ c _ _ _ _ _ hp.row)) rfl ?_
  exact RA.listR (k := 3) (s := []) X2.out.1 (by decide) (by decide) X3.out.2.1 X3.out.2.2.1 X3.out.2.2.2.1 X3.out.2.2.2.2 hp

set_option maxRecDepth 100000 in
set_option maxHeartbeats 4000000 in
theorem ratom_name {rb : Nat} {tv : Value} {xs : List To.T} {inn : Bool} {n : Nat} (hex : RReads 109 rb tv xs inn n expr) {w : World} {s : Tx} {r : List Tx} (hs : To.name s = true) (hn : r.length ≤ n) (h : Rr w rb tv xs (s :: r) inn false) :
    Calls Tryz.prog 174 #[.pointer (some ⟨rb, 0, none⟩)] w (GotR w rb tv xs inn (atomName s r)) := by
  have hsl : s.length ≤ 65536 := by obtain ⟨_, _, _, _, _, _, _, _, _, _, hs, _⟩ := h.token 0 (by simp); simpa using hs
  have R0 := RA.start h.lt
  have h0 := h.later (Put.new w #[.int .u8 0, .string ⟨#[]⟩, .slice none 0 0, .slice none 0 0, .slice none 0 0] TN).1
  obtain ⟨c, hc⟩ : ∃ c, c = w.heap.size := ⟨_, rfl⟩
  obtain ⟨wA, hwA⟩ : ∃ wA, wA = w.alloc (.cells #[.int .u8 0, .string ⟨#[]⟩, .slice none 0 0, .slice none 0 0, .slice none 0 0] TN) := ⟨_, rfl⟩
  rw [← hwA] at R0 h0
  rw [← hc] at R0
  have X0 := Lib.hid (And.intro R0 h0)
  clear h R0 h0
  have HE := Lib.hid (And.intro hex (And.intro hn (And.intro hs hsl)))
  clear hex hn hs hsl
  go_enter Tryz.func174, Tryz.ntmps174
  go_upto_region 1 with fail
  rw [← hwA, ← hc]
  clear hwA hc
  go_wp2_with fail
  refine tk_no X0.out.2 [40] (No.head (by simpa using name_not HE.out.2.2.1 [40] (by decide)) _) ?_
  go_wp2_with fail
  refine tk_no X0.out.2 [91] (No.head (by simpa using name_not HE.out.2.2.1 [91] (by decide)) _) ?_
  go_wp2_with fail
  refine atName_t X0.out.2 fun w2 hb2 => ?_
  rw [show nameAt false (s :: r) = true from HE.out.2.2.1]
  have X2 := Lib.hid (And.intro (X0.out.1.below hb2) (X0.out.2.later hb2))
  clear hb2
  go_wp2_with fail
  refine nm_yes X2.out.2 HE.out.2.2.1 fun w3 hs3 h3 => ?_
  have X3 := Lib.hid (And.intro (X2.out.1.step hs3) h3)
  clear hs3 h3
  go_wp2_with fail
  by_cases hh : r.head? = some [40]
  · obtain ⟨r', rfl⟩ := head_form hh
    clear hh
    refine tk_yes X3.out.2 fun w4 hs4 h4 => ?_
    have X4 := Lib.hid (And.intro (X3.out.1.step hs4) h4)
    clear hs4 h4
    go_wp2_with fail
    refine (rsev_t HE.out.1 expr_down [41] (by decide) (Nat.le_trans (Nat.le_succ _) HE.out.2.1) X4.out.2).mono ?_
    rintro e w5 ⟨hs5, h5, v, l, rfl, hL, hi⟩
    rw [gate_ok] at h5 hi
    obtain ⟨a1, d1, rfl⟩ := hL.form
    have R5 := X4.out.1.step hs5
    obtain ⟨y0, y1, y2, y3, y4, g0, g1, g2, g3, g4⟩ := row5 R5.row
    have X5 := Lib.hid (And.intro R5 (And.intro hs5 (And.intro h5 (And.intro hL hi))))
    clear hs5 h5 R5 hL hi
    go_wp2_with fail
    have hp := put5 X5.out.1.row (.int .u8 4) (.string (bs s)) (.slice a1 (Ns.of l).len d1) (.slice none 0 0) (.slice none 0 0)
    refine bodyPost_ret (results_cell1 rfl _ _ _ rfl (nodeVar _ c _ _ _ _ _ hp.row)) rfl ?_
    rw [atomName_call]
    exact RA.listR (k := 4) (s := s) X4.out.1 (by decide) HE.out.2.2.2 X5.out.2.1 X5.out.2.2.1 X5.out.2.2.2.1 X5.out.2.2.2.2 hp
  · refine tk_no X3.out.2 [40] (No.head hh _) ?_
    have HH := Lib.hid hh
    obtain ⟨y0, y1, y2, y3, y4, g0, g1, g2, g3, g4⟩ := row5 X3.out.1.row
    clear hh
    go_wp2_with fail
    have hp := put5 X3.out.1.row (.int .u8 2) (.string (bs s)) (.slice none 0 0) (.slice none 0 0) (.slice none 0 0)
    refine bodyPost_ret (results_cell1 rfl _ _ _ rfl (nodeVar _ c _ _ _ _ _ hp.row)) rfl ?_
    rw [atomName_no s r HH.out]
    exact X3.out.1.finR (r := .ok (Nd.leaf 2 s) r) X3.out.2 (NS.leaf _ 2 (by decide) s HE.out.2.2.2) (fun _ h => h.elim) hp (R.Is.ok _ _)

set_option maxRecDepth 100000 in
set_option maxHeartbeats 2000000 in
theorem ratom_num {rb : Nat} {tv : Value} {xs : List To.T} {inn bad : Bool} {w : World} {ts : List Tx} (k1 : No bad ts [40]) (k2 : No bad ts [91]) (hs : nameAt bad ts = false) (h : Rr w rb tv xs ts inn bad) :
    Calls Tryz.prog 174 #[.pointer (some ⟨rb, 0, none⟩)] w (GotR w rb tv xs inn (gate bad ts (number ts))) := by
  have R0 := RA.start h.lt
  have h0 := h.later (Put.new w #[.int .u8 0, .string ⟨#[]⟩, .slice none 0 0, .slice none 0 0, .slice none 0 0] TN).1
  obtain ⟨c, hc⟩ : ∃ c, c = w.heap.size := ⟨_, rfl⟩
  obtain ⟨wA, hwA⟩ : ∃ wA, wA = w.alloc (.cells #[.int .u8 0, .string ⟨#[]⟩, .slice none 0 0, .slice none 0 0, .slice none 0 0] TN) := ⟨_, rfl⟩
  rw [← hwA] at R0 h0
  rw [← hc] at R0
  have X0 := Lib.hid (And.intro R0 h0)
  clear h R0 h0
  have HE := Lib.hid (And.intro k1 (And.intro k2 hs))
  clear k1 k2 hs
  go_enter Tryz.func174, Tryz.ntmps174
  go_upto_region 1 with fail
  rw [← hwA, ← hc]
  clear hwA hc
  go_wp2_with fail
  refine tk_no X0.out.2 [40] HE.out.1 ?_
  go_wp2_with fail
  refine tk_no X0.out.2 [91] HE.out.2.1 ?_
  go_wp2_with fail
  refine atName_t X0.out.2 fun w2 hb2 => ?_
  rw [HE.out.2.2]
  have X2 := Lib.hid (And.intro (X0.out.1.below hb2) (X0.out.2.later hb2))
  clear hb2
  go_wp2_with fail
  refine (rnumber_t X2.out.2).mono ?_
  rintro e w3 ⟨hs3, h3, v, x, rfl, hN, hi⟩
  obtain ⟨a1, d1, a2, d2, a3, d3, rfl⟩ := hN.form
  have R3 := X2.out.1.step hs3
  obtain ⟨y0, y1, y2, y3, y4, g0, g1, g2, g3, g4⟩ := row5 R3.row
  have X3 := Lib.hid (And.intro R3 (And.intro h3 (And.intro (NR.past X2.out.1 hN) hi)))
  clear hs3 h3 R3 hN hi
  go_wp2_with fail
  have hp := put5 X3.out.1.row (.int .u8 (x.kind : Int)) (.string (tx x.text)) (.slice a1 x.l.len d1) (.slice a2 x.body.len d2) (.slice a3 x.els.len d3)
  refine bodyPost_ret (results_cell1 rfl _ _ _ rfl (nodeVar _ c _ _ _ _ _ hp.row)) rfl ?_
  exact X3.out.1.finR X3.out.2.1 X3.out.2.2.1 (fun _ h => h) hp X3.out.2.2.2

/-- AN ATOM. -/
theorem ratom_r {rb : Nat} {tv : Value} {xs : List To.T} {inn : Bool} {n : Nat} (hex : RReads 109 rb tv xs inn n expr) : RReads 174 rb tv xs inn (n + 1) (atom expr) := by
  intro w ts bad hn h
  cases bad with
  | true => exact ratom_num (No.bad _ _) (No.bad _ _) rfl h
  | false =>
    cases ts with
    | nil => exact ratom_num (No.head (by simp) _) (No.head (by simp) _) (by decide) h
    | cons s r =>
      have hr : r.length ≤ n := by rw [List.length_cons] at hn; omega
      rw [gate_ok]
      unfold atom
      simp only
      by_cases h1 : s = [40]
      · subst h1; rw [if_pos rfl]; exact ratom_paren hex hr h
      · rw [if_neg h1]
        by_cases h2 : s = [91]
        · subst h2; rw [if_pos rfl]; exact ratom_list hex hr h
        · rw [if_neg h2]
          cases hm : To.name s with
          | true => rw [if_pos rfl]; exact ratom_name hex hm hr h
          | false =>
            rw [if_neg (by decide)]
            have := ratom_num (bad := false) (No.head (by simpa using h1) _) (No.head (by simpa using h2) _) (show nameAt false (s :: r) = false from hm) h
            rwa [gate_ok] at this
end Go.Proofs.YtcldcigopkfmmaaGreatDoor
