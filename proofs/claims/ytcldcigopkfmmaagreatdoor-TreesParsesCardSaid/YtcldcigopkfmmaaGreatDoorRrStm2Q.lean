/- Trees, as the document has them: the reader: a statement, whatever it is. -/
import Derived.Test.YtcldcigopkfmmaaGreatDoorRrStmQ
namespace Go.Proofs.YtcldcigopkfmmaaGreatDoor
open Go.RowKit Go.My Go.Nd


set_option maxRecDepth 100000 in
set_option maxHeartbeats 4000000 in
theorem rstm_return {rb : Nat} {tv : Value} {xs : List To.T} {w : World} {r : List Tx} (h : Rr w rb tv xs ([114, 101, 116, 117, 114, 110] :: r) true false) :
    Calls Tryz.prog 60 #[.pointer (some ⟨rb, 0, none⟩)] w (GotR w rb tv xs true (ends 11 [] r)) := by
  have R0 := RA.start h.lt
  have h0 := h.later (Put.new w #[.int .u8 0, .string ⟨#[]⟩, .slice none 0 0, .slice none 0 0, .slice none 0 0] TN).1
  obtain ⟨c, hc⟩ : ∃ c, c = w.heap.size := ⟨_, rfl⟩
  obtain ⟨wA, hwA⟩ : ∃ wA, wA = w.alloc (.cells #[.int .u8 0, .string ⟨#[]⟩, .slice none 0 0, .slice none 0 0, .slice none 0 0] TN) := ⟨_, rfl⟩
  rw [← hwA] at R0 h0
  rw [← hc] at R0
  have X0 := Lib.hid (And.intro R0 h0)
  clear h R0 h0
  have HE := Lib.hid (And.intro (No.head (ts := [114, 101, 116, 117, 114, 110] :: r) (s := [105, 102]) (by simp) false) (And.intro (No.head (ts := [114, 101, 116, 117, 114, 110] :: r) (s := [119, 104, 105, 108, 101]) (by simp) false) trivial))
  go_enter Tryz.func60, Tryz.ntmps60
  go_upto_region 1 with fail
  rw [← hwA, ← hc]
  clear hwA hc
  go_wp2_with fail
  refine tk_no X0.out.2 [105, 102] HE.out.1 ?_
  go_wp2_with fail
  refine tk_no X0.out.2 [119, 104, 105, 108, 101] HE.out.2.1 ?_
  obtain ⟨_, _, c2, _, _, _, _⟩ := X0.out.2.cell
  go_wp2_with fail
  refine tk_yes X0.out.2 fun w2 hs2 h2 => ?_
  have X2 := Lib.hid (And.intro (X0.out.1.step hs2) h2)
  clear hs2 h2 c2
  go_wp2_with fail
  refine (rends_t X2.out.2).mono ?_
  rintro e w3 ⟨hs3, h3, v, l, rfl, hL, hi⟩
  obtain ⟨a1, d1, rfl⟩ := hL.form
  have R3 := X2.out.1.step hs3
  obtain ⟨y0, y1, y2, y3, y4, g0, g1, g2, g3, g4⟩ := row5 R3.row
  have X3 := Lib.hid (And.intro R3 (And.intro hs3 (And.intro h3 (And.intro hL hi))))
  clear hs3 h3 R3 hL hi
  go_wp2_with fail
  have hp := put5 X3.out.1.row (.int .u8 11) (.string ⟨#[]⟩) (.slice a1 (Ns.of l).len d1) (.slice none 0 0) (.slice none 0 0)
  refine bodyPost_ret (results_cell1 rfl _ _ _ rfl (nodeVar _ c _ _ _ _ _ hp.row)) rfl ?_
  rw [ends_map]
  exact RA.listR (k := 11) (s := []) X2.out.1 (by decide) (by decide) X3.out.2.1 X3.out.2.2.1 X3.out.2.2.2.1 X3.out.2.2.2.2 hp

set_option maxRecDepth 100000 in
set_option maxHeartbeats 4000000 in
theorem rstm_tell {rb : Nat} {tv : Value} {xs : List To.T} {inn : Bool} {w : World} {r : List Tx} (h : Rr w rb tv xs ([116, 101, 108, 108] :: r) inn false) :
    Calls Tryz.prog 60 #[.pointer (some ⟨rb, 0, none⟩)] w (GotR w rb tv xs inn (ends 12 [] r)) := by
  have R0 := RA.start h.lt
  have h0 := h.later (Put.new w #[.int .u8 0, .string ⟨#[]⟩, .slice none 0 0, .slice none 0 0, .slice none 0 0] TN).1
  obtain ⟨c, hc⟩ : ∃ c, c = w.heap.size := ⟨_, rfl⟩
  obtain ⟨wA, hwA⟩ : ∃ wA, wA = w.alloc (.cells #[.int .u8 0, .string ⟨#[]⟩, .slice none 0 0, .slice none 0 0, .slice none 0 0] TN) := ⟨_, rfl⟩
  rw [← hwA] at R0 h0
  rw [← hc] at R0
  have X0 := Lib.hid (And.intro R0 h0)
  clear h R0 h0
  have HE := Lib.hid (And.intro (No.head (ts := [116, 101, 108, 108] :: r) (s := [105, 102]) (by simp) false) (And.intro (No.head (ts := [116, 101, 108, 108] :: r) (s := [119, 104, 105, 108, 101]) (by simp) false) trivial))
  cases inn with
  | true =>
    go_enter Tryz.func60, Tryz.ntmps60
    go_upto_region 1 with fail
    rw [← hwA, ← hc]
    clear hwA hc
    go_wp2_with fail
    refine tk_no X0.out.2 [105, 102] HE.out.1 ?_
    go_wp2_with fail
    refine tk_no X0.out.2 [119, 104, 105, 108, 101] HE.out.2.1 ?_
    obtain ⟨_, _, c2, _, _, _, _⟩ := X0.out.2.cell
    go_wp2_with fail
    refine tk_no X0.out.2 [114, 101, 116, 117, 114, 110] (No.head (by simp) _) ?_
    clear c2
    go_wp2_with fail
    refine tk_yes X0.out.2 fun w2 hs2 h2 => ?_
    have X2 := Lib.hid (And.intro (X0.out.1.step hs2) h2)
    clear hs2 h2
    go_wp2_with fail
    refine (rends_t X2.out.2).mono ?_
    rintro e w3 ⟨hs3, h3, v, l, rfl, hL, hi⟩
    obtain ⟨a1, d1, rfl⟩ := hL.form
    have R3 := X2.out.1.step hs3
    obtain ⟨y0, y1, y2, y3, y4, g0, g1, g2, g3, g4⟩ := row5 R3.row
    have X3 := Lib.hid (And.intro R3 (And.intro hs3 (And.intro h3 (And.intro hL hi))))
    clear hs3 h3 R3 hL hi
    go_wp2_with fail
    have hp := put5 X3.out.1.row (.int .u8 12) (.string ⟨#[]⟩) (.slice a1 (Ns.of l).len d1) (.slice none 0 0) (.slice none 0 0)
    refine bodyPost_ret (results_cell1 rfl _ _ _ rfl (nodeVar _ c _ _ _ _ _ hp.row)) rfl ?_
    rw [ends_map]
    exact RA.listR (k := 12) (s := []) X2.out.1 (by decide) (by decide) X3.out.2.1 X3.out.2.2.1 X3.out.2.2.2.1 X3.out.2.2.2.2 hp
  | false =>
    go_enter Tryz.func60, Tryz.ntmps60
    go_upto_region 1 with fail
    rw [← hwA, ← hc]
    clear hwA hc
    go_wp2_with fail
    refine tk_no X0.out.2 [105, 102] HE.out.1 ?_
    go_wp2_with fail
    refine tk_no X0.out.2 [119, 104, 105, 108, 101] HE.out.2.1 ?_
    obtain ⟨_, _, c2, _, _, _, _⟩ := X0.out.2.cell
    go_wp2_with fail
    refine tk_yes X0.out.2 fun w2 hs2 h2 => ?_
    have X2 := Lib.hid (And.intro (X0.out.1.step hs2) h2)
    clear hs2 h2 c2
    go_wp2_with fail
    refine (rends_t X2.out.2).mono ?_
    rintro e w3 ⟨hs3, h3, v, l, rfl, hL, hi⟩
    obtain ⟨a1, d1, rfl⟩ := hL.form
    have R3 := X2.out.1.step hs3
    obtain ⟨y0, y1, y2, y3, y4, g0, g1, g2, g3, g4⟩ := row5 R3.row
    have X3 := Lib.hid (And.intro R3 (And.intro hs3 (And.intro h3 (And.intro hL hi))))
    clear hs3 h3 R3 hL hi
    go_wp2_with fail
    have hp := put5 X3.out.1.row (.int .u8 12) (.string ⟨#[]⟩) (.slice a1 (Ns.of l).len d1) (.slice none 0 0) (.slice none 0 0)
    refine bodyPost_ret (results_cell1 rfl _ _ _ rfl (nodeVar _ c _ _ _ _ _ hp.row)) rfl ?_
    rw [ends_map]
    exact RA.listR (k := 12) (s := []) X2.out.1 (by decide) (by decide) X3.out.2.1 X3.out.2.2.1 X3.out.2.2.2.1 X3.out.2.2.2.2 hp


set_option maxRecDepth 100000 in
set_option maxHeartbeats 4000000 in
theorem rstm_let {rb : Nat} {tv : Value} {xs : List To.T} {inn : Bool} {w : World} {s : Tx} {q : List Tx} (hs : To.name s = true) (h : Rr w rb tv xs (s :: [61] :: q) inn false) :
    Calls Tryz.prog 60 #[.pointer (some ⟨rb, 0, none⟩)] w (GotR w rb tv xs inn (ends 8 s q)) := by
  have hsl : s.length ≤ 65536 := by obtain ⟨_, _, _, _, _, _, _, _, _, _, hs, _⟩ := h.token 0 (by simp); simpa using hs
  have hno : ∀ u, To.name u = false → No false (s :: [61] :: q) u := fun u hu => No.head (by simpa using name_not hs u hu) _
  have R0 := RA.start h.lt
  have h0 := h.later (Put.new w #[.int .u8 0, .string ⟨#[]⟩, .slice none 0 0, .slice none 0 0, .slice none 0 0] TN).1
  obtain ⟨c, hc⟩ : ∃ c, c = w.heap.size := ⟨_, rfl⟩
  obtain ⟨wA, hwA⟩ : ∃ wA, wA = w.alloc (.cells #[.int .u8 0, .string ⟨#[]⟩, .slice none 0 0, .slice none 0 0, .slice none 0 0] TN) := ⟨_, rfl⟩
  rw [← hwA] at R0 h0
  rw [← hc] at R0
  have X0 := Lib.hid (And.intro R0 h0)
  clear h R0 h0
  have HE := Lib.hid (And.intro (hno [105, 102] (by decide)) (And.intro (hno [119, 104, 105, 108, 101] (by decide)) (And.intro (fun (_ : inn = true) => hno [114, 101, 116, 117, 114, 110] (by decide)) (And.intro (hno [116, 101, 108, 108] (by decide)) (And.intro hs hsl)))))
  clear hno hs hsl
  have main : ∀ (w2 : World), RA w rb c w2 → Rr w2 rb tv xs q inn false → Calls Tryz.prog 110 #[.pointer (some ⟨rb, 0, none⟩)] w2 (GotLR w2 rb tv xs inn ((expr q).then_ fun x q => must [59] [x] q)) := fun w2 _ h2 => by have := rends_t h2; rwa [gate_ok] at this
  cases inn with
  | true =>
    go_enter Tryz.func60, Tryz.ntmps60
    go_upto_region 1 with fail
    rw [← hwA, ← hc]
    clear hwA hc
    go_wp2_with fail
    refine tk_no X0.out.2 [105, 102] HE.out.1 ?_
    go_wp2_with fail
    refine tk_no X0.out.2 [119, 104, 105, 108, 101] HE.out.2.1 ?_
    obtain ⟨_, _, c2, _, _, _, _⟩ := X0.out.2.cell
    go_wp2_with fail
    refine tk_no X0.out.2 [114, 101, 116, 117, 114, 110] (by first | exact HE.out.2.2.1 rfl | exact HE.out.2.2.1 trivial) ?_
    clear c2
    go_wp2_with fail
    refine tk_no X0.out.2 [116, 101, 108, 108] HE.out.2.2.2.1 ?_
    go_wp2_with fail
    refine atName_t X0.out.2 fun w1 hb1 => ?_
    rw [show nameAt false (s :: [61] :: q) = true from HE.out.2.2.2.2.1]
    have X1 := Lib.hid (And.intro (X0.out.1.below hb1) (X0.out.2.later hb1))
    clear hb1
    go_wp2_with fail
    refine is_t X1.out.2 [61] 1 (by decide) ?_
    rw [show (!false && ((s :: [61] :: q)[1]? == some [61])) = true by simp]
    go_wp2_with fail
    refine nm_yes X1.out.2 HE.out.2.2.2.2.1 fun w2 hs2 h2 => ?_
    have hm := h2.one_more
    have hl := h2.len
    obtain ⟨_, c1, _, _, f1, _, _⟩ := h2.cell
    obtain ⟨p, hp⟩ : ∃ p, p = xs.length - ([61] :: q : List Tx).length := ⟨_, rfl⟩
    obtain ⟨p', hp'⟩ : ∃ p', p' = xs.length - q.length := ⟨_, rfl⟩
    rw [← hp, ← hp'] at hm
    rw [← hp] at c1
    have p0 : (0 : Int) ≤ (p : Int) := by omega
    have p1 : (p : Int) < 65536 := by omega
    have hput := h2.put1
    have hnx := h2.next hput
    have hst := (X1.out.1.step hs2).step hput.step
    rw [← hp'] at hnx hst
    obtain ⟨w3, hw3⟩ : ∃ w3, w3 = w2.setCell ⟨rb, 1, none⟩ (.int .i64 (p' : Int)) := ⟨_, rfl⟩
    rw [← hw3] at hnx hst
    have X2 := Lib.hid (And.intro hst hnx)
    have HM := Lib.hid hm
    clear hs2 h2 hm hl hp hp' hput hnx hst
    go_upto_region 18 with fail
    rw [HM.out, ← hw3]
    clear hw3 c1 f1
    go_wp2_with fail
    refine (main w3 X2.out.1 X2.out.2).mono ?_
    rintro e w3 ⟨hs3, h3, v, l, rfl, hL, hi⟩
    obtain ⟨a1, d1, rfl⟩ := hL.form
    have R3 := X2.out.1.step hs3
    obtain ⟨y0, y1, y2, y3, y4, g0, g1, g2, g3, g4⟩ := row5 R3.row
    have X3 := Lib.hid (And.intro R3 (And.intro hs3 (And.intro h3 (And.intro hL hi))))
    clear hs3 h3 R3 hL hi
    go_wp2_with fail
    have hp := put5 X3.out.1.row (.int .u8 8) (.string (bs s)) (.slice a1 (Ns.of l).len d1) (.slice none 0 0) (.slice none 0 0)
    refine bodyPost_ret (results_cell1 rfl _ _ _ rfl (nodeVar _ c _ _ _ _ _ hp.row)) rfl ?_
    rw [ends_map]
    exact RA.listR (k := 8) (s := s) X2.out.1 (by decide) HE.out.2.2.2.2.2 X3.out.2.1 X3.out.2.2.1 X3.out.2.2.2.1 X3.out.2.2.2.2 hp
  | false =>
    go_enter Tryz.func60, Tryz.ntmps60
    go_upto_region 1 with fail
    rw [← hwA, ← hc]
    clear hwA hc
    go_wp2_with fail
    refine tk_no X0.out.2 [105, 102] HE.out.1 ?_
    go_wp2_with fail
    refine tk_no X0.out.2 [119, 104, 105, 108, 101] HE.out.2.1 ?_
    obtain ⟨_, _, c2, _, _, _, _⟩ := X0.out.2.cell
    go_wp2_with fail
    clear c2
    refine tk_no X0.out.2 [116, 101, 108, 108] HE.out.2.2.2.1 ?_
    go_wp2_with fail
    refine atName_t X0.out.2 fun w1 hb1 => ?_
    rw [show nameAt false (s :: [61] :: q) = true from HE.out.2.2.2.2.1]
    have X1 := Lib.hid (And.intro (X0.out.1.below hb1) (X0.out.2.later hb1))
    clear hb1
    go_wp2_with fail
    refine is_t X1.out.2 [61] 1 (by decide) ?_
    rw [show (!false && ((s :: [61] :: q)[1]? == some [61])) = true by simp]
    go_wp2_with fail
    refine nm_yes X1.out.2 HE.out.2.2.2.2.1 fun w2 hs2 h2 => ?_
    have hm := h2.one_more
    have hl := h2.len
    obtain ⟨_, c1, _, _, f1, _, _⟩ := h2.cell
    obtain ⟨p, hp⟩ : ∃ p, p = xs.length - ([61] :: q : List Tx).length := ⟨_, rfl⟩
    obtain ⟨p', hp'⟩ : ∃ p', p' = xs.length - q.length := ⟨_, rfl⟩
    rw [← hp, ← hp'] at hm
    rw [← hp] at c1
    have p0 : (0 : Int) ≤ (p : Int) := by omega
    have p1 : (p : Int) < 65536 := by omega
    have hput := h2.put1
    have hnx := h2.next hput
    have hst := (X1.out.1.step hs2).step hput.step
    rw [← hp'] at hnx hst
    obtain ⟨w3, hw3⟩ : ∃ w3, w3 = w2.setCell ⟨rb, 1, none⟩ (.int .i64 (p' : Int)) := ⟨_, rfl⟩
    rw [← hw3] at hnx hst
    have X2 := Lib.hid (And.intro hst hnx)
    have HM := Lib.hid hm
    clear hs2 h2 hm hl hp hp' hput hnx hst
    go_upto_region 18 with fail
    rw [HM.out, ← hw3]
    clear hw3 c1 f1
    go_wp2_with fail
    refine (main w3 X2.out.1 X2.out.2).mono ?_
    rintro e w3 ⟨hs3, h3, v, l, rfl, hL, hi⟩
    obtain ⟨a1, d1, rfl⟩ := hL.form
    have R3 := X2.out.1.step hs3
    obtain ⟨y0, y1, y2, y3, y4, g0, g1, g2, g3, g4⟩ := row5 R3.row
    have X3 := Lib.hid (And.intro R3 (And.intro hs3 (And.intro h3 (And.intro hL hi))))
    clear hs3 h3 R3 hL hi
    go_wp2_with fail
    have hp := put5 X3.out.1.row (.int .u8 8) (.string (bs s)) (.slice a1 (Ns.of l).len d1) (.slice none 0 0) (.slice none 0 0)
    refine bodyPost_ret (results_cell1 rfl _ _ _ rfl (nodeVar _ c _ _ _ _ _ hp.row)) rfl ?_
    rw [ends_map]
    exact RA.listR (k := 8) (s := s) X2.out.1 (by decide) HE.out.2.2.2.2.2 X3.out.2.1 X3.out.2.2.1 X3.out.2.2.2.1 X3.out.2.2.2.2 hp

set_option maxRecDepth 100000 in
set_option maxHeartbeats 4000000 in
theorem rstm_do {rb : Nat} {tv : Value} {xs : List To.T} {inn bad : Bool} {w : World} {ts : List Tx} (k1 : No bad ts [105, 102]) (k2 : No bad ts [119, 104, 105, 108, 101]) (k3 : inn = true → No bad ts [114, 101, 116, 117, 114, 110]) (k4 : No bad ts [116, 101, 108, 108]) (k5 : (nameAt bad ts && (!bad && (ts[1]? == some [61]))) = false) (h : Rr w rb tv xs ts inn bad) :
    Calls Tryz.prog 60 #[.pointer (some ⟨rb, 0, none⟩)] w (GotR w rb tv xs inn (gate bad ts (ends 13 [] ts))) := by
  have R0 := RA.start h.lt
  have h0 := h.later (Put.new w #[.int .u8 0, .string ⟨#[]⟩, .slice none 0 0, .slice none 0 0, .slice none 0 0] TN).1
  obtain ⟨c, hc⟩ : ∃ c, c = w.heap.size := ⟨_, rfl⟩
  obtain ⟨wA, hwA⟩ : ∃ wA, wA = w.alloc (.cells #[.int .u8 0, .string ⟨#[]⟩, .slice none 0 0, .slice none 0 0, .slice none 0 0] TN) := ⟨_, rfl⟩
  rw [← hwA] at R0 h0
  rw [← hc] at R0
  have X0 := Lib.hid (And.intro R0 h0)
  clear h R0 h0
  have HE := Lib.hid (And.intro k1 (And.intro k2 (And.intro k3 (And.intro k4 k5))))
  clear k1 k2 k3 k4 k5
  cases inn with
  | true =>
    go_enter Tryz.func60, Tryz.ntmps60
    go_upto_region 1 with fail
    rw [← hwA, ← hc]
    clear hwA hc
    go_wp2_with fail
    refine tk_no X0.out.2 [105, 102] HE.out.1 ?_
    go_wp2_with fail
    refine tk_no X0.out.2 [119, 104, 105, 108, 101] HE.out.2.1 ?_
    obtain ⟨_, _, c2, _, _, _, _⟩ := X0.out.2.cell
    go_wp2_with fail
    refine tk_no X0.out.2 [114, 101, 116, 117, 114, 110] (by first | exact HE.out.2.2.1 rfl | exact HE.out.2.2.1 trivial) ?_
    clear c2
    go_wp2_with fail
    refine tk_no X0.out.2 [116, 101, 108, 108] HE.out.2.2.2.1 ?_
    go_wp2_with fail
    refine atName_t X0.out.2 fun w1 hb1 => ?_
    have X2 := Lib.hid (And.intro (X0.out.1.below hb1) (X0.out.2.later hb1))
    clear hb1
    obtain ⟨m, hm⟩ : ∃ m, m = nameAt bad ts := ⟨_, rfl⟩
    have k5 := HE.out.2.2.2.2
    rw [← hm] at k5 ⊢
    have K5 := Lib.hid k5
    clear hm k5
    cases m with
    | true =>
      go_wp2_with fail
      refine is_t X2.out.2 [61] 1 (by decide) ?_
      rw [show (!bad && (ts[1]? == some [61])) = false by simpa using K5.out]
      go_wp2_with fail
      refine (rends_t X2.out.2).mono ?_
      rintro e w3 ⟨hs3, h3, v, l, rfl, hL, hi⟩
      obtain ⟨a1, d1, rfl⟩ := hL.form
      have R3 := X2.out.1.step hs3
      obtain ⟨y0, y1, y2, y3, y4, g0, g1, g2, g3, g4⟩ := row5 R3.row
      have X3 := Lib.hid (And.intro R3 (And.intro hs3 (And.intro h3 (And.intro hL hi))))
      clear hs3 h3 R3 hL hi
      go_wp2_with fail
      have hp := put5 X3.out.1.row (.int .u8 13) (.string ⟨#[]⟩) (.slice a1 (Ns.of l).len d1) (.slice none 0 0) (.slice none 0 0)
      refine bodyPost_ret (results_cell1 rfl _ _ _ rfl (nodeVar _ c _ _ _ _ _ hp.row)) rfl ?_
      rw [ends_map, ← gate_map]
      exact RA.listR (k := 13) (s := []) X2.out.1 (by decide) (by decide) X3.out.2.1 X3.out.2.2.1 X3.out.2.2.2.1 X3.out.2.2.2.2 hp
    | false =>
      go_wp2_with fail
      refine (rends_t X2.out.2).mono ?_
      rintro e w3 ⟨hs3, h3, v, l, rfl, hL, hi⟩
      obtain ⟨a1, d1, rfl⟩ := hL.form
      have R3 := X2.out.1.step hs3
      obtain ⟨y0, y1, y2, y3, y4, g0, g1, g2, g3, g4⟩ := row5 R3.row
      have X3 := Lib.hid (And.intro R3 (And.intro hs3 (And.intro h3 (And.intro hL hi))))
      clear hs3 h3 R3 hL hi
      go_wp2_with fail
      have hp := put5 X3.out.1.row (.int .u8 13) (.string ⟨#[]⟩) (.slice a1 (Ns.of l).len d1) (.slice none 0 0) (.slice none 0 0)
      refine bodyPost_ret (results_cell1 rfl _ _ _ rfl (nodeVar _ c _ _ _ _ _ hp.row)) rfl ?_
      rw [ends_map, ← gate_map]
      exact RA.listR (k := 13) (s := []) X2.out.1 (by decide) (by decide) X3.out.2.1 X3.out.2.2.1 X3.out.2.2.2.1 X3.out.2.2.2.2 hp
  | false =>
    go_enter Tryz.func60, Tryz.ntmps60
    go_upto_region 1 with fail
    rw [← hwA, ← hc]
    clear hwA hc
    go_wp2_with fail
    refine tk_no X0.out.2 [105, 102] HE.out.1 ?_
    go_wp2_with fail
    refine tk_no X0.out.2 [119, 104, 105, 108, 101] HE.out.2.1 ?_
    obtain ⟨_, _, c2, _, _, _, _⟩ := X0.out.2.cell
    go_wp2_with fail
    clear c2
    refine tk_no X0.out.2 [116, 101, 108, 108] HE.out.2.2.2.1 ?_
    go_wp2_with fail
    refine atName_t X0.out.2 fun w1 hb1 => ?_
    have X2 := Lib.hid (And.intro (X0.out.1.below hb1) (X0.out.2.later hb1))
    clear hb1
    obtain ⟨m, hm⟩ : ∃ m, m = nameAt bad ts := ⟨_, rfl⟩
    have k5 := HE.out.2.2.2.2
    rw [← hm] at k5 ⊢
    have K5 := Lib.hid k5
    clear hm k5
    cases m with
    | true =>
      go_wp2_with fail
      refine is_t X2.out.2 [61] 1 (by decide) ?_
      rw [show (!bad && (ts[1]? == some [61])) = false by simpa using K5.out]
      go_wp2_with fail
      refine (rends_t X2.out.2).mono ?_
      rintro e w3 ⟨hs3, h3, v, l, rfl, hL, hi⟩
      obtain ⟨a1, d1, rfl⟩ := hL.form
      have R3 := X2.out.1.step hs3
      obtain ⟨y0, y1, y2, y3, y4, g0, g1, g2, g3, g4⟩ := row5 R3.row
      have X3 := Lib.hid (And.intro R3 (And.intro hs3 (And.intro h3 (And.intro hL hi))))
      clear hs3 h3 R3 hL hi
      go_wp2_with fail
      have hp := put5 X3.out.1.row (.int .u8 13) (.string ⟨#[]⟩) (.slice a1 (Ns.of l).len d1) (.slice none 0 0) (.slice none 0 0)
      refine bodyPost_ret (results_cell1 rfl _ _ _ rfl (nodeVar _ c _ _ _ _ _ hp.row)) rfl ?_
      rw [ends_map, ← gate_map]
      exact RA.listR (k := 13) (s := []) X2.out.1 (by decide) (by decide) X3.out.2.1 X3.out.2.2.1 X3.out.2.2.2.1 X3.out.2.2.2.2 hp
    | false =>
      go_wp2_with fail
      refine (rends_t X2.out.2).mono ?_
      rintro e w3 ⟨hs3, h3, v, l, rfl, hL, hi⟩
      obtain ⟨a1, d1, rfl⟩ := hL.form
      have R3 := X2.out.1.step hs3
      obtain ⟨y0, y1, y2, y3, y4, g0, g1, g2, g3, g4⟩ := row5 R3.row
      have X3 := Lib.hid (And.intro R3 (And.intro hs3 (And.intro h3 (And.intro hL hi))))
      clear hs3 h3 R3 hL hi
      go_wp2_with fail
      have hp := put5 X3.out.1.row (.int .u8 13) (.string ⟨#[]⟩) (.slice a1 (Ns.of l).len d1) (.slice none 0 0) (.slice none 0 0)
      refine bodyPost_ret (results_cell1 rfl _ _ _ rfl (nodeVar _ c _ _ _ _ _ hp.row)) rfl ?_
      rw [ends_map, ← gate_map]
      exact RA.listR (k := 13) (s := []) X2.out.1 (by decide) (by decide) X3.out.2.1 X3.out.2.2.1 X3.out.2.2.2.1 X3.out.2.2.2.2 hp

/-- A STATEMENT. -/
theorem rstm_r {rb : Nat} {tv : Value} {xs : List To.T} {inn : Bool} : ∀ n, RReads 60 rb tv xs inn n (stm inn) := by
  have step : ∀ (ts : List Tx) (w : World) (bad : Bool), (∀ r s, ts = s :: r → RReads 60 rb tv xs inn r.length (stm inn)) → Rr w rb tv xs ts inn bad → Calls Tryz.prog 60 #[.pointer (some ⟨rb, 0, none⟩)] w (GotR w rb tv xs inn (gate bad ts (stm inn ts))) := by
    intro ts w bad ih h
    cases bad with
    | true => exact rstm_do (No.bad _ _) (No.bad _ _) (fun _ => No.bad _ _) (No.bad _ _) rfl h
    | false =>
      cases ts with
      | nil => exact rstm_do (No.head (by simp) _) (No.head (by simp) _) (fun _ => No.head (by simp) _) (No.head (by simp) _) (by decide) h
      | cons s r =>
        have hs := ih r s rfl
        rw [gate_ok, stm_cons]
        by_cases h1 : s = [105, 102]
        · subst h1; rw [if_pos rfl]; exact rstm_if hs (Nat.le_refl _) h
        rw [if_neg h1]
        by_cases h2 : s = [119, 104, 105, 108, 101]
        · subst h2; rw [if_pos rfl]; exact rstm_while hs (Nat.le_refl _) h
        rw [if_neg h2]
        by_cases h3 : s = [116, 101, 108, 108]
        · subst h3; rw [if_pos rfl]; exact rstm_tell h
        rw [if_neg h3]
        by_cases h4 : (inn && s == [114, 101, 116, 117, 114, 110]) = true
        · rw [if_pos h4]
          rw [Bool.and_eq_true] at h4
          obtain ⟨rfl, h4⟩ := h4
          obtain rfl : s = [114, 101, 116, 117, 114, 110] := by simpa using h4
          exact rstm_return h
        rw [if_neg h4]
        have n1 : No false (s :: r) [105, 102] := No.head (by simpa using h1) _
        have n2 : No false (s :: r) [119, 104, 105, 108, 101] := No.head (by simpa using h2) _
        have n3 : inn = true → No false (s :: r) [114, 101, 116, 117, 114, 110] := fun e => No.head (fun e' => by
          subst e
          obtain rfl : s = [114, 101, 116, 117, 114, 110] := by simpa using e'
          exact h4 (by decide)) _
        have n4 : No false (s :: r) [116, 101, 108, 108] := No.head (by simpa using h3) _
        cases r with
        | nil =>
          have := rstm_do (inn := inn) (bad := false) n1 n2 n3 n4 (by rw [Bool.and_eq_false_iff]; exact .inr (by rfl)) h
          rwa [gate_ok] at this
        | cons p q =>
          simp only
          by_cases h5 : (To.name s && p == [61]) = true
          · rw [if_pos h5]
            rw [Bool.and_eq_true] at h5
            obtain rfl : p = [61] := by simpa using h5.2
            exact rstm_let h5.1 h
          · rw [if_neg h5]
            have := rstm_do (inn := inn) (bad := false) n1 n2 n3 n4 (by
              rw [Bool.and_eq_false_iff]
              have h5' : (To.name s && p == [61]) = false := by simpa using h5
              rw [Bool.and_eq_false_iff] at h5'
              rcases h5' with h5' | h5'
              · exact .inl h5'
              · exact .inr (by simpa using h5')) h
            rwa [gate_ok] at this
  intro n
  induction n with
  | zero =>
    intro w ts bad hn h
    have : ts = [] := List.eq_nil_of_length_eq_zero (by omega)
    subst this
    exact step [] w bad (fun r s e => by cases e) h
  | succ n ih =>
    intro w ts bad hn h
    refine step ts w bad (fun r s e => ?_) h
    subst e
    intro w' us b hu h'
    exact ih w' us b (by rw [List.length_cons] at hn; omega) h'
end Go.Proofs.YtcldcigopkfmmaaGreatDoor
