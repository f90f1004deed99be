/- Trees: the reader: a statement. -/
import Derived.Test.YtobpnjnfpgcpaaaGreatDoorPxBranchT
import Derived.Test.YtobpnjnfpgcpaaaGreatDoorTrA3
namespace Go.Proofs.YtobpnjnfpgcpaaaGreatDoor
open Go.RowKit Go.My Go.Nd

/-- A method of the reader as a value. -/
def rdFn (rb : Nat) (f : FuncId) : Value := .func (.func f) #[.pointer (some ⟨rb, 0, none⟩)] #[]
/-- Which words begin a statement of their own kind. -/
def rowsF (rb : Nat) (inn : Bool) (s : Tx) : Option Value :=
  if inn = true ∧ s = [114, 101, 116, 117, 114, 110] then some (rdFn rb 99)
  else if s = [116, 101, 108, 108] then some (rdFn rb 98)
  else if s = [119, 104, 105, 108, 101] then some (rdFn rb 97)
  else if s = [105, 102] then some (rdFn rb 96)
  else none

theorem grown_below {n : Nat} {w w1 w2 : World} {b : Nat} (hb : Below n w w1) (hg : w1.grownBy w2 (some b)) (h : n ≤ b) (hn : n ≤ w.heap.size) : Below n w w2 :=
  Below.grown hb hg (Nat.le_trans hn hb.size) (fun k e => by cases e; exact h)

theorem rows_built (wA : World) (rb : Nat) (inn : Bool) : ∃ w2 w3 w4 wM,
    (Instr.mapUpdate 123 (.map (some wA.heap.size)) (.string ⟨#[105, 102]⟩) (rdFn rb 96)).run Tryz.prog (wA.alloc (.map #[] 0)) = .ok () w2 ∧
    (Instr.mapUpdate 123 (.map (some wA.heap.size)) (.string ⟨#[119, 104, 105, 108, 101]⟩) (rdFn rb 97)).run Tryz.prog w2 = .ok () w3 ∧
    (Instr.mapUpdate 123 (.map (some wA.heap.size)) (.string ⟨#[116, 101, 108, 108]⟩) (rdFn rb 98)).run Tryz.prog w3 = .ok () w4 ∧
    (inn = true → (Instr.mapUpdate 123 (.map (some wA.heap.size)) (.string ⟨#[114, 101, 116, 117, 114, 110]⟩) (rdFn rb 99)).run Tryz.prog w4 = .ok () wM) ∧ (inn = false → wM = w4) ∧
    MapS Tryz.prog 9 wM wA.heap.size 4 (rowsF rb inn) ∧ Below wA.heap.size wA w4 ∧ Below wA.heap.size wA wM := by
  have m0 := MapS.made wA Tryz.prog 9
  have hA : Below wA.heap.size wA (wA.alloc (.map #[] 0)) := Below.alloc (Below.refl _ wA) (Nat.le_refl _) _
  have ht : Tryz.prog.underlying 123 = some (.map 9 95) := Tryz.underlying123
  obtain ⟨w2, r2, m2, g2⟩ := m0.store Tryz.underlying9 ht (by decide) (s := [105, 102]) (by decide) (rdFn rb 96)
  obtain ⟨w3, r3, m3, g3⟩ := m2.store Tryz.underlying9 ht (by decide) (s := [119, 104, 105, 108, 101]) (by decide) (rdFn rb 97)
  obtain ⟨w4, r4, m4, g4⟩ := m3.store Tryz.underlying9 ht (by decide) (s := [116, 101, 108, 108]) (by decide) (rdFn rb 98)
  have b2 := grown_below hA g2 (Nat.le_refl _) (Nat.le_refl _)
  have b3 := grown_below b2 g3 (Nat.le_refl _) (Nat.le_refl _)
  have b4 := grown_below b3 g4 (Nat.le_refl _) (Nat.le_refl _)
  cases inn with
  | false =>
    refine ⟨w2, w3, w4, w4, r2, r3, r4, (fun e => by cases e), fun _ => rfl, ?_, b4, b4⟩
    have e : rowsF rb false = fun j => if j = [116, 101, 108, 108] then some (rdFn rb 98) else if j = [119, 104, 105, 108, 101] then some (rdFn rb 97) else if j = [105, 102] then some (rdFn rb 96) else none := by
      funext j; unfold rowsF; rw [if_neg (by simp)]
    rw [e]
    exact m4.mono (by decide)
  | true =>
    obtain ⟨w5, r5, m5, g5⟩ := m4.store Tryz.underlying9 ht (by decide) (s := [114, 101, 116, 117, 114, 110]) (by decide) (rdFn rb 99)
    refine ⟨w2, w3, w4, w5, r2, r3, r4, fun _ => r5, (fun e => by cases e), ?_, b4, grown_below b4 g5 (Nat.le_refl _) (Nat.le_refl _)⟩
    have e : rowsF rb true = fun j => if j = [114, 101, 116, 117, 114, 110] then some (rdFn rb 99) else if j = [116, 101, 108, 108] then some (rdFn rb 98) else if j = [119, 104, 105, 108, 101] then some (rdFn rb 97) else if j = [105, 102] then some (rdFn rb 96) else none := by
      funext j; unfold rowsF; simp only [true_and]
    rw [e]
    exact m5.mono (by decide)

theorem rowsF_nil (rb : Nat) (inn : Bool) : rowsF rb inn [] = none := by unfold rowsF; simp
theorem func_neq (f : Fn) (a b : Array Value) (w : World) : (binOp .neq 95 (.func f a b) .nilFunc).run Tryz.prog w = .ok (.bool true) w := by kernel_rfl
theorem nil_neq (w : World) : (binOp .neq 95 .nilFunc .nilFunc).run Tryz.prog w = .ok (.bool false) w := by kernel_rfl
theorem map_at {w : World} {mb n : Nat} {rb : Nat} {inn : Bool} (h : MapS Tryz.prog 9 w mb n (rowsF rb inn)) {s : Tx} (hs : s.length ≤ 65536) : (Instr.lookup 123 (.map (some mb)) (.string (bs s)) false).run Tryz.prog w = .ok ((rowsF rb inn s).getD .nilFunc) w :=
  h.at Tryz.underlying9 Tryz.underlying123 (z := .nilFunc) (by kernel_rfl) (by unfold maxLen; omega)

set_option maxRecDepth 100000 in
set_option maxHeartbeats 4000000 in
/-- A statement that begins with a word of its own. -/
theorem stmt_row {rb : Nat} {tv : Value} {xs : List To.T} {inn : Bool} {f : FuncId} {s : Tx} {r : List Tx} {res : R Nd} (hrow : rowsF rb inn s = some (rdFn rb f)) (hcf : ∀ (wx : World), (callFunc f #[.pointer (some ⟨rb, 0, none⟩)]).run Tryz.prog wx = .ok (.enter f #[.pointer (some ⟨rb, 0, none⟩)]) wx)
    (hf : ∀ w, Rd w rb tv xs r inn → Calls Tryz.prog f #[.pointer (some ⟨rb, 0, none⟩)] w (Got w rb tv xs inn res)) {w : World} (h : Rd w rb tv xs (s :: r) inn) :
    Calls Tryz.prog 62 #[.pointer (some ⟨rb, 0, none⟩)] w (Got w rb tv xs inn res) := by
  have hsl : s.length ≤ 65536 := by obtain ⟨_, _, _, _, _, _, _, _, _, _, _, _, hs⟩ := h.token 0 (by simp); simpa using hs
  have HE := Lib.hid (And.intro hrow (And.intro hf hsl))
  clear hrow hf hsl
  have tT := tokText
  have R0 := RA.start h.lt
  have h0 := h.later (Put.new w #[.int .u8 0, .string ⟨#[]⟩, .slice none 0 0, .slice none 0 0, .slice none 0 0] TN).1
  obtain ⟨c, hc⟩ : ∃ c, c = w.heap.size := ⟨_, rfl⟩
  obtain ⟨wA, hwA⟩ : ∃ wA, wA = w.alloc (.cells #[.int .u8 0, .string ⟨#[]⟩, .slice none 0 0, .slice none 0 0, .slice none 0 0] TN) := ⟨_, rfl⟩
  rw [← hwA] at R0 h0
  rw [← hc] at R0
  have X0 := Lib.hid (And.intro R0 h0)
  clear h R0 h0
  obtain ⟨w2, w3, w4, wM, r2, r3, r4, r5, r5', hM, b4, bM⟩ := rows_built wA rb inn
  obtain ⟨mb, hmb⟩ : ∃ mb, mb = wA.heap.size := ⟨_, rfl⟩
  have XM := Lib.hid (And.intro (X0.out.1.below bM) (And.intro (X0.out.2.later bM) (hmb ▸ hM)))
  have c2 := (X0.out.2.later b4).cell.2.2.1
  rw [← hmb] at r2 r3 r4 r5
  unfold rdFn at r2 r3 r4 r5
  have hmk : (Instr.makeMap 123 none).run Tryz.prog wA = .ok (.map (some mb)) (wA.alloc (.map #[] 0)) := by rw [hmb]; rfl
  have R5 := Lib.hid (And.intro r5 r5')
  clear hM b4 bM r5 r5'
  go_enter Tryz.func62, Tryz.ntmps62
  go_upto_region 1 with fail
  rw [← hwA, ← hc]
  clear hwA hc hmb
  cases inn with
  | true =>
    have r5 := R5.out.1 rfl
    go_wp2_with fail
    clear r5
    refine look_t XM.out.2.1 0 (by decide) fun i j w5 hb5 => ?_
    rw [show (s :: r).getD 0 [] = s from rfl]
    have hlk := map_at (XM.out.2.2.frame (hb5.block mb XM.out.2.2.lt)) HE.out.2.2
    rw [HE.out.1] at hlk
    have h5 := XM.out.2.1.later hb5
    have hm := h5.one_more
    have hl := h5.len
    obtain ⟨_, c1, _, f1, _⟩ := h5.cell
    obtain ⟨q, hq⟩ : ∃ q, q = xs.length - (s :: r).length := ⟨_, rfl⟩
    obtain ⟨q', hq'⟩ : ∃ q', q' = xs.length - r.length := ⟨_, rfl⟩
    rw [← hq, ← hq'] at hm
    rw [← hq] at c1
    have q0 : (0 : Int) ≤ (q : Int) := by omega
    have q1 : (q : Int) < 65536 := by omega
    have X5 := Lib.hid (And.intro (XM.out.1.below hb5) (And.intro h5 (And.intro hq' hm)))
    unfold rdFn at hlk
    simp only [Option.getD_some] at hlk
    have hne := func_neq (.func f) #[.pointer (some ⟨rb, 0, none⟩)] #[] w5
    clear hb5 h5 hq hq' hm r2 r3 r4 hmk
    go_wp2_with fail
    have hp := X5.out.2.1.put1
    have R6 := X5.out.1.step hp.step
    have h6 := X5.out.2.1.next hp
    rw [← X5.out.2.2.1, ← X5.out.2.2.2] at R6 h6
    have X6 := Lib.hid (And.intro R6 h6)
    clear hp R6 h6 hlk hne c1 f1 hl
    refine (HE.out.2.1 _ X6.out.2).mono ?_
    rintro e w7 ⟨hs7, h7, hres⟩
    have R7 := X6.out.1.step hs7
    cases res with
    | bad u =>
      subst hres
      have X7 := Lib.hid (And.intro R7 h7)
      clear hs7 h7 R7
      go_wp2_with fail
      exact ⟨rfl, X7.out.1.bad X7.out.2⟩
    | ok x u =>
      obtain ⟨v, rfl, hN⟩ := hres
      obtain ⟨a1, d1, a2, d2, a3, d3, rfl⟩ := hN.form
      obtain ⟨y0, y1, y2, y3, y4, g0, g1, g2, g3, g4⟩ := row5 R7.row
      have X7 := Lib.hid (And.intro R7 (And.intro h7 (NR.past X6.out.1 hN)))
      clear hs7 h7 R7 hN
      go_wp2_with fail
      have hp := put5 X7.out.1.row (.int .u8 (x.kind : Int)) (.string (tx x.text)) (.slice a1 x.l.len d1) (.slice a2 x.body.len d2) (.slice a3 x.els.len d3)
      exact bodyPost_ret (results_cell1 rfl _ _ _ rfl (nodeVar _ c _ _ _ _ _ hp.row)) rfl (X7.out.1.fin X7.out.2.1 X7.out.2.2 (fun _ h => h) hp)
  | false =>
    obtain rfl := R5.out.2 rfl
    go_wp2_with fail
    refine look_t XM.out.2.1 0 (by decide) fun i j w5 hb5 => ?_
    rw [show (s :: r).getD 0 [] = s from rfl]
    have hlk := map_at (XM.out.2.2.frame (hb5.block mb XM.out.2.2.lt)) HE.out.2.2
    rw [HE.out.1] at hlk
    have h5 := XM.out.2.1.later hb5
    have hm := h5.one_more
    have hl := h5.len
    obtain ⟨_, c1, _, f1, _⟩ := h5.cell
    obtain ⟨q, hq⟩ : ∃ q, q = xs.length - (s :: r).length := ⟨_, rfl⟩
    obtain ⟨q', hq'⟩ : ∃ q', q' = xs.length - r.length := ⟨_, rfl⟩
    rw [← hq, ← hq'] at hm
    rw [← hq] at c1
    have q0 : (0 : Int) ≤ (q : Int) := by omega
    have q1 : (q : Int) < 65536 := by omega
    have X5 := Lib.hid (And.intro (XM.out.1.below hb5) (And.intro h5 (And.intro hq' hm)))
    unfold rdFn at hlk
    simp only [Option.getD_some] at hlk
    have hne := func_neq (.func f) #[.pointer (some ⟨rb, 0, none⟩)] #[] w5
    clear hb5 h5 hq hq' hm r2 r3 r4 hmk
    go_wp2_with fail
    have hp := X5.out.2.1.put1
    have R6 := X5.out.1.step hp.step
    have h6 := X5.out.2.1.next hp
    rw [← X5.out.2.2.1, ← X5.out.2.2.2] at R6 h6
    have X6 := Lib.hid (And.intro R6 h6)
    clear hp R6 h6 hlk hne c1 f1 hl
    refine (HE.out.2.1 _ X6.out.2).mono ?_
    rintro e w7 ⟨hs7, h7, hres⟩
    have R7 := X6.out.1.step hs7
    cases res with
    | bad u =>
      subst hres
      have X7 := Lib.hid (And.intro R7 h7)
      clear hs7 h7 R7
      go_wp2_with fail
      exact ⟨rfl, X7.out.1.bad X7.out.2⟩
    | ok x u =>
      obtain ⟨v, rfl, hN⟩ := hres
      obtain ⟨a1, d1, a2, d2, a3, d3, rfl⟩ := hN.form
      obtain ⟨y0, y1, y2, y3, y4, g0, g1, g2, g3, g4⟩ := row5 R7.row
      have X7 := Lib.hid (And.intro R7 (And.intro h7 (NR.past X6.out.1 hN)))
      clear hs7 h7 R7 hN
      go_wp2_with fail
      have hp := put5 X7.out.1.row (.int .u8 (x.kind : Int)) (.string (tx x.text)) (.slice a1 x.l.len d1) (.slice a2 x.body.len d2) (.slice a3 x.els.len d3)
      exact bodyPost_ret (results_cell1 rfl _ _ _ rfl (nodeVar _ c _ _ _ _ _ hp.row)) rfl (X7.out.1.fin X7.out.2.1 X7.out.2.2 (fun _ h => h) hp)
end Go.Proofs.YtobpnjnfpgcpaaaGreatDoor
