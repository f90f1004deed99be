/- Trees: the reader: a statement that is no word's: x = .., or an expression. -/
import Derived.Test.YtobpnjnfpgcpaaaGreatDoorPxStmtT
namespace Go.Proofs.YtobpnjnfpgcpaaaGreatDoor
open Go.RowKit Go.My Go.Nd

theorem Rd.short0 {w : World} {rb : Nat} {tv : Value} {xs : List To.T} {ts : List Tx} {inn : Bool} (h : Rd w rb tv xs ts inn) (k : Nat) : (ts.getD k []).length ≤ 65536 := by
  by_cases hk : k < ts.length
  · obtain ⟨_, _, _, _, _, _, _, _, _, _, _, _, hs⟩ := h.token k hk
    rw [List.getD_eq_getElem?_getD, List.getElem?_eq_getElem hk]; exact hs
  · rw [List.getD_eq_getElem?_getD, List.getElem?_eq_none (by omega)]; exact Nat.zero_le _

theorem Rd.two {w : World} {rb : Nat} {tv : Value} {xs : List To.T} {s p : Tx} {r : List Tx} {inn : Bool} (h : Rd w rb tv xs (s :: p :: r) inn) :
    Put w (w.setCell ⟨rb, 1, none⟩ (.int .i64 ((xs.length - r.length : Nat) : Int))) rb #[tv, .int .i64 ((xs.length - r.length : Nat) : Int), .bool inn] 66 ∧ Rd (w.setCell ⟨rb, 1, none⟩ (.int .i64 ((xs.length - r.length : Nat) : Int))) rb tv xs r inn := by
  have hp : Put w (w.setCell ⟨rb, 1, none⟩ (.int .i64 ((xs.length - r.length : Nat) : Int))) rb #[tv, .int .i64 ((xs.length - r.length : Nat) : Int), .bool inn] 66 := Put.one h.row 1 _
  exact ⟨hp, hp.row, ((List.suffix_cons p r).trans (List.suffix_cons s (p :: r))).trans h.suf, h.toks.frame (by rw [hp.size]; exact Nat.le_refl _) fun b hb _ => hp.oth b (Nat.ne_of_lt hb), h.len, h.short⟩

set_option maxRecDepth 100000 in
set_option maxHeartbeats 4000000 in
/-- A statement that is an expression. -/
theorem stmt_do {rb : Nat} {tv : Value} {xs : List To.T} {inn : Bool} {ts : List Tx} (hrow : rowsF rb inn (ts.getD 0 []) = none) (hno : To.name (ts.getD 0 []) = false ∨ ts.getD 1 [] ≠ [61]) {w : World} (h : Rd w rb tv xs ts inn) :
    Calls Tryz.prog 62 #[.pointer (some ⟨rb, 0, none⟩)] w (Got w rb tv xs inn (ends 13 [] ts)) := by
  obtain ⟨u, hu⟩ : ∃ u, u = ts.getD 0 [] := ⟨_, rfl⟩
  obtain ⟨p, hp⟩ : ∃ p, p = ts.getD 1 [] := ⟨_, rfl⟩
  rw [← hu] at hrow hno
  rw [← hp] at hno
  have HE := Lib.hid (And.intro hrow (And.intro hno (And.intro (hu ▸ h.short0 0 : u.length ≤ 65536) (And.intro hu hp))))
  obtain ⟨nm, hnm⟩ : ∃ nm, nm = To.name u := ⟨_, rfl⟩
  have hpe := bs_tlp p
  have tT := tokText
  have hq : nm = true → (p == [61]) = false := fun e => hno.elim (fun h => by rw [← hnm, e] at h; cases h) (fun h => by simpa using h)
  have HQ := Lib.hid (And.intro hq hnm)
  clear hrow hno hu hp hnm hq
  have R0 := RA.start h.lt
  have h0 := h.later (Put.new w #[.int .u8 0, .string ⟨#[]⟩, .slice none 0 0, .slice none 0 0, .slice none 0 0] TN).1
  obtain ⟨c, hc⟩ : ∃ c, c = w.heap.size := ⟨_, rfl⟩
  obtain ⟨wA, hwA⟩ : ∃ wA, wA = w.alloc (.cells #[.int .u8 0, .string ⟨#[]⟩, .slice none 0 0, .slice none 0 0, .slice none 0 0] TN) := ⟨_, rfl⟩
  rw [← hwA] at R0 h0
  rw [← hc] at R0
  have X0 := Lib.hid (And.intro R0 h0)
  clear h R0 h0
  obtain ⟨w2, w3, w4, wM, r2, r3, r4, r5, r5', hM, b4, bM⟩ := rows_built wA rb inn
  obtain ⟨mb, hmb⟩ : ∃ mb, mb = wA.heap.size := ⟨_, rfl⟩
  have XM := Lib.hid (And.intro (X0.out.1.below bM) (And.intro (X0.out.2.later bM) (hmb ▸ hM)))
  have c2 := (X0.out.2.later b4).cell.2.2.1
  rw [← hmb] at r2 r3 r4 r5
  unfold rdFn at r2 r3 r4 r5
  have hmk : (Instr.makeMap 123 none).run Tryz.prog wA = .ok (.map (some mb)) (wA.alloc (.map #[] 0)) := by rw [hmb]; rfl
  have R5 := Lib.hid (And.intro r5 r5')
  clear hM b4 bM r5 r5'
  go_enter Tryz.func62, Tryz.ntmps62
  go_upto_region 1 with fail
  rw [← hwA, ← hc]
  clear hwA hc hmb
  cases inn with
  | true =>
    have r5 := R5.out.1 rfl
    go_wp2_with fail
    clear r5
    refine look_t XM.out.2.1 0 (by decide) fun i j w5 hb5 => ?_
    rw [← HE.out.2.2.2.1]
    have hlk := map_at (XM.out.2.2.frame (hb5.block mb XM.out.2.2.lt)) HE.out.2.2.1
    rw [HE.out.1] at hlk
    simp only [Option.getD_none] at hlk
    have hne := nil_neq w5
    have X5 := Lib.hid (And.intro (XM.out.1.below hb5) (XM.out.2.1.later hb5))
    clear hb5 r2 r3 r4 hmk
    go_wp2_with fail
    refine named_t X5.out.2 fun w5' hb6 => ?_
    rw [← HE.out.2.2.2.1, ← HQ.out.2]
    have X6' := Lib.hid (And.intro (X5.out.1.below hb6) (X5.out.2.later hb6))
    clear hb6 hlk hne
    cases nm with
    | false =>
      have X6 := X6'
      go_wp2_with fail
      refine (ends_t 13 (by decide) X6.out.2).mono ?_
      rintro e w7 ⟨hs7, h7, hres⟩
      have R7 := X6.out.1.step hs7
      cases hrd : ends 13 [] ts with
      | bad q =>
        rw [hrd] at hres h7
        subst hres
        have X7 := Lib.hid (And.intro R7 (And.intro h7 hrd))
        clear hs7 h7 R7 hrd
        go_wp2_with fail
        refine ⟨rfl, ?_⟩
        first | rw [X7.out.2.2] | skip
        exact X7.out.1.bad X7.out.2.1
      | ok x q =>
        rw [hrd] at hres h7
        obtain ⟨v, rfl, hN⟩ := hres
        obtain ⟨a1, d1, a2, d2, a3, d3, rfl⟩ := hN.form
        obtain ⟨y0, y1, y2, y3, y4, g0, g1, g2, g3, g4⟩ := row5 R7.row
        have X7 := Lib.hid (And.intro R7 (And.intro h7 (And.intro hrd (NR.past X6.out.1 hN))))
        clear hs7 h7 R7 hN hrd
        go_wp2_with fail
        have hp := put5 X7.out.1.row (.int .u8 (x.kind : Int)) (.string (tx x.text)) (.slice a1 x.l.len d1) (.slice a2 x.body.len d2) (.slice a3 x.els.len d3)
        refine bodyPost_ret (results_cell1 rfl _ _ _ rfl (nodeVar _ c _ _ _ _ _ hp.row)) rfl ?_
        first | rw [X7.out.2.2.1] | skip
        exact X7.out.1.fin X7.out.2.1 X7.out.2.2.2 (fun _ h => h) hp
    | true =>
      have hq := HQ.out.1 rfl
      go_wp2_with fail
      refine look_t X6'.out.2 1 (by decide) fun i' j' w6 hb7 => ?_
      rw [← HE.out.2.2.2.2]
      have X6 := Lib.hid (And.intro (X6'.out.1.below hb7) (X6'.out.2.later hb7))
      clear hb7
      go_wp2_with fail
      refine (ends_t 13 (by decide) X6.out.2).mono ?_
      rintro e w7 ⟨hs7, h7, hres⟩
      have R7 := X6.out.1.step hs7
      cases hrd : ends 13 [] ts with
      | bad q =>
        rw [hrd] at hres h7
        subst hres
        have X7 := Lib.hid (And.intro R7 (And.intro h7 hrd))
        clear hs7 h7 R7 hrd
        go_wp2_with fail
        refine ⟨rfl, ?_⟩
        first | rw [X7.out.2.2] | skip
        exact X7.out.1.bad X7.out.2.1
      | ok x q =>
        rw [hrd] at hres h7
        obtain ⟨v, rfl, hN⟩ := hres
        obtain ⟨a1, d1, a2, d2, a3, d3, rfl⟩ := hN.form
        obtain ⟨y0, y1, y2, y3, y4, g0, g1, g2, g3, g4⟩ := row5 R7.row
        have X7 := Lib.hid (And.intro R7 (And.intro h7 (And.intro hrd (NR.past X6.out.1 hN))))
        clear hs7 h7 R7 hN hrd
        go_wp2_with fail
        have hp := put5 X7.out.1.row (.int .u8 (x.kind : Int)) (.string (tx x.text)) (.slice a1 x.l.len d1) (.slice a2 x.body.len d2) (.slice a3 x.els.len d3)
        refine bodyPost_ret (results_cell1 rfl _ _ _ rfl (nodeVar _ c _ _ _ _ _ hp.row)) rfl ?_
        first | rw [X7.out.2.2.1] | skip
        exact X7.out.1.fin X7.out.2.1 X7.out.2.2.2 (fun _ h => h) hp
  | false =>
    obtain rfl := R5.out.2 rfl
    go_wp2_with fail
    refine look_t XM.out.2.1 0 (by decide) fun i j w5 hb5 => ?_
    rw [← HE.out.2.2.2.1]
    have hlk := map_at (XM.out.2.2.frame (hb5.block mb XM.out.2.2.lt)) HE.out.2.2.1
    rw [HE.out.1] at hlk
    simp only [Option.getD_none] at hlk
    have hne := nil_neq w5
    have X5 := Lib.hid (And.intro (XM.out.1.below hb5) (XM.out.2.1.later hb5))
    clear hb5 r2 r3 r4 hmk
    go_wp2_with fail
    refine named_t X5.out.2 fun w5' hb6 => ?_
    rw [← HE.out.2.2.2.1, ← HQ.out.2]
    have X6' := Lib.hid (And.intro (X5.out.1.below hb6) (X5.out.2.later hb6))
    clear hb6 hlk hne
    cases nm with
    | false =>
      have X6 := X6'
      go_wp2_with fail
      refine (ends_t 13 (by decide) X6.out.2).mono ?_
      rintro e w7 ⟨hs7, h7, hres⟩
      have R7 := X6.out.1.step hs7
      cases hrd : ends 13 [] ts with
      | bad q =>
        rw [hrd] at hres h7
        subst hres
        have X7 := Lib.hid (And.intro R7 (And.intro h7 hrd))
        clear hs7 h7 R7 hrd
        go_wp2_with fail
        refine ⟨rfl, ?_⟩
        first | rw [X7.out.2.2] | skip
        exact X7.out.1.bad X7.out.2.1
      | ok x q =>
        rw [hrd] at hres h7
        obtain ⟨v, rfl, hN⟩ := hres
        obtain ⟨a1, d1, a2, d2, a3, d3, rfl⟩ := hN.form
        obtain ⟨y0, y1, y2, y3, y4, g0, g1, g2, g3, g4⟩ := row5 R7.row
        have X7 := Lib.hid (And.intro R7 (And.intro h7 (And.intro hrd (NR.past X6.out.1 hN))))
        clear hs7 h7 R7 hN hrd
        go_wp2_with fail
        have hp := put5 X7.out.1.row (.int .u8 (x.kind : Int)) (.string (tx x.text)) (.slice a1 x.l.len d1) (.slice a2 x.body.len d2) (.slice a3 x.els.len d3)
        refine bodyPost_ret (results_cell1 rfl _ _ _ rfl (nodeVar _ c _ _ _ _ _ hp.row)) rfl ?_
        first | rw [X7.out.2.2.1] | skip
        exact X7.out.1.fin X7.out.2.1 X7.out.2.2.2 (fun _ h => h) hp
    | true =>
      have hq := HQ.out.1 rfl
      go_wp2_with fail
      refine look_t X6'.out.2 1 (by decide) fun i' j' w6 hb7 => ?_
      rw [← HE.out.2.2.2.2]
      have X6 := Lib.hid (And.intro (X6'.out.1.below hb7) (X6'.out.2.later hb7))
      clear hb7
      go_wp2_with fail
      refine (ends_t 13 (by decide) X6.out.2).mono ?_
      rintro e w7 ⟨hs7, h7, hres⟩
      have R7 := X6.out.1.step hs7
      cases hrd : ends 13 [] ts with
      | bad q =>
        rw [hrd] at hres h7
        subst hres
        have X7 := Lib.hid (And.intro R7 (And.intro h7 hrd))
        clear hs7 h7 R7 hrd
        go_wp2_with fail
        refine ⟨rfl, ?_⟩
        first | rw [X7.out.2.2] | skip
        exact X7.out.1.bad X7.out.2.1
      | ok x q =>
        rw [hrd] at hres h7
        obtain ⟨v, rfl, hN⟩ := hres
        obtain ⟨a1, d1, a2, d2, a3, d3, rfl⟩ := hN.form
        obtain ⟨y0, y1, y2, y3, y4, g0, g1, g2, g3, g4⟩ := row5 R7.row
        have X7 := Lib.hid (And.intro R7 (And.intro h7 (And.intro hrd (NR.past X6.out.1 hN))))
        clear hs7 h7 R7 hN hrd
        go_wp2_with fail
        have hp := put5 X7.out.1.row (.int .u8 (x.kind : Int)) (.string (tx x.text)) (.slice a1 x.l.len d1) (.slice a2 x.body.len d2) (.slice a3 x.els.len d3)
        refine bodyPost_ret (results_cell1 rfl _ _ _ rfl (nodeVar _ c _ _ _ _ _ hp.row)) rfl ?_
        first | rw [X7.out.2.2.1] | skip
        exact X7.out.1.fin X7.out.2.1 X7.out.2.2.2 (fun _ h => h) hp

theorem NR.retext {w : World} {T : TypeId} {lo hi : Nat} {s : List UInt8} {u1 u2 u3 : Value} {x : Nd} (h : NR w T lo hi (.agg #[.int .u8 (x.kind : Int), .string (tx x.text), u1, u2, u3]) x) (hs : s.length ≤ 140737488351232) :
    NR w T lo hi (.agg #[.int .u8 (x.kind : Int), .string (tx s), u1, u2, u3]) { x with text := s } := by
  obtain ⟨_, _, hk, _, F1, F2, F3, a1, a2, a3, hr⟩ := h.parts
  exact ⟨⟨x.kind, s, u1, u2, u3⟩, F1 ++ (F2 ++ F3), rfl, ⟨F1, F2, F3, rfl, ⟨⟨rfl, hk⟩, rfl, hs⟩, a1, a2, a3⟩, hr⟩
theorem ends_text (k : Nat) (s : Tx) (ts : List Tx) : ends k s ts = (ends k [] ts).map fun x => { x with text := s } := by
  unfold ends
  cases expr ts with
  | bad q => rfl
  | ok x q =>
    show must [59] _ q = R.map _ (must [59] _ q)
    cases q with
    | nil => rfl
    | cons a q => unfold must; simp only; split <;> rfl

set_option maxRecDepth 100000 in
set_option maxHeartbeats 4000000 in
/-- A statement that sets a name. -/
theorem stmt_let {rb : Nat} {tv : Value} {xs : List To.T} {inn : Bool} {s : Tx} {r : List Tx} (hrow : rowsF rb inn s = none) (hs : To.name s = true) {w : World} (h : Rd w rb tv xs (s :: [61] :: r) inn) :
    Calls Tryz.prog 62 #[.pointer (some ⟨rb, 0, none⟩)] w (Got w rb tv xs inn (ends 8 s r)) := by
  have HE := Lib.hid (And.intro hrow (And.intro hs (h.short0 0 : s.length ≤ 65536)))
  have tT := tokText
  have hpe := bs_tlp [61]
  clear hrow hs
  have R0 := RA.start h.lt
  have h0 := h.later (Put.new w #[.int .u8 0, .string ⟨#[]⟩, .slice none 0 0, .slice none 0 0, .slice none 0 0] TN).1
  obtain ⟨c, hc⟩ : ∃ c, c = w.heap.size := ⟨_, rfl⟩
  obtain ⟨wA, hwA⟩ : ∃ wA, wA = w.alloc (.cells #[.int .u8 0, .string ⟨#[]⟩, .slice none 0 0, .slice none 0 0, .slice none 0 0] TN) := ⟨_, rfl⟩
  rw [← hwA] at R0 h0
  rw [← hc] at R0
  have X0 := Lib.hid (And.intro R0 h0)
  clear h R0 h0
  obtain ⟨w2, w3, w4, wM, r2, r3, r4, r5, r5', hM, b4, bM⟩ := rows_built wA rb inn
  obtain ⟨mb, hmb⟩ : ∃ mb, mb = wA.heap.size := ⟨_, rfl⟩
  have XM := Lib.hid (And.intro (X0.out.1.below bM) (And.intro (X0.out.2.later bM) (hmb ▸ hM)))
  have c2 := (X0.out.2.later b4).cell.2.2.1
  rw [← hmb] at r2 r3 r4 r5
  unfold rdFn at r2 r3 r4 r5
  have hmk : (Instr.makeMap 123 none).run Tryz.prog wA = .ok (.map (some mb)) (wA.alloc (.map #[] 0)) := by rw [hmb]; rfl
  have R5 := Lib.hid (And.intro r5 r5')
  clear hM b4 bM r5 r5'
  go_enter Tryz.func62, Tryz.ntmps62
  go_upto_region 1 with fail
  rw [← hwA, ← hc]
  clear hwA hc hmb
  cases inn with
  | true =>
    have r5 := R5.out.1 rfl
    go_wp2_with fail
    clear r5
    refine look_t XM.out.2.1 0 (by decide) fun i j w5 hb5 => ?_
    rw [show (s :: [61] :: r).getD 0 [] = s from rfl]
    have hlk := map_at (s := s) (XM.out.2.2.frame (hb5.block mb XM.out.2.2.lt)) HE.out.2.2
    rw [HE.out.1] at hlk
    simp only [Option.getD_none] at hlk
    have hne := nil_neq w5
    have X5 := Lib.hid (And.intro (XM.out.1.below hb5) (XM.out.2.1.later hb5))
    clear hb5 r2 r3 r4 hmk
    go_wp2_with fail
    refine named_t X5.out.2 fun w5' hb6 => ?_
    rw [show (s :: [61] :: r).getD 0 [] = s from rfl, HE.out.2.1]
    have X6' := Lib.hid (And.intro (X5.out.1.below hb6) (X5.out.2.later hb6))
    clear hb6 hlk hne
    go_wp2_with fail
    refine look_t X6'.out.2 1 (by decide) fun i' j' w6 hb7 => ?_
    rw [show (s :: [61] :: r).getD 1 [] = [61] from rfl]
    have R6 := X6'.out.1.below hb7
    have h6 := X6'.out.2.later hb7
    obtain ⟨_, c1, _, f1, _⟩ := h6.cell
    have hl := h6.len
    have hle := h6.le
    obtain ⟨q, hq⟩ : ∃ q, q = xs.length - (s :: [61] :: r).length := ⟨_, rfl⟩
    obtain ⟨q', hq'⟩ : ∃ q', q' = xs.length - r.length := ⟨_, rfl⟩
    have hm : (q : Int) + 2 = (q' : Int) := by rw [hq, hq']; simp only [List.length_cons] at hle ⊢; omega
    rw [← hq] at c1
    have q0 : (0 : Int) ≤ (q : Int) := by omega
    have q1 : (q : Int) < 65536 := by omega
    obtain ⟨hp, h7⟩ := h6.two
    have R7 := R6.step hp.step
    rw [← hq', ← hm] at h7 R7
    have X7 := Lib.hid (And.intro R7 h7)
    clear R7
    clear hb7 R6 h6 hq hq' hm hp h7 hl hle
    go_wp2_with fail
    refine (ends_t 8 (by decide) X7.out.2).mono ?_
    rintro e w8 ⟨hs8, h8, hres⟩
    have R8 := X7.out.1.step hs8
    cases hrd : ends 8 [] r with
    | bad u =>
      rw [hrd] at hres h8
      subst hres
      have X8 := Lib.hid (And.intro R8 (And.intro h8 hrd))
      clear hs8 h8 R8 hrd
      go_wp2_with fail
      refine ⟨rfl, ?_⟩
      rw [ends_text, X8.out.2.2]
      exact X8.out.1.bad X8.out.2.1
    | ok x u =>
      rw [hrd] at hres h8
      obtain ⟨v, rfl, hN⟩ := hres
      obtain ⟨a1, d1, a2, d2, a3, d3, rfl⟩ := hN.form
      have hN := NR.retext (s := s) hN (by have : s.length ≤ 65536 := HE.out.2.2; omega)
      have hb := R8.box #[.int .u8 (x.kind : Int), .string (tx x.text), .slice a1 x.l.len d1, .slice a2 x.body.len d2, .slice a3 x.els.len d3]
      obtain ⟨b6, hb6⟩ : ∃ b6, b6 = w8.heap.size := ⟨_, rfl⟩
      obtain ⟨w9, hw9⟩ : ∃ w9, w9 = w8.alloc (.cells #[.int .u8 (x.kind : Int), .string (tx x.text), .slice a1 x.l.len d1, .slice a2 x.body.len d2, .slice a3 x.els.len d3] TN) := ⟨_, rfl⟩
      rw [← hw9] at hb
      have hcb : c < b6 := by have := R8.lt; omega
      have hrow9 : w9.heap[b6]? = _ := hb6 ▸ hb.2.1
      have hp9 : Put w9 (w9.setCell ⟨b6, 1, none⟩ (.string (bs s))) b6 #[.int .u8 (x.kind : Int), .string (bs s), .slice a1 x.l.len d1, .slice a2 x.body.len d2, .slice a3 x.els.len d3] TN := Put.one hrow9 1 _
      have hN9 : NS w9 TN (fun b => c < b ∧ b < b6) _ _ := NS.later (hN.ns (S := fun b => c < b ∧ b < b6) fun b q1 q2 => by have := X7.out.1.lt; omega) hb.2.2
      have hN10 := NS.frame hN9 (fun b hb' _ => hp9.oth b (by omega))
      have R10 := hb.1.put hp9 hcb
      have h10 := (h8.later hb.2.2).put hp9 (by have := R8.hrb; omega)
      obtain ⟨x0, x1, x2, x3, x4, f0', f1', f2', f3', f4'⟩ := row5 hrow9
      obtain ⟨w10, hw10⟩ : ∃ w10, w10 = w9.setCell ⟨b6, 1, none⟩ (.string (bs s)) := ⟨_, rfl⟩
      have hrow10 := hp9.row
      rw [← hw10] at R10 h10 hN10 hrow10
      obtain ⟨z0, z1, z2, z3, z4, _, _, _, _, _⟩ := row5 hrow10
      obtain ⟨y0, y1, y2, y3, y4, g0, g1, g2, g3, g4⟩ := row5 R10.row
      have X10 := Lib.hid (And.intro R10 (And.intro h10 (And.intro hN10 hrd)))
      clear hp9 hN9 hN10 R10 h10 hrow9 hrow10 hb hcb hs8 h8 R8 hN hrd c1 f1
      go_upto_region 12 with fail
      rw [← hw9, ← hb6]
      clear hw9 hb6
      go_upto_region 13 with fail
      rw [← hw10]
      clear hw10 x0 x1 x2 x3 x4 f0' f1' f2' f3' f4'
      go_wp2_with fail
      have hp := put5 X10.out.1.row (.int .u8 (x.kind : Int)) (.string (bs s)) (.slice a1 x.l.len d1) (.slice a2 x.body.len d2) (.slice a3 x.els.len d3)
      refine bodyPost_ret (results_cell1 rfl _ _ _ rfl (nodeVar _ c _ _ _ _ _ hp.row)) rfl ?_
      rw [ends_text, X10.out.2.2.2]
      exact X10.out.1.fin (x := { x with text := s }) X10.out.2.1 X10.out.2.2.1 (fun _ h => h.1) hp
  | false =>
    obtain rfl := R5.out.2 rfl
    go_wp2_with fail
    refine look_t XM.out.2.1 0 (by decide) fun i j w5 hb5 => ?_
    rw [show (s :: [61] :: r).getD 0 [] = s from rfl]
    have hlk := map_at (s := s) (XM.out.2.2.frame (hb5.block mb XM.out.2.2.lt)) HE.out.2.2
    rw [HE.out.1] at hlk
    simp only [Option.getD_none] at hlk
    have hne := nil_neq w5
    have X5 := Lib.hid (And.intro (XM.out.1.below hb5) (XM.out.2.1.later hb5))
    clear hb5 r2 r3 r4 hmk
    go_wp2_with fail
    refine named_t X5.out.2 fun w5' hb6 => ?_
    rw [show (s :: [61] :: r).getD 0 [] = s from rfl, HE.out.2.1]
    have X6' := Lib.hid (And.intro (X5.out.1.below hb6) (X5.out.2.later hb6))
    clear hb6 hlk hne
    go_wp2_with fail
    refine look_t X6'.out.2 1 (by decide) fun i' j' w6 hb7 => ?_
    rw [show (s :: [61] :: r).getD 1 [] = [61] from rfl]
    have R6 := X6'.out.1.below hb7
    have h6 := X6'.out.2.later hb7
    obtain ⟨_, c1, _, f1, _⟩ := h6.cell
    have hl := h6.len
    have hle := h6.le
    obtain ⟨q, hq⟩ : ∃ q, q = xs.length - (s :: [61] :: r).length := ⟨_, rfl⟩
    obtain ⟨q', hq'⟩ : ∃ q', q' = xs.length - r.length := ⟨_, rfl⟩
    have hm : (q : Int) + 2 = (q' : Int) := by rw [hq, hq']; simp only [List.length_cons] at hle ⊢; omega
    rw [← hq] at c1
    have q0 : (0 : Int) ≤ (q : Int) := by omega
    have q1 : (q : Int) < 65536 := by omega
    obtain ⟨hp, h7⟩ := h6.two
    have R7 := R6.step hp.step
    rw [← hq', ← hm] at h7 R7
    have X7 := Lib.hid (And.intro R7 h7)
    clear R7
    clear hb7 R6 h6 hq hq' hm hp h7 hl hle
    go_wp2_with fail
    refine (ends_t 8 (by decide) X7.out.2).mono ?_
    rintro e w8 ⟨hs8, h8, hres⟩
    have R8 := X7.out.1.step hs8
    cases hrd : ends 8 [] r with
    | bad u =>
      rw [hrd] at hres h8
      subst hres
      have X8 := Lib.hid (And.intro R8 (And.intro h8 hrd))
      clear hs8 h8 R8 hrd
      go_wp2_with fail
      refine ⟨rfl, ?_⟩
      rw [ends_text, X8.out.2.2]
      exact X8.out.1.bad X8.out.2.1
    | ok x u =>
      rw [hrd] at hres h8
      obtain ⟨v, rfl, hN⟩ := hres
      obtain ⟨a1, d1, a2, d2, a3, d3, rfl⟩ := hN.form
      have hN := NR.retext (s := s) hN (by have : s.length ≤ 65536 := HE.out.2.2; omega)
      have hb := R8.box #[.int .u8 (x.kind : Int), .string (tx x.text), .slice a1 x.l.len d1, .slice a2 x.body.len d2, .slice a3 x.els.len d3]
      obtain ⟨b6, hb6⟩ : ∃ b6, b6 = w8.heap.size := ⟨_, rfl⟩
      obtain ⟨w9, hw9⟩ : ∃ w9, w9 = w8.alloc (.cells #[.int .u8 (x.kind : Int), .string (tx x.text), .slice a1 x.l.len d1, .slice a2 x.body.len d2, .slice a3 x.els.len d3] TN) := ⟨_, rfl⟩
      rw [← hw9] at hb
      have hcb : c < b6 := by have := R8.lt; omega
      have hrow9 : w9.heap[b6]? = _ := hb6 ▸ hb.2.1
      have hp9 : Put w9 (w9.setCell ⟨b6, 1, none⟩ (.string (bs s))) b6 #[.int .u8 (x.kind : Int), .string (bs s), .slice a1 x.l.len d1, .slice a2 x.body.len d2, .slice a3 x.els.len d3] TN := Put.one hrow9 1 _
      have hN9 : NS w9 TN (fun b => c < b ∧ b < b6) _ _ := NS.later (hN.ns (S := fun b => c < b ∧ b < b6) fun b q1 q2 => by have := X7.out.1.lt; omega) hb.2.2
      have hN10 := NS.frame hN9 (fun b hb' _ => hp9.oth b (by omega))
      have R10 := hb.1.put hp9 hcb
      have h10 := (h8.later hb.2.2).put hp9 (by have := R8.hrb; omega)
      obtain ⟨x0, x1, x2, x3, x4, f0', f1', f2', f3', f4'⟩ := row5 hrow9
      obtain ⟨w10, hw10⟩ : ∃ w10, w10 = w9.setCell ⟨b6, 1, none⟩ (.string (bs s)) := ⟨_, rfl⟩
      have hrow10 := hp9.row
      rw [← hw10] at R10 h10 hN10 hrow10
      obtain ⟨z0, z1, z2, z3, z4, _, _, _, _, _⟩ := row5 hrow10
      obtain ⟨y0, y1, y2, y3, y4, g0, g1, g2, g3, g4⟩ := row5 R10.row
      have X10 := Lib.hid (And.intro R10 (And.intro h10 (And.intro hN10 hrd)))
      clear hp9 hN9 hN10 R10 h10 hrow9 hrow10 hb hcb hs8 h8 R8 hN hrd c1 f1
      go_upto_region 12 with fail
      rw [← hw9, ← hb6]
      clear hw9 hb6
      go_upto_region 13 with fail
      rw [← hw10]
      clear hw10 x0 x1 x2 x3 x4 f0' f1' f2' f3' f4'
      go_wp2_with fail
      have hp := put5 X10.out.1.row (.int .u8 (x.kind : Int)) (.string (bs s)) (.slice a1 x.l.len d1) (.slice a2 x.body.len d2) (.slice a3 x.els.len d3)
      refine bodyPost_ret (results_cell1 rfl _ _ _ rfl (nodeVar _ c _ _ _ _ _ hp.row)) rfl ?_
      rw [ends_text, X10.out.2.2.2]
      exact X10.out.1.fin (x := { x with text := s }) X10.out.2.1 X10.out.2.2.1 (fun _ h => h.1) hp
end Go.Proofs.YtobpnjnfpgcpaaaGreatDoor
