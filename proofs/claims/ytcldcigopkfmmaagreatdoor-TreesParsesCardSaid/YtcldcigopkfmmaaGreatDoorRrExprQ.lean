/- Trees, as the document has them: the reader: an expression. Printed in part by a program. -/
import Derived.Test.YtcldcigopkfmmaaGreatDoorRrRowQ
import Derived.Test.YtcldcigopkfmmaaGreatDoorRrSignQ
namespace Go.Proofs.YtcldcigopkfmmaaGreatDoor
open Go.RowKit Go.My Go.Nd

theorem one_more_only {sg : List Tx} {read : List Tx → R Nd} (x : Nd) (s : Tx) (q : List Tx) (hs : sg.contains s = true) : more sg read 1 x (s :: q) = (read q).map (bin s x) := by
  rw [more_one 0 x s q hs]
  cases read q <;> rfl

set_option maxRecDepth 100000 in
set_option maxHeartbeats 8000000 in
theorem rcmp_r {rb : Nat} {tv : Value} {xs : List To.T} {inn : Bool} {n : Nat} {read : List Tx → R Nd} (hread : RReads 141 rb tv xs inn n read) (hd : ∀ ts, (read ts).Down ts) : RReads 109 rb tv xs inn n (row 1 cmps read) := by
  intro w ts bad hn h
  have R0 := RA.start h.lt
  have h0 := h.later (Put.new w #[.int .u8 0, .string ⟨#[]⟩, .slice none 0 0, .slice none 0 0, .slice none 0 0] TN).1
  obtain ⟨c, hc⟩ : ∃ c, c = w.heap.size := ⟨_, rfl⟩
  obtain ⟨wA, hwA⟩ : ∃ wA, wA = w.alloc (.cells #[.int .u8 0, .string ⟨#[]⟩, .slice none 0 0, .slice none 0 0, .slice none 0 0] TN) := ⟨_, rfl⟩
  rw [← hwA] at R0 h0
  rw [← hc] at R0
  have X0 := Lib.hid (And.intro R0 h0)
  clear h R0 h0
  have HE := Lib.hid (And.intro hread (And.intro hd hn))
  clear hread hd hn
  go_enter Tryz.func109, Tryz.ntmps109
  go_upto_region 1 with fail
  rw [← hwA, ← hc]
  clear hwA hc
  go_wp2_with fail
  refine (HE.out.1 wA ts bad HE.out.2.2 X0.out.2).mono ?_
  rintro e w1 ⟨hs1, h1, v, x, rfl, hN, hi⟩
  obtain ⟨r1, hr⟩ : ∃ r, r = gate bad ts (read ts) := ⟨_, rfl⟩
  have htot : gate bad ts (row 1 cmps read ts) = r1.then_ (fun y q => more cmps read 1 y q) := by rw [hr]; cases bad <;> rfl
  have hrl : r1.rest.length ≤ ts.length := by
    rw [hr]
    cases bad with
    | true => exact Nat.le_refl _
    | false => exact R.rest_down (HE.out.2.1 ts)
  rw [← hr] at h1 hi
  obtain ⟨a1, d1, a2, d2, a3, d3, rfl⟩ := hN.form
  have hst := RwSt.start X0.out.1 hs1 h1 hN hi
  obtain ⟨b3, hb3⟩ : ∃ b3, b3 = w1.heap.size := ⟨_, rfl⟩
  obtain ⟨w3, hw3⟩ : ∃ w3, w3 = w1.alloc (.cells #[.int .u8 (x.kind : Int), .string (tx x.text), .slice a1 x.l.len d1, .slice a2 x.body.len d2, .slice a3 x.els.len d3] TN) := ⟨_, rfl⟩
  rw [← hw3, ← hb3] at hst
  have X2 := Lib.hid (And.intro hst (And.intro htot hrl))
  clear hst htot hrl hs1 h1 hN hi hr
  go_upto_region 2 with fail
  rw [← hw3, ← hb3]
  clear hw3 hb3
  by_cases hgo : ∃ y s q, r1 = .ok y (s :: q) ∧ cmps.contains s = true
  · obtain ⟨y, s, q, rfl, hs⟩ := hgo
    obtain rfl : y = x := X2.out.1.is y _ rfl
    have hss : s = [61, 61] ∨ s = [33, 61] ∨ s = [60] ∨ s = [60, 61] := by simpa [cmps] using hs
    have HS := Lib.hid (And.intro hs hss)
    clear hs hss
    go_cut [20] from 7 to 45 (fun v20 wx => v20 = .bool true ∧ wx = w3)
    case first =>
      rcases HS.out.2 with rfl | rfl | rfl | rfl
      · go_wp2_with fail
        refine is_t X2.out.1.rd [61, 61] 0 (by decide) ?_
        rw [show (!(R.ok y ([61, 61] :: q)).isBad && ((R.ok y ([61, 61] :: q)).rest[0]? == some [61, 61])) = true by rfl]
        go_wp2_with fail
        go_meet
        case rel => exact ⟨rfl, rfl⟩
      · go_wp2_with fail
        refine is_t X2.out.1.rd [61, 61] 0 (by decide) ?_
        rw [show (!(R.ok y ([33, 61] :: q)).isBad && ((R.ok y ([33, 61] :: q)).rest[0]? == some [61, 61])) = false by rfl]
        go_wp2_with fail
        refine is_t X2.out.1.rd [33, 61] 0 (by decide) ?_
        rw [show (!(R.ok y ([33, 61] :: q)).isBad && ((R.ok y ([33, 61] :: q)).rest[0]? == some [33, 61])) = true by rfl]
        go_wp2_with fail
        go_meet
        case rel => exact ⟨rfl, rfl⟩
      · go_wp2_with fail
        refine is_t X2.out.1.rd [61, 61] 0 (by decide) ?_
        rw [show (!(R.ok y ([60] :: q)).isBad && ((R.ok y ([60] :: q)).rest[0]? == some [61, 61])) = false by rfl]
        go_wp2_with fail
        refine is_t X2.out.1.rd [33, 61] 0 (by decide) ?_
        rw [show (!(R.ok y ([60] :: q)).isBad && ((R.ok y ([60] :: q)).rest[0]? == some [33, 61])) = false by rfl]
        go_wp2_with fail
        refine is_t X2.out.1.rd [60] 0 (by decide) ?_
        rw [show (!(R.ok y ([60] :: q)).isBad && ((R.ok y ([60] :: q)).rest[0]? == some [60])) = true by rfl]
        go_wp2_with fail
        go_meet
        case rel => exact ⟨rfl, rfl⟩
      · go_wp2_with fail
        refine is_t X2.out.1.rd [61, 61] 0 (by decide) ?_
        rw [show (!(R.ok y ([60, 61] :: q)).isBad && ((R.ok y ([60, 61] :: q)).rest[0]? == some [61, 61])) = false by rfl]
        go_wp2_with fail
        refine is_t X2.out.1.rd [33, 61] 0 (by decide) ?_
        rw [show (!(R.ok y ([60, 61] :: q)).isBad && ((R.ok y ([60, 61] :: q)).rest[0]? == some [33, 61])) = false by rfl]
        go_wp2_with fail
        refine is_t X2.out.1.rd [60] 0 (by decide) ?_
        rw [show (!(R.ok y ([60, 61] :: q)).isBad && ((R.ok y ([60, 61] :: q)).rest[0]? == some [60])) = false by rfl]
        go_wp2_with fail
        refine is_t X2.out.1.rd [60, 61] 0 (by decide) ?_
        rw [show (!(R.ok y ([60, 61] :: q)).isBad && ((R.ok y ([60, 61] :: q)).rest[0]? == some [60, 61])) = true by rfl]
        go_wp2_with fail
        go_meet
        case rel => exact ⟨rfl, rfl⟩
    case rest =>
      obtain ⟨rfl, hwc⟩ := hcut
      obtain rfl : w3 = _ := hwc.symm
      go_wp2_with fail
      have hst := X2.out.1
      have hsl : s.length ≤ 65536 := by obtain ⟨_, _, _, _, _, _, _, _, _, _, hs, _⟩ := hst.rd.token 0 (by show 0 < (s :: q).length; simp); exact hs
      have hl := hst.rd.len
      have hle := hst.rd.le
      obtain ⟨c0, c1, _, _, fr1, _, _⟩ := hst.rd.cell
      obtain ⟨b, off, cap, kd, cc, htv, hne, d0', d1', d2', _, _, _⟩ := hst.rd.token 0 (by show 0 < (s :: q).length; simp)
      subst htv
      obtain ⟨p, hp⟩ : ∃ p, p = xs.length - (R.ok y (s :: q) : R Nd).rest.length := ⟨_, rfl⟩
      obtain ⟨p', hp'⟩ : ∃ p', p' = xs.length - q.length := ⟨_, rfl⟩
      rw [← hp] at c1 d0' d1' d2'
      simp only [Nat.add_zero] at d0' d1' d2'
      have hpp : (p : Int) + 1 = (p' : Int) := by rw [show (R.ok y (s :: q) : R Nd).rest = s :: q from rfl, List.length_cons] at hp hle; omega
      have p0 : (0 : Int) ≤ (p : Int) := by omega
      have hi : (p : Int) < (xs.length : Int) := by rw [show (R.ok y (s :: q) : R Nd).rest = s :: q from rfl, List.length_cons] at hp hle; omega
      have hi2 : (xs.length : Int) ≤ 65536 := by omega
      have e1' : w3.cell? ⟨b, off + p * 3 + 1, none⟩ = some (.string (bs s)) := d1'
      have HSL := Lib.hid (And.intro hsl (And.intro hp' hpp))
      clear hst hsl hl hle hp hp' hpp d0' d1' d2'
      go_quiet (fail)
      go_upto_region 5 with fail
      rw [HSL.out.2.2, HSL.out.2.1]
      have hst2 := X2.out.1.below (below_drewN' w3 nq)
      have hrd := (show Rr (w3.drewN nq) rb _ xs (s :: q) inn false from hst2.rd)
      have hst3 := hst2.step (r' := .ok y q) hrd.put1.step (hrd.next hrd.put1) (R.Is.ok _ _)
      obtain ⟨w2, hw2, hst3⟩ := hide_world (P := fun w2 => RwSt _ _ _ _ _ _ _ _ _ _ w2) hst3
      rw [← hw2]
      have hst4 := hst3.below (Below.refl _ w2).drew
      obtain ⟨b0, b1, b2, b3', b4, _, _, _, _, _⟩ := row5 hst3.box
      have X4 := Lib.hid hst4
      have HQ := Lib.hid (show q.length ≤ n by have := X2.out.2.2; have := HE.out.2.2; have e : (R.ok y (s :: q) : R Nd).rest.length = q.length + 1 := rfl; omega)
      clear hst2 hrd hst3 hst4 hw2 c0 c1 e1'
      go_region_law (first
        | (go_simp; go_at_call 141; refine (HE.out.1 w2.drew q false HQ.out X4.out.rd).mono ?_; rintro e w6 ⟨hs6, h6, v6, z, rfl, hN6, hi6⟩; rw [gate_ok] at h6 hi6; obtain ⟨o1, i1, o2, i2, o3, i3, rfl⟩ := hN6.form; have hrow6 := (hs6.kept (heap_lt X4.out.box) (by have := X4.out.hb; have := X4.out.hA.hrb; omega)).trans X4.out.box; obtain ⟨x0', x1', x2', x3', x4', g0', g1', g2', g3', g4'⟩ := row5 hrow6; have y0' := fun o => (row5 (row5_alloc hrow6 o)).1; have y1' := fun o => (row5 (row5_alloc hrow6 o)).2.1; have y2' := fun o => (row5 (row5_alloc hrow6 o)).2.2.1; have y3' := fun o => (row5 (row5_alloc hrow6 o)).2.2.2.1; have y4' := fun o => (row5 (row5_alloc hrow6 o)).2.2.2.2.1; have k0' := fun o => (row5 (row5_alloc hrow6 o)).2.2.2.2.2.1; have k1' := fun o => (row5 (row5_alloc hrow6 o)).2.2.2.2.2.2.1; have k2' := fun o => (row5 (row5_alloc hrow6 o)).2.2.2.2.2.2.2.1; have k3' := fun o => (row5 (row5_alloc hrow6 o)).2.2.2.2.2.2.2.2.1; have k4' := fun o => (row5 (row5_alloc hrow6 o)).2.2.2.2.2.2.2.2.2; have X6 := Lib.hid (And.intro hs6 (And.intro h6 (And.intro hN6 (And.intro hi6 hrow6)))); clear hs6 h6 hN6 hi6 hrow6))
      all_goals
        have hp8 := put5 (row5_alloc X6.out.2.2.2.2 (.cells #[.int .u8 (y.kind : Int), .string (tx y.text), .slice a1 y.l.len d1, .slice a2 y.body.len d2, .slice a3 y.els.len d3, .int .u8 (z.kind : Int), .string (tx z.text), .slice o1 z.l.len i1, .slice o2 z.body.len i2, .slice o3 z.els.len i3] TN)) (.int .u8 5) (.string (bs s)) (.slice (some ⟨w6.heap.size, 0, none⟩) 2 2) (.slice none 0 0) (.slice none 0 0)
        have hst8 := X4.out.bin (s := s) X6.out.1 X6.out.2.1 X6.out.2.2.1 X6.out.2.2.2.1 HSL.out.1 hp8
        obtain ⟨w8, hw8, hst8⟩ := hide_world (P := fun w8 => RwSt _ _ _ _ _ _ _ _ _ _ w8) hst8
        rw [← hw8]
        have X8 := Lib.hid hst8
        clear hw8 hp8 x0' x1' x2' x3' x4' g0' g1' g2' g3' g4' y0' y1' y2' y3' y4' k0' k1' k2' k3' k4' b0 b1 b2 b3' b4
        obtain ⟨z0, z1, z2, z3, z4, _, _, _, _, _⟩ := row5 hst8.box
        obtain ⟨y0, y1, y2, y3, y4, f0, f1, f2, f3, f4⟩ := row5 hst8.hA.row
        clear hst8
        go_wp2_with fail
        have hp := put5 X8.out.hA.row (.int .u8 5) (.string (bs s)) (.slice (some ⟨w6.heap.size, 0, none⟩) 2 2) (.slice none 0 0) (.slice none 0 0)
        refine bodyPost_ret (results_cell1 rfl _ _ _ rfl (nodeVar _ c _ _ _ _ _ hp.row)) rfl ?_
        rw [X2.out.2.1, show ((R.ok y (s :: q)).then_ fun y q => more cmps read 1 y q) = (read q).map (Nd.bin s y) from one_more_only y s q HS.out.1]
        exact X8.out.fin hp
  · have hend : ∀ y s q, r1 = .ok y (s :: q) → cmps.contains s = false := fun y s q e => by
      cases hc : cmps.contains s with
      | false => rfl
      | true => exact absurd ⟨y, s, q, e, hc⟩ hgo
    have HEN := Lib.hid hend
    have hno : ∀ s, cmps.contains s = true → No r1.isBad r1.rest s := fun s hs => No.gate fun y q e hh => by
      obtain ⟨q', rfl⟩ := head_form hh
      have := hend y s q' e
      rw [hs] at this; cases this
    have HNO := Lib.hid hno
    obtain ⟨z0, z1, z2, z3, z4, _, _, _, _, _⟩ := row5 X2.out.1.box
    obtain ⟨y0, y1, y2, y3, y4, f0, f1, f2, f3, f4⟩ := row5 X2.out.1.hA.row
    clear hgo hend hno
    go_wp2_with fail
    refine is_t X2.out.1.rd [61, 61] 0 (by decide) ?_
    rw [show (!r1.isBad && (r1.rest[0]? == some [61, 61])) = false from HNO.out [61, 61] (by decide)]
    go_wp2_with fail
    refine is_t X2.out.1.rd [33, 61] 0 (by decide) ?_
    rw [show (!r1.isBad && (r1.rest[0]? == some [33, 61])) = false from HNO.out [33, 61] (by decide)]
    go_wp2_with fail
    refine is_t X2.out.1.rd [60] 0 (by decide) ?_
    rw [show (!r1.isBad && (r1.rest[0]? == some [60])) = false from HNO.out [60] (by decide)]
    go_wp2_with fail
    refine is_t X2.out.1.rd [60, 61] 0 (by decide) ?_
    rw [show (!r1.isBad && (r1.rest[0]? == some [60, 61])) = false from HNO.out [60, 61] (by decide)]
    go_wp2_with fail
    have hp := put5 X2.out.1.hA.row (.int .u8 (x.kind : Int)) (.string (tx x.text)) (.slice a1 x.l.len d1) (.slice a2 x.body.len d2) (.slice a3 x.els.len d3)
    refine bodyPost_ret (results_cell1 rfl _ _ _ rfl (nodeVar _ c _ _ _ _ _ hp.row)) rfl ?_
    rw [X2.out.2.1, rrw_end HEN.out]
    exact X2.out.1.fin hp

theorem rexpr_r {rb : Nat} {tv : Value} {xs : List To.T} {inn : Bool} {n : Nat} (hr : RReads 164 rb tv xs inn n sg) : RReads 109 rb tv xs inn n expr := by
  intro w ts bad hn h
  rw [Nd.expr_is n ts hn]
  exact rcmp_r (rsum_r (rproduct_r hr sg_down (Nat.le_refl n)) (prodOf_down sg_down n) (Nat.le_refl n)) (sumOf_down sg_down n) w ts bad hn h

/-- What has signs ahead, however many tokens there are. -/
theorem rsign_r {rb : Nat} {tv : Value} {xs : List To.T} {inn : Bool} : ∀ n, RReads 164 rb tv xs inn n sg := by
  have step : ∀ n (ts : List Tx) (w : World) (bad : Bool), ts.length ≤ n → (∀ r s, ts = s :: r → RReads 164 rb tv xs inn r.length sg) → Rr w rb tv xs ts inn bad → Calls Tryz.prog 164 #[.pointer (some ⟨rb, 0, none⟩)] w (GotR w rb tv xs inn (gate bad ts (sg ts))) := by
    intro n ts w bad hn ih h
    have hat : RReads 174 rb tv xs inn ts.length (atom expr) := by
      cases ts with
      | nil =>
        intro w' us b hu h'
        have : us = [] := List.eq_nil_of_length_eq_zero (by simpa using hu)
        subst this
        exact ratom_num (No.head (by simp) _) (No.head (by simp) _) (by cases b <;> decide) h'
      | cons s r => exact ratom_r (rexpr_r (ih r s rfl))
    cases bad with
    | true => exact rsign_atom hat (Nat.le_refl _) (No.bad _ _) (No.bad _ _) h
    | false =>
      cases ts with
      | nil => exact rsign_atom hat (Nat.le_refl _) (No.head (by simp) _) (No.head (by simp) _) h
      | cons s r =>
        have hs := ih r s rfl
        rw [gate_ok, sg_cons]
        by_cases h1 : s = [45]
        · subst h1; rw [if_pos rfl]; exact rsign_neg hs (Nat.le_refl _) h
        · rw [if_neg h1]
          by_cases h2 : s = [110, 111, 116]
          · subst h2; rw [if_pos rfl]; exact rsign_not hs (Nat.le_refl _) h
          · rw [if_neg h2]
            exact rsign_atom hat (Nat.le_refl _) (No.head (by simpa using h1) _) (No.head (by simpa using h2) _) h
  intro n
  induction n with
  | zero =>
    intro w ts bad hn h
    have : ts = [] := List.eq_nil_of_length_eq_zero (by omega)
    subst this
    exact step 0 [] w bad (Nat.le_refl _) (fun r s e => by cases e) h
  | succ n ih =>
    intro w ts bad hn h
    refine step (n + 1) ts w bad hn (fun r s e => ?_) h
    subst e
    intro w' us b hu h'
    exact ih w' us b (by rw [List.length_cons] at hn; omega) h'
/-- AN EXPRESSION. -/
theorem rexpr_t {rb : Nat} {tv : Value} {xs : List To.T} {inn bad : Bool} {w : World} {ts : List Tx} (h : Rr w rb tv xs ts inn bad) : Calls Tryz.prog 109 #[.pointer (some ⟨rb, 0, none⟩)] w (GotR w rb tv xs inn (gate bad ts (expr ts))) :=
  rexpr_r (rsign_r ts.length) w ts bad (Nat.le_refl _) h
end Go.Proofs.YtcldcigopkfmmaaGreatDoor
