/- Trees, as the document has them: the reader: products, sums. Printed by genrr.py. -/
import Derived.Test.YtcldcigopkfmmaaGreatDoorRrStQ
namespace Go.Proofs.YtcldcigopkfmmaaGreatDoor
open Go.RowKit Go.My Go.Nd

/-- At the head of a round: what is still read, with fuel enough. -/
def RrwAt (w : World) (rb : Nat) (tv : Value) (xs : List To.T) (inn : Bool) (c b3 n : Nat) (sg : List Tx) (read : List Tx → R Nd) (tot : R Nd) (gk : Nat) (wr : World) : Prop :=
  ∃ r x cs k, gk = r.rest.length ∧ RwSt w rb tv xs inn c b3 r x cs wr ∧ tot = r.then_ (fun y q => more sg read k y q) ∧ r.rest.length ≤ k ∧ r.rest.length ≤ n

theorem more_one {sg : List Tx} {read : List Tx → R Nd} (k : Nat) (x : Nd) (s : Tx) (q : List Tx) (hs : sg.contains s = true) : more sg read (k + 1) x (s :: q) = ((read q).map (bin s x)).then_ fun y r => more sg read k y r := by
  conv => lhs; unfold more
  rw [if_pos hs, R.map_then]
theorem rrw_end {sg : List Tx} {read : List Tx → R Nd} {r : R Nd} {k : Nat} (h : ∀ y s q, r = .ok y (s :: q) → sg.contains s = false) : (r.then_ fun y q => more sg read k y q) = r := by
  cases r with
  | bad q => rfl
  | ok y q =>
    cases q with
    | nil => cases k <;> rfl
    | cons s q => exact more_stop k y (s :: q) (.inr (h y s q rfl))


set_option maxRecDepth 100000 in
set_option maxHeartbeats 8000000 in
theorem rproduct_r {rb : Nat} {tv : Value} {xs : List To.T} {inn : Bool} {n K : Nat} {read : List Tx → R Nd} (hread : RReads 164 rb tv xs inn n read) (hd : ∀ ts, (read ts).Down ts) (hK : n ≤ K) : RReads 153 rb tv xs inn n (row K muls read) := by
  intro w ts bad hn h
  have R0 := RA.start h.lt
  have h0 := h.later (Put.new w #[.int .u8 0, .string ⟨#[]⟩, .slice none 0 0, .slice none 0 0, .slice none 0 0] TN).1
  obtain ⟨c, hc⟩ : ∃ c, c = w.heap.size := ⟨_, rfl⟩
  obtain ⟨wA, hwA⟩ : ∃ wA, wA = w.alloc (.cells #[.int .u8 0, .string ⟨#[]⟩, .slice none 0 0, .slice none 0 0, .slice none 0 0] TN) := ⟨_, rfl⟩
  rw [← hwA] at R0 h0
  rw [← hc] at R0
  have X0 := Lib.hid (And.intro R0 h0)
  clear h R0 h0
  have HE := Lib.hid (And.intro hread (And.intro hd (And.intro hK hn)))
  clear hread hd hK hn
  go_enter Tryz.func153, Tryz.ntmps153
  go_upto_region 1 with fail
  rw [← hwA, ← hc]
  clear hwA hc
  go_wp2_with fail
  refine (HE.out.1 wA ts bad HE.out.2.2.2 X0.out.2).mono ?_
  rintro e w1 ⟨hs1, h1, v, x, rfl, hN, hi⟩
  obtain ⟨r, hr⟩ : ∃ r, r = gate bad ts (read ts) := ⟨_, rfl⟩
  have htot : gate bad ts (row K muls read ts) = r.then_ (fun y q => more muls read K y q) := by rw [hr]; cases bad <;> rfl
  have hrl : r.rest.length ≤ ts.length := by
    rw [hr]
    cases bad with
    | true => exact Nat.le_refl _
    | false => exact R.rest_down (HE.out.2.1 ts)
  rw [← hr] at h1 hi
  obtain ⟨a1, d1, a2, d2, a3, d3, rfl⟩ := hN.form
  have hst := RwSt.start X0.out.1 hs1 h1 hN hi
  obtain ⟨b3, hb3⟩ : ∃ b3, b3 = w1.heap.size := ⟨_, rfl⟩
  obtain ⟨w3, hw3⟩ : ∃ w3, w3 = w1.alloc (.cells #[.int .u8 (x.kind : Int), .string (tx x.text), .slice a1 x.l.len d1, .slice a2 x.body.len d2, .slice a3 x.els.len d3] TN) := ⟨_, rfl⟩
  rw [← hw3, ← hb3] at hst
  have X1 := Lib.hid (And.intro hst (And.intro htot hrl))
  clear hst htot hrl hs1 h1 hN hi hr
  obtain ⟨tot, ht⟩ : ∃ tot, tot = gate bad ts (row K muls read ts) := ⟨_, rfl⟩
  have HT := Lib.hid ht
  clear ht
  go_upto_region 2 with fail
  rw [← hw3, ← hb3]
  clear hw3 hb3
  go_wp2_with fail
  go_loopg [4] r.rest.length (fun gk v4 wr => RrwAt w rb tv xs inn c b3 n muls read tot gk wr)
  case atStart => exact ⟨r, x, _, K, rfl, X1.out.1, HT.out.trans X1.out.2.1, Nat.le_trans X1.out.2.2 (Nat.le_trans HE.out.2.2.2 HE.out.2.2.1), Nat.le_trans X1.out.2.2 HE.out.2.2.2⟩
  case round =>
    obtain ⟨r1, x1, cs1, k, rfl, hst, hpl, hk, hn1⟩ := hrel
    clear X1
    obtain ⟨e1, j1, e2, j2, e3, j3, hcs⟩ := hst.node.form
    cases hcs
    obtain ⟨y0, y1, y2, y3, y4, f0, f1, f2, f3, f4⟩ := row5 hst.box
    obtain ⟨z0, z1, z2, z3, z4, g0, g1, g2, g3, g4⟩ := row5 hst.hA.row
    have X2 := Lib.hid (And.intro hst (And.intro hpl (And.intro hk hn1)))
    clear hst hpl hk hn1
    by_cases hgo : ∃ y s q, r1 = .ok y (s :: q) ∧ muls.contains s = true
    · obtain ⟨y, s, q, rfl, hs⟩ := hgo
      obtain rfl : y = x1 := X2.out.1.is y _ rfl
      have hss : s = [42] ∨ s = [47] := by simpa [muls] using hs
      have HS := Lib.hid (And.intro hs hss)
      clear hs hss
      go_upto_region 2 with fail
      go_cut [12] from 7 to 36 (fun v12 wx => v12 = .bool true ∧ wx = wr)
      case first =>
        rcases HS.out.2 with rfl | rfl
        · go_wp2_with fail
          refine is_t X2.out.1.rd [42] 0 (by decide) ?_
          rw [show (!(R.ok y ([42] :: q)).isBad && ((R.ok y ([42] :: q)).rest[0]? == some [42])) = true by rfl]
          go_wp2_with fail
          go_meet
          case rel => exact ⟨rfl, rfl⟩
        · go_wp2_with fail
          refine is_t X2.out.1.rd [42] 0 (by decide) ?_
          rw [show (!(R.ok y ([47] :: q)).isBad && ((R.ok y ([47] :: q)).rest[0]? == some [42])) = false by rfl]
          go_wp2_with fail
          refine is_t X2.out.1.rd [47] 0 (by decide) ?_
          rw [show (!(R.ok y ([47] :: q)).isBad && ((R.ok y ([47] :: q)).rest[0]? == some [47])) = true by rfl]
          go_wp2_with fail
          go_meet
          case rel => exact ⟨rfl, rfl⟩
      case rest =>
        obtain ⟨rfl, hwc⟩ := hcut
        obtain rfl : wr = _ := hwc.symm
        go_wp2_with fail
        have hst := X2.out.1
        have hsl : s.length ≤ 65536 := by obtain ⟨_, _, _, _, _, _, _, _, _, _, hs, _⟩ := hst.rd.token 0 (by show 0 < (s :: q).length; simp); exact hs
        have hl := hst.rd.len
        have hle := hst.rd.le
        obtain ⟨c0, c1, _, _, fr1, _, _⟩ := hst.rd.cell
        obtain ⟨b, off, cap, kd, cc, htv, hne, d0, d1, d2, _, _, _⟩ := hst.rd.token 0 (by show 0 < (s :: q).length; simp)
        subst htv
        obtain ⟨p, hp⟩ : ∃ p, p = xs.length - (R.ok y (s :: q) : R Nd).rest.length := ⟨_, rfl⟩
        obtain ⟨p', hp'⟩ : ∃ p', p' = xs.length - q.length := ⟨_, rfl⟩
        rw [← hp] at c1 d0 d1 d2
        simp only [Nat.add_zero] at d0 d1 d2
        have hpp : (p : Int) + 1 = (p' : Int) := by rw [show (R.ok y (s :: q) : R Nd).rest = s :: q from rfl, List.length_cons] at hp hle; omega
        have p0 : (0 : Int) ≤ (p : Int) := by omega
        have hi : (p : Int) < (xs.length : Int) := by rw [show (R.ok y (s :: q) : R Nd).rest = s :: q from rfl, List.length_cons] at hp hle; omega
        have hi2 : (xs.length : Int) ≤ 65536 := by omega
        have d1' : wr.cell? ⟨b, off + p * 3 + 1, none⟩ = some (.string (bs s)) := d1
        have HSL := Lib.hid (And.intro hsl (And.intro hp' hpp))
        clear hst hsl hl hle hp hp' hpp d0 d1 d2
        go_quiet (fail)
        go_upto_region 5 with fail
        rw [HSL.out.2.2, HSL.out.2.1]
        have hst2 := X2.out.1.below (below_drewN' wr nq)
        have hrd := (show Rr (wr.drewN nq) rb _ xs (s :: q) inn false from hst2.rd)
        have hst3 := hst2.step (r' := .ok y q) hrd.put1.step (hrd.next hrd.put1) (R.Is.ok _ _)
        obtain ⟨w2, hw2, hst3⟩ := hide_world (P := fun w2 => RwSt _ _ _ _ _ _ _ _ _ _ w2) hst3
        rw [← hw2]
        have hst4 := hst3.below (Below.refl _ w2).drew
        obtain ⟨b0, b1, b2, b3', b4, _, _, _, _, _⟩ := row5 hst3.box
        have X4 := Lib.hid hst4
        have HQ := Lib.hid (show q.length ≤ n by have := X2.out.2.2.2; have e : (R.ok y (s :: q) : R Nd).rest.length = q.length + 1 := rfl; omega)
        clear hst2 hrd hst3 hst4 hw2 c0 c1 d1' y0 y1 y2 y3 y4 z0 z1 z2 z3 z4 f0 f1 f2 f3 f4 g0 g1 g2 g3 g4
        go_region_law (first
          | (go_simp; go_at_call 164; refine (HE.out.1 w2.drew q false HQ.out X4.out.rd).mono ?_; rintro e w6 ⟨hs6, h6, v6, z, rfl, hN6, hi6⟩; rw [gate_ok] at h6 hi6; obtain ⟨o1, i1, o2, i2, o3, i3, rfl⟩ := hN6.form; have hrow6 := (hs6.kept (heap_lt X4.out.box) (by have := X4.out.hb; have := X4.out.hA.hrb; omega)).trans X4.out.box; obtain ⟨x0', x1', x2', x3', x4', g0', g1', g2', g3', g4'⟩ := row5 hrow6; have y0' := fun o => (row5 (row5_alloc hrow6 o)).1; have y1' := fun o => (row5 (row5_alloc hrow6 o)).2.1; have y2' := fun o => (row5 (row5_alloc hrow6 o)).2.2.1; have y3' := fun o => (row5 (row5_alloc hrow6 o)).2.2.2.1; have y4' := fun o => (row5 (row5_alloc hrow6 o)).2.2.2.2.1; have k0' := fun o => (row5 (row5_alloc hrow6 o)).2.2.2.2.2.1; have k1' := fun o => (row5 (row5_alloc hrow6 o)).2.2.2.2.2.2.1; have k2' := fun o => (row5 (row5_alloc hrow6 o)).2.2.2.2.2.2.2.1; have k3' := fun o => (row5 (row5_alloc hrow6 o)).2.2.2.2.2.2.2.2.1; have k4' := fun o => (row5 (row5_alloc hrow6 o)).2.2.2.2.2.2.2.2.2; have X6 := Lib.hid (And.intro hs6 (And.intro h6 (And.intro hN6 (And.intro hi6 hrow6)))); clear hs6 h6 hN6 hi6 hrow6))
        all_goals
          have hp8 := put5 (row5_alloc X6.out.2.2.2.2 (.cells #[.int .u8 (y.kind : Int), .string (tx y.text), .slice e1 y.l.len j1, .slice e2 y.body.len j2, .slice e3 y.els.len j3, .int .u8 (z.kind : Int), .string (tx z.text), .slice o1 z.l.len i1, .slice o2 z.body.len i2, .slice o3 z.els.len i3] TN)) (.int .u8 5) (.string (bs s)) (.slice (some ⟨w6.heap.size, 0, none⟩) 2 2) (.slice none 0 0) (.slice none 0 0)
          have hst8 := X4.out.bin (s := s) X6.out.1 X6.out.2.1 X6.out.2.2.1 X6.out.2.2.2.1 HSL.out.1 hp8
          obtain ⟨w8, hw8, hst8⟩ := hide_world (P := fun w8 => RwSt _ _ _ _ _ _ _ _ _ _ w8) hst8
          rw [← hw8]
          have X8 := Lib.hid hst8
          clear hw8 hst8 hp8 x0' x1' x2' x3' x4' g0' g1' g2' g3' g4' y0' y1' y2' y3' y4' k0' k1' k2' k3' k4' b0 b1 b2 b3' b4
          go_wp2_with fail
          go_roundg ((read q).map (Nd.bin s y)).rest.length
          case measure => rw [R.map_rest]; have := R.rest_down (HE.out.2.1 q); show _ < (s :: q).length; simp; omega
          case rel =>
            have h1 := X2.out.2.2.1
            have h2 : (R.ok y (s :: q) : R Nd).rest.length = q.length + 1 := rfl
            have h3 := R.rest_down (HE.out.2.1 q)
            have h4 := HQ.out
            obtain ⟨k', rfl⟩ : ∃ k', k = k' + 1 := ⟨k - 1, by omega⟩
            refine ⟨_, _, _, k', rfl, X8.out, ?_, by rw [R.map_rest]; omega, by rw [R.map_rest]; omega⟩
            rw [X2.out.2.1]
            exact more_one k' y s q HS.out.1
    · have hend : ∀ y s q, r1 = .ok y (s :: q) → muls.contains s = false := fun y s q e => by
        cases hc : muls.contains s with
        | false => rfl
        | true => exact absurd ⟨y, s, q, e, hc⟩ hgo
      have HEN := Lib.hid hend
      have hno : ∀ s, muls.contains s = true → No r1.isBad r1.rest s := fun s hs => No.gate fun y q e hh => by
        obtain ⟨q', rfl⟩ := head_form hh
        have := hend y s q' e
        rw [hs] at this; cases this
      have hn1 := hno [42] (by decide)
      have hn2 := hno [47] (by decide)
      have HNO := Lib.hid (And.intro hn1 hn2)
      clear hgo hend hno hn1 hn2
      go_wp2_with fail
      refine is_t X2.out.1.rd [42] 0 (by decide) ?_
      rw [show (!r1.isBad && (r1.rest[0]? == some [42])) = false from HNO.out.1]
      go_wp2_with fail
      refine is_t X2.out.1.rd [47] 0 (by decide) ?_
      rw [show (!r1.isBad && (r1.rest[0]? == some [47])) = false from HNO.out.2]
      go_wp2_with fail
      have hp := put5 X2.out.1.hA.row (.int .u8 (x1.kind : Int)) (.string (tx x1.text)) (.slice e1 x1.l.len j1) (.slice e2 x1.body.len j2) (.slice e3 x1.els.len j3)
      refine bodyPost_ret (results_cell1 rfl _ _ _ rfl (nodeVar _ c _ _ _ _ _ hp.row)) rfl ?_
      rw [← HT.out, X2.out.2.1, rrw_end HEN.out]
      exact X2.out.1.fin hp


set_option maxRecDepth 100000 in
set_option maxHeartbeats 8000000 in
theorem rsum_r {rb : Nat} {tv : Value} {xs : List To.T} {inn : Bool} {n K : Nat} {read : List Tx → R Nd} (hread : RReads 153 rb tv xs inn n read) (hd : ∀ ts, (read ts).Down ts) (hK : n ≤ K) : RReads 141 rb tv xs inn n (row K adds read) := by
  intro w ts bad hn h
  have R0 := RA.start h.lt
  have h0 := h.later (Put.new w #[.int .u8 0, .string ⟨#[]⟩, .slice none 0 0, .slice none 0 0, .slice none 0 0] TN).1
  obtain ⟨c, hc⟩ : ∃ c, c = w.heap.size := ⟨_, rfl⟩
  obtain ⟨wA, hwA⟩ : ∃ wA, wA = w.alloc (.cells #[.int .u8 0, .string ⟨#[]⟩, .slice none 0 0, .slice none 0 0, .slice none 0 0] TN) := ⟨_, rfl⟩
  rw [← hwA] at R0 h0
  rw [← hc] at R0
  have X0 := Lib.hid (And.intro R0 h0)
  clear h R0 h0
  have HE := Lib.hid (And.intro hread (And.intro hd (And.intro hK hn)))
  clear hread hd hK hn
  go_enter Tryz.func141, Tryz.ntmps141
  go_upto_region 1 with fail
  rw [← hwA, ← hc]
  clear hwA hc
  go_wp2_with fail
  refine (HE.out.1 wA ts bad HE.out.2.2.2 X0.out.2).mono ?_
  rintro e w1 ⟨hs1, h1, v, x, rfl, hN, hi⟩
  obtain ⟨r, hr⟩ : ∃ r, r = gate bad ts (read ts) := ⟨_, rfl⟩
  have htot : gate bad ts (row K adds read ts) = r.then_ (fun y q => more adds read K y q) := by rw [hr]; cases bad <;> rfl
  have hrl : r.rest.length ≤ ts.length := by
    rw [hr]
    cases bad with
    | true => exact Nat.le_refl _
    | false => exact R.rest_down (HE.out.2.1 ts)
  rw [← hr] at h1 hi
  obtain ⟨a1, d1, a2, d2, a3, d3, rfl⟩ := hN.form
  have hst := RwSt.start X0.out.1 hs1 h1 hN hi
  obtain ⟨b3, hb3⟩ : ∃ b3, b3 = w1.heap.size := ⟨_, rfl⟩
  obtain ⟨w3, hw3⟩ : ∃ w3, w3 = w1.alloc (.cells #[.int .u8 (x.kind : Int), .string (tx x.text), .slice a1 x.l.len d1, .slice a2 x.body.len d2, .slice a3 x.els.len d3] TN) := ⟨_, rfl⟩
  rw [← hw3, ← hb3] at hst
  have X1 := Lib.hid (And.intro hst (And.intro htot hrl))
  clear hst htot hrl hs1 h1 hN hi hr
  obtain ⟨tot, ht⟩ : ∃ tot, tot = gate bad ts (row K adds read ts) := ⟨_, rfl⟩
  have HT := Lib.hid ht
  clear ht
  go_upto_region 2 with fail
  rw [← hw3, ← hb3]
  clear hw3 hb3
  go_wp2_with fail
  go_loopg [4] r.rest.length (fun gk v4 wr => RrwAt w rb tv xs inn c b3 n adds read tot gk wr)
  case atStart => exact ⟨r, x, _, K, rfl, X1.out.1, HT.out.trans X1.out.2.1, Nat.le_trans X1.out.2.2 (Nat.le_trans HE.out.2.2.2 HE.out.2.2.1), Nat.le_trans X1.out.2.2 HE.out.2.2.2⟩
  case round =>
    obtain ⟨r1, x1, cs1, k, rfl, hst, hpl, hk, hn1⟩ := hrel
    clear X1
    obtain ⟨e1, j1, e2, j2, e3, j3, hcs⟩ := hst.node.form
    cases hcs
    obtain ⟨y0, y1, y2, y3, y4, f0, f1, f2, f3, f4⟩ := row5 hst.box
    obtain ⟨z0, z1, z2, z3, z4, g0, g1, g2, g3, g4⟩ := row5 hst.hA.row
    have X2 := Lib.hid (And.intro hst (And.intro hpl (And.intro hk hn1)))
    clear hst hpl hk hn1
    by_cases hgo : ∃ y s q, r1 = .ok y (s :: q) ∧ adds.contains s = true
    · obtain ⟨y, s, q, rfl, hs⟩ := hgo
      obtain rfl : y = x1 := X2.out.1.is y _ rfl
      have hss : s = [43] ∨ s = [45] := by simpa [adds] using hs
      have HS := Lib.hid (And.intro hs hss)
      clear hs hss
      go_upto_region 2 with fail
      go_cut [12] from 7 to 36 (fun v12 wx => v12 = .bool true ∧ wx = wr)
      case first =>
        rcases HS.out.2 with rfl | rfl
        · go_wp2_with fail
          refine is_t X2.out.1.rd [43] 0 (by decide) ?_
          rw [show (!(R.ok y ([43] :: q)).isBad && ((R.ok y ([43] :: q)).rest[0]? == some [43])) = true by rfl]
          go_wp2_with fail
          go_meet
          case rel => exact ⟨rfl, rfl⟩
        · go_wp2_with fail
          refine is_t X2.out.1.rd [43] 0 (by decide) ?_
          rw [show (!(R.ok y ([45] :: q)).isBad && ((R.ok y ([45] :: q)).rest[0]? == some [43])) = false by rfl]
          go_wp2_with fail
          refine is_t X2.out.1.rd [45] 0 (by decide) ?_
          rw [show (!(R.ok y ([45] :: q)).isBad && ((R.ok y ([45] :: q)).rest[0]? == some [45])) = true by rfl]
          go_wp2_with fail
          go_meet
          case rel => exact ⟨rfl, rfl⟩
      case rest =>
        obtain ⟨rfl, hwc⟩ := hcut
        obtain rfl : wr = _ := hwc.symm
        go_wp2_with fail
        have hst := X2.out.1
        have hsl : s.length ≤ 65536 := by obtain ⟨_, _, _, _, _, _, _, _, _, _, hs, _⟩ := hst.rd.token 0 (by show 0 < (s :: q).length; simp); exact hs
        have hl := hst.rd.len
        have hle := hst.rd.le
        obtain ⟨c0, c1, _, _, fr1, _, _⟩ := hst.rd.cell
        obtain ⟨b, off, cap, kd, cc, htv, hne, d0, d1, d2, _, _, _⟩ := hst.rd.token 0 (by show 0 < (s :: q).length; simp)
        subst htv
        obtain ⟨p, hp⟩ : ∃ p, p = xs.length - (R.ok y (s :: q) : R Nd).rest.length := ⟨_, rfl⟩
        obtain ⟨p', hp'⟩ : ∃ p', p' = xs.length - q.length := ⟨_, rfl⟩
        rw [← hp] at c1 d0 d1 d2
        simp only [Nat.add_zero] at d0 d1 d2
        have hpp : (p : Int) + 1 = (p' : Int) := by rw [show (R.ok y (s :: q) : R Nd).rest = s :: q from rfl, List.length_cons] at hp hle; omega
        have p0 : (0 : Int) ≤ (p : Int) := by omega
        have hi : (p : Int) < (xs.length : Int) := by rw [show (R.ok y (s :: q) : R Nd).rest = s :: q from rfl, List.length_cons] at hp hle; omega
        have hi2 : (xs.length : Int) ≤ 65536 := by omega
        have d1' : wr.cell? ⟨b, off + p * 3 + 1, none⟩ = some (.string (bs s)) := d1
        have HSL := Lib.hid (And.intro hsl (And.intro hp' hpp))
        clear hst hsl hl hle hp hp' hpp d0 d1 d2
        go_quiet (fail)
        go_upto_region 5 with fail
        rw [HSL.out.2.2, HSL.out.2.1]
        have hst2 := X2.out.1.below (below_drewN' wr nq)
        have hrd := (show Rr (wr.drewN nq) rb _ xs (s :: q) inn false from hst2.rd)
        have hst3 := hst2.step (r' := .ok y q) hrd.put1.step (hrd.next hrd.put1) (R.Is.ok _ _)
        obtain ⟨w2, hw2, hst3⟩ := hide_world (P := fun w2 => RwSt _ _ _ _ _ _ _ _ _ _ w2) hst3
        rw [← hw2]
        have hst4 := hst3.below (Below.refl _ w2).drew
        obtain ⟨b0, b1, b2, b3', b4, _, _, _, _, _⟩ := row5 hst3.box
        have X4 := Lib.hid hst4
        have HQ := Lib.hid (show q.length ≤ n by have := X2.out.2.2.2; have e : (R.ok y (s :: q) : R Nd).rest.length = q.length + 1 := rfl; omega)
        clear hst2 hrd hst3 hst4 hw2 c0 c1 d1' y0 y1 y2 y3 y4 z0 z1 z2 z3 z4 f0 f1 f2 f3 f4 g0 g1 g2 g3 g4
        go_region_law (first
          | (go_simp; go_at_call 153; refine (HE.out.1 w2.drew q false HQ.out X4.out.rd).mono ?_; rintro e w6 ⟨hs6, h6, v6, z, rfl, hN6, hi6⟩; rw [gate_ok] at h6 hi6; obtain ⟨o1, i1, o2, i2, o3, i3, rfl⟩ := hN6.form; have hrow6 := (hs6.kept (heap_lt X4.out.box) (by have := X4.out.hb; have := X4.out.hA.hrb; omega)).trans X4.out.box; obtain ⟨x0', x1', x2', x3', x4', g0', g1', g2', g3', g4'⟩ := row5 hrow6; have y0' := fun o => (row5 (row5_alloc hrow6 o)).1; have y1' := fun o => (row5 (row5_alloc hrow6 o)).2.1; have y2' := fun o => (row5 (row5_alloc hrow6 o)).2.2.1; have y3' := fun o => (row5 (row5_alloc hrow6 o)).2.2.2.1; have y4' := fun o => (row5 (row5_alloc hrow6 o)).2.2.2.2.1; have k0' := fun o => (row5 (row5_alloc hrow6 o)).2.2.2.2.2.1; have k1' := fun o => (row5 (row5_alloc hrow6 o)).2.2.2.2.2.2.1; have k2' := fun o => (row5 (row5_alloc hrow6 o)).2.2.2.2.2.2.2.1; have k3' := fun o => (row5 (row5_alloc hrow6 o)).2.2.2.2.2.2.2.2.1; have k4' := fun o => (row5 (row5_alloc hrow6 o)).2.2.2.2.2.2.2.2.2; have X6 := Lib.hid (And.intro hs6 (And.intro h6 (And.intro hN6 (And.intro hi6 hrow6)))); clear hs6 h6 hN6 hi6 hrow6))
        all_goals
          have hp8 := put5 (row5_alloc X6.out.2.2.2.2 (.cells #[.int .u8 (y.kind : Int), .string (tx y.text), .slice e1 y.l.len j1, .slice e2 y.body.len j2, .slice e3 y.els.len j3, .int .u8 (z.kind : Int), .string (tx z.text), .slice o1 z.l.len i1, .slice o2 z.body.len i2, .slice o3 z.els.len i3] TN)) (.int .u8 5) (.string (bs s)) (.slice (some ⟨w6.heap.size, 0, none⟩) 2 2) (.slice none 0 0) (.slice none 0 0)
          have hst8 := X4.out.bin (s := s) X6.out.1 X6.out.2.1 X6.out.2.2.1 X6.out.2.2.2.1 HSL.out.1 hp8
          obtain ⟨w8, hw8, hst8⟩ := hide_world (P := fun w8 => RwSt _ _ _ _ _ _ _ _ _ _ w8) hst8
          rw [← hw8]
          have X8 := Lib.hid hst8
          clear hw8 hst8 hp8 x0' x1' x2' x3' x4' g0' g1' g2' g3' g4' y0' y1' y2' y3' y4' k0' k1' k2' k3' k4' b0 b1 b2 b3' b4
          go_wp2_with fail
          go_roundg ((read q).map (Nd.bin s y)).rest.length
          case measure => rw [R.map_rest]; have := R.rest_down (HE.out.2.1 q); show _ < (s :: q).length; simp; omega
          case rel =>
            have h1 := X2.out.2.2.1
            have h2 : (R.ok y (s :: q) : R Nd).rest.length = q.length + 1 := rfl
            have h3 := R.rest_down (HE.out.2.1 q)
            have h4 := HQ.out
            obtain ⟨k', rfl⟩ : ∃ k', k = k' + 1 := ⟨k - 1, by omega⟩
            refine ⟨_, _, _, k', rfl, X8.out, ?_, by rw [R.map_rest]; omega, by rw [R.map_rest]; omega⟩
            rw [X2.out.2.1]
            exact more_one k' y s q HS.out.1
    · have hend : ∀ y s q, r1 = .ok y (s :: q) → adds.contains s = false := fun y s q e => by
        cases hc : adds.contains s with
        | false => rfl
        | true => exact absurd ⟨y, s, q, e, hc⟩ hgo
      have HEN := Lib.hid hend
      have hno : ∀ s, adds.contains s = true → No r1.isBad r1.rest s := fun s hs => No.gate fun y q e hh => by
        obtain ⟨q', rfl⟩ := head_form hh
        have := hend y s q' e
        rw [hs] at this; cases this
      have hn1 := hno [43] (by decide)
      have hn2 := hno [45] (by decide)
      have HNO := Lib.hid (And.intro hn1 hn2)
      clear hgo hend hno hn1 hn2
      go_wp2_with fail
      refine is_t X2.out.1.rd [43] 0 (by decide) ?_
      rw [show (!r1.isBad && (r1.rest[0]? == some [43])) = false from HNO.out.1]
      go_wp2_with fail
      refine is_t X2.out.1.rd [45] 0 (by decide) ?_
      rw [show (!r1.isBad && (r1.rest[0]? == some [45])) = false from HNO.out.2]
      go_wp2_with fail
      have hp := put5 X2.out.1.hA.row (.int .u8 (x1.kind : Int)) (.string (tx x1.text)) (.slice e1 x1.l.len j1) (.slice e2 x1.body.len j2) (.slice e3 x1.els.len j3)
      refine bodyPost_ret (results_cell1 rfl _ _ _ rfl (nodeVar _ c _ _ _ _ _ hp.row)) rfl ?_
      rw [← HT.out, X2.out.2.1, rrw_end HEN.out]
      exact X2.out.1.fin hp

end Go.Proofs.YtcldcigopkfmmaaGreatDoor
