/- Trees: how great programs are: texts, functions, programs. -/
import Derived.Test.YtobpnjnfpgcpaaaGreatDoorNdSizeT
namespace Go.Proofs.YtobpnjnfpgcpaaaGreatDoor
open Go.RowKit Go.My Go.Nd

set_option maxRecDepth 100000 in
set_option maxHeartbeats 4000000 in
theorem textsSize_t {w : World} {B : Nat} {tw : Bool} {v : Value} {ts : List (List UInt8)} (hB : B ≤ w.heap.size) (hv : TextsIn w (· < B) tw v ts) : Calls Tryz.prog 74 #[v] w (Told1 w) := by
  obtain ⟨a, c, rfl, _, _, hr, _, hc⟩ := hv
  have HC := Lib.hid hc
  have HBB := Lib.hid hB
  have l0 : (0 : Int) ≤ (ts.length : Int) := by omega
  have l1 : (ts.length : Int) ≤ 140737488351232 := by omega
  clear hc hr hB
  go_enter Tryz.func74, Tryz.ntmps74
  go_wp2_with fail
  go_loopg [3, 4] ts.length (fun gk v3 v4 wr => SizeAt w ts.length gk v3 v4 wr)
  case atStart => exact ⟨0, _, Nat.zero_le _, rfl, rfl, rfl, Below.refl _ _⟩
  case round =>
    obtain ⟨i, n, hi, rfl, rfl, rfl, hb⟩ := hrel
    have i0 : (0 : Int) ≤ (i : Int) := by omega
    have K := Lib.hid hb
    by_cases hlt : i < ts.length
    · have i1 : (i : Int) < (ts.length : Int) := by omega
      by_cases hm : n ≤ 1048576
      · obtain ⟨b, off, ea, hS, hN, hl⟩ := HC.out i hlt
        subst ea
        have d0 := (World.cell?_of_block (hb.block b (Nat.lt_of_lt_of_le hS HBB.out))).trans hN
        have tsz := tx_size ts[i]
        obtain ⟨x, hx⟩ : ∃ x, x = ts[i] := ⟨_, rfl⟩
        rw [← hx] at d0 hl tsz
        obtain ⟨r, hr⟩ : ∃ r, IntKind.i64.wrap (n + (x.length : Int)) = r := ⟨_, rfl⟩
        have x1 : (x.length : Int) ≤ 140737488351232 := by omega
        clear hN hS hx hb hl
        go_wp2_with fail
        go_roundg (ts.length - (i + 1))
        case measure => omega
        case rel => exact ⟨i + 1, _, hlt, rfl, rfl, by go_num, K.out⟩
      · have hm2 : (1048576 : Int) < n := by omega
        clear hm hb
        go_wp2_with fail
        go_ret
        exact ⟨n, rfl, K.out⟩
    · have i1 : (ts.length : Int) ≤ (i : Int) := by omega
      clear hlt hb hi
      go_wp2_with fail
      go_ret
      exact ⟨n, rfl, K.out⟩

set_option maxRecDepth 100000 in
set_option maxHeartbeats 4000000 in
theorem funcSize_t {w : World} {B : Nat} {tw : Bool} {nm : List UInt8} {v1 v2 : Value} {ts : List (List UInt8)} {x : Ns} (hB : B ≤ w.heap.size) (hn : nm.length ≤ 140737488351232) (h1 : TextsIn w (· < B) tw v1 ts) (h2 : Nodes w (· < B) tw v2 x) :
    Calls Tryz.prog 44 #[.agg #[.string (tx nm), v1, v2]] w (Told1 w) := by
  have hA := Below.alloc (Below.refl w.heap.size w) (Nat.le_refl _) (.cells #[.string (tx nm), v1, v2] 50)
  obtain ⟨bx, hbx⟩ : ∃ bx, bx = w.heap.size := ⟨_, rfl⟩
  obtain ⟨w0, hw0⟩ : ∃ w0, w0 = w.alloc (.cells #[.string (tx nm), v1, v2] 50) := ⟨_, rfl⟩
  have hbox : ∀ w1, Below w0.heap.size w0 w1 → w1.cell? ⟨bx, 1, none⟩ = some v1 ∧ w1.cell? ⟨bx, 2, none⟩ = some v2 := by
    intro w1 hb1
    rw [hw0] at hb1
    rw [hbx]
    have q2 := box_later hb1 1
    have q3 := box_later hb1 2
    simp at q2 q3
    exact ⟨q2, q3⟩
  rw [← hw0] at hA
  have HX := Lib.hid hbox
  have Y0 := Lib.hid hA
  have N1 := Lib.hid (h1.below (hA.mono hB))
  have N2 := Lib.hid (h2.below (hA.mono hB))
  have HBB := Lib.hid (Nat.le_trans hB hA.size)
  have ts0 := tx_size nm
  have t0 : (0 : Int) ≤ (nm.length : Int) := by omega
  have t1 : (nm.length : Int) ≤ 140737488351232 := by omega
  obtain ⟨a1, c1, rfl⟩ := h1.form
  obtain ⟨a2, c2, rfl⟩ := h2.form
  clear hbox hA h1 h2 hB hn
  go_enter Tryz.func44, Tryz.ntmps44
  go_upto_if 9 with fail
  rw [← hbx, ← hw0]
  clear hbx hw0
  go_cut [3] (fun v3 wx => CutN w0 v3 wx)
  case first =>
    by_cases hm : (1 : Int) + (nm.length : Int) ≤ 1048576
    · obtain ⟨q2, q3⟩ := HX.out w0 (Below.refl _ _)
      go_wp2_with fail
      refine (textsSize_t HBB.out N1.out).mono ?_
      rintro e w1 ⟨m, rfl, hb⟩
      have K := Lib.hid hb
      clear hb
      obtain ⟨r, hr⟩ : ∃ r, IntKind.i64.wrap ((1 : Int) + (nm.length : Int) + m) = r := ⟨_, rfl⟩
      go_wp2_with fail
      go_meet
      case rel => exact ⟨_, rfl, K.out⟩
    · have hm2 : (1048576 : Int) < (1 : Int) + (nm.length : Int) := by omega
      clear hm
      go_wp2_with fail
      go_meet
      case rel => exact ⟨_, rfl, Below.refl _ _⟩
  case rest =>
    obtain ⟨n, rfl, hb⟩ := hcut
    have K := Lib.hid hb
    obtain ⟨q2, q3⟩ := HX.out wc hb
    clear hb
    go_upto_if 16 with fail
    go_cut [3] (fun v3 wx => CutN w0 v3 wx)
    case first =>
      by_cases hm : n ≤ 1048576
      · go_wp2_with fail
        refine (size_said tw x wc B _ (Nat.le_trans HBB.out K.out.size) (N2.out.below (K.out.mono HBB.out))).mono ?_
        rintro e w1 ⟨m, rfl, hb⟩
        have K2 := Lib.hid (K.out.trans (hb.mono K.out.size))
        clear hb
        obtain ⟨r, hr⟩ : ∃ r, IntKind.i64.wrap (n + m) = r := ⟨_, rfl⟩
        go_wp2_with fail
        go_meet
        case rel => exact ⟨_, rfl, K2.out⟩
      · have hm2 : (1048576 : Int) < n := by omega
        clear hm
        go_wp2_with fail
        go_meet
        case rel => exact ⟨_, rfl, K.out⟩
    case rest =>
      clear q2 q3
      obtain ⟨n4, rfl, hb4⟩ := hcut
      have K4 := Lib.hid hb4
      clear hb4
      go_wp2_with fail
      go_ret
      exact ⟨n4, rfl, Y0.out.trans (K4.out.mono Y0.out.size)⟩

set_option maxRecDepth 100000 in
set_option maxHeartbeats 4000000 in
theorem funcsSize_t {w : World} {B : Nat} {tw : Bool} {v : Value} {fs : List Nd.Fn} (hB : B ≤ w.heap.size) (hv : FuncsIn w (· < B) tw v fs) : Calls Tryz.prog 23 #[v] w (Told1 w) := by
  obtain ⟨a, c, rfl, _, _, hr, _, hc⟩ := hv
  have HC := Lib.hid hc
  have HBB := Lib.hid hB
  have l0 : (0 : Int) ≤ (fs.length : Int) := by omega
  have l1 : (fs.length : Int) ≤ 140737488351232 := by omega
  clear hc hr hB
  go_enter Tryz.func23, Tryz.ntmps23
  go_wp2_with fail
  go_loopg [3, 4] fs.length (fun gk v3 v4 wr => SizeAt w fs.length gk v3 v4 wr)
  case atStart => exact ⟨0, _, Nat.zero_le _, rfl, rfl, rfl, Below.refl _ _⟩
  case round =>
    obtain ⟨i, n, hi, rfl, rfl, rfl, hb⟩ := hrel
    have i0 : (0 : Int) ≤ (i : Int) := by omega
    have K := Lib.hid hb
    by_cases hlt : i < fs.length
    · have i1 : (i : Int) < (fs.length : Int) := by omega
      by_cases hm : n ≤ 1048576
      · obtain ⟨b, off, v1, v2, rfl, hS, hN⟩ := HC.out i hlt
        have hN' := hN.frame hS fun k hk _ => hb.block k (Nat.lt_of_lt_of_le hk HBB.out)
        obtain ⟨f, hx⟩ : ∃ f, f = fs[i] := ⟨_, rfl⟩
        rw [← hx] at hN'
        obtain ⟨fname, fargs, fbody⟩ := f
        have d0 := hN'.d0
        have d1 := hN'.d1
        have d2 := hN'.d2
        have C := Lib.hid (funcSize_t (Nat.le_trans HBB.out hb.size) hN'.name hN'.args hN'.body)
        obtain ⟨a1, c1, e1⟩ := hN'.args.form
        obtain ⟨a2, c2, e2⟩ := hN'.body.form
        subst e1
        subst e2
        simp only at d0 d1 d2
        clear hN hN' hx hS hb
        go_wp2_with fail
        refine C.out.mono ?_
        rintro e w1 ⟨m, rfl, hb1⟩
        have K1 := Lib.hid (K.out.trans (hb1.mono K.out.size))
        clear hb1
        obtain ⟨r, hr⟩ : ∃ r, IntKind.i64.wrap (n + m) = r := ⟨_, rfl⟩
        go_wp2_with fail
        go_roundg (fs.length - (i + 1))
        case measure => omega
        case rel => exact ⟨i + 1, _, hlt, rfl, rfl, by go_num, K1.out⟩
      · have hm2 : (1048576 : Int) < n := by omega
        clear hm hb
        go_wp2_with fail
        go_ret
        exact ⟨n, rfl, K.out⟩
    · have i1 : (fs.length : Int) ≤ (i : Int) := by omega
      clear hlt hb hi
      go_wp2_with fail
      go_ret
      exact ⟨n, rfl, K.out⟩

set_option maxRecDepth 100000 in
set_option maxHeartbeats 4000000 in
theorem progSize_t {w : World} {B : Nat} {tw : Bool} {p : Pr} {v1 v2 : Value} (hB : B ≤ w.heap.size) (h1 : FuncsIn w (· < B) tw v1 p.funcs) (h2 : Nodes w (· < B) tw v2 p.body) :
    Calls Tryz.prog 8 #[.agg #[v1, v2]] w (Told1 w) := by
  have hA := Below.alloc (Below.refl w.heap.size w) (Nat.le_refl _) (.cells #[v1, v2] 25)
  obtain ⟨bx, hbx⟩ : ∃ bx, bx = w.heap.size := ⟨_, rfl⟩
  obtain ⟨w0, hw0⟩ : ∃ w0, w0 = w.alloc (.cells #[v1, v2] 25) := ⟨_, rfl⟩
  have hbox : ∀ w1, Below w0.heap.size w0 w1 → w1.cell? ⟨bx, 0, none⟩ = some v1 ∧ w1.cell? ⟨bx, 1, none⟩ = some v2 := by
    intro w1 hb1
    rw [hw0] at hb1
    rw [hbx]
    have q2 := box_later hb1 0
    have q3 := box_later hb1 1
    simp at q2 q3
    exact ⟨q2, q3⟩
  rw [← hw0] at hA
  have HX := Lib.hid hbox
  have Y0 := Lib.hid hA
  have N1 := Lib.hid (h1.below (hA.mono hB))
  have N2 := Lib.hid (h2.below (hA.mono hB))
  have HBB := Lib.hid (Nat.le_trans hB hA.size)
  obtain ⟨a1, c1, rfl⟩ := h1.form
  obtain ⟨a2, c2, rfl⟩ := h2.form
  clear hbox hA h1 h2 hB
  go_enter Tryz.func8, Tryz.ntmps8
  go_upto_region 1 with fail
  rw [← hbx, ← hw0]
  clear hbx hw0
  obtain ⟨q2, q3⟩ := HX.out w0 (Below.refl _ _)
  go_wp2_with fail
  refine (funcsSize_t HBB.out N1.out).mono ?_
  rintro e w1 ⟨m, rfl, hb⟩
  have K := Lib.hid hb
  clear q2 q3
  obtain ⟨q2, q3⟩ := HX.out w1 hb
  clear hb
  obtain ⟨n, hr⟩ : ∃ r, IntKind.i64.wrap ((1 : Int) + m) = r := ⟨_, rfl⟩
  by_cases hm : n ≤ 1048576
  · go_wp2_with fail
    refine (size_said tw p.body w1 B _ (Nat.le_trans HBB.out K.out.size) (N2.out.below (K.out.mono HBB.out))).mono ?_
    rintro e w2 ⟨m2, rfl, hb⟩
    have K2 := Lib.hid (K.out.trans (hb.mono K.out.size))
    clear hb
    obtain ⟨r, hr2⟩ : ∃ r, IntKind.i64.wrap (n + m2) = r := ⟨_, rfl⟩
    go_wp2_with fail
    go_ret
    exact ⟨_, rfl, Y0.out.trans (K2.out.mono Y0.out.size)⟩
  · have hm2 : (1048576 : Int) < n := by omega
    clear hm
    go_wp2_with fail
    go_ret
    exact ⟨_, rfl, Y0.out.trans (K.out.mono Y0.out.size)⟩
end Go.Proofs.YtobpnjnfpgcpaaaGreatDoor
