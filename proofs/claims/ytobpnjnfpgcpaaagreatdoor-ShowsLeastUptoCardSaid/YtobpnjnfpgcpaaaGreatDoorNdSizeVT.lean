/- Trees: how great nodes are: at least as many as there are nodes and letters. -/
import Derived.Test.YtobpnjnfpgcpaaaGreatDoorNdSizeT
import Derived.Test.YtobpnjnfpgcpaaaGreatDoorTrA1
namespace Go.Proofs.YtobpnjnfpgcpaaaGreatDoor
open Go.RowKit Go.My Go.Nd

def ToldV (w : World) (lo hi : Nat) (e : Ending) (w' : World) : Prop := ∃ n : Int, e = .returned (.int .i64 n) ∧ ((lo : Int) ≤ n ∧ n ≤ (hi : Int)) ∧ Below w.heap.size w w'

def SizeV (tw : Bool) (x : Ns) : Prop := x.sz ≤ 1048576 → ∀ (w : World) (B : Nat) (v : Value), B ≤ w.heap.size → Nodes w (· < B) tw v x → Calls Tryz.prog 22 #[v] w (ToldV w x.sz (2 * x.sz))

def CutV (w : World) (lo hi : Nat) (v3 : Value) (wx : World) : Prop := ∃ n : Int, v3 = .int .i64 n ∧ ((lo : Int) ≤ n ∧ n ≤ (hi : Int)) ∧ Below w.heap.size w wx


set_option maxRecDepth 100000 in
set_option maxHeartbeats 4000000 in
theorem size_oneV {tw : Bool} {B : Nat} {x : Nd} (h1 : SizeV tw x.l) (h2 : SizeV tw x.body) (h3 : SizeV tw x.els) (hsz : 1 + x.text.length + x.l.sz + x.body.sz + x.els.sz ≤ 1048576) {w : World} {a1 a2 a3 : Option Addr} {c1 c2 c3 : Nat} (hB : B ≤ w.heap.size)
    (n1 : Nodes w (· < B) tw (.slice a1 x.l.len c1) x.l) (n2 : Nodes w (· < B) tw (.slice a2 x.body.len c2) x.body) (n3 : Nodes w (· < B) tw (.slice a3 x.els.len c3) x.els) (ht : x.text.length ≤ 140737488351232) :
    Calls Tryz.prog 17 #[.agg #[.int .u8 (x.kind : Int), .string (tx x.text), .slice a1 x.l.len c1, .slice a2 x.body.len c2, .slice a3 x.els.len c3]] w (ToldV w (1 + x.text.length + x.l.sz + x.body.sz + x.els.sz) (2 * (1 + x.text.length + x.l.sz + x.body.sz + x.els.sz) - 1)) := by
  obtain ⟨kd, tt, xl, xb, xe⟩ := x
  simp only at *
  have hA := Below.alloc (Below.refl w.heap.size w) (Nat.le_refl _) (.cells #[.int .u8 (kd : Int), .string (tx tt), .slice a1 xl.len c1, .slice a2 xb.len c2, .slice a3 xe.len c3] 39)
  obtain ⟨bx, hbx⟩ : ∃ bx, bx = w.heap.size := ⟨_, rfl⟩
  obtain ⟨w0, hw0⟩ : ∃ w0, w0 = w.alloc (.cells #[.int .u8 (kd : Int), .string (tx tt), .slice a1 xl.len c1, .slice a2 xb.len c2, .slice a3 xe.len c3] 39) := ⟨_, rfl⟩
  have hbox : ∀ w1, Below w0.heap.size w0 w1 → w1.cell? ⟨bx, 2, none⟩ = some (.slice a1 xl.len c1) ∧ w1.cell? ⟨bx, 3, none⟩ = some (.slice a2 xb.len c2) ∧ w1.cell? ⟨bx, 4, none⟩ = some (.slice a3 xe.len c3) := by
    intro w1 hb1
    rw [hw0] at hb1
    rw [hbx]
    have q2 := box_later hb1 2
    have q3 := box_later hb1 3
    have q4 := box_later hb1 4
    simp at q2 q3 q4
    exact ⟨q2, q3, q4⟩
  rw [← hw0] at hA
  have HX := Lib.hid hbox
  have Y0 := Lib.hid hA
  have H1 := Lib.hid h1
  have H2 := Lib.hid h2
  have H3 := Lib.hid h3
  have N1 := Lib.hid (n1.below (hA.mono hB))
  have N2 := Lib.hid (n2.below (hA.mono hB))
  have N3 := Lib.hid (n3.below (hA.mono hB))
  have HBB := Lib.hid (Nat.le_trans hB hA.size)
  have ts := tx_size tt
  have t0 : (0 : Int) ≤ (tt.length : Int) := by omega
  have t1 : (tt.length : Int) ≤ 140737488351232 := by omega
  have HZ := Lib.hid hsz
  clear hsz hbox hA h1 h2 h3 n1 n2 n3 hB ht
  go_enter Tryz.func17, Tryz.ntmps17
  go_upto_if 9 with fail
  rw [← hbx, ← hw0]
  clear hbx hw0
  go_cut [3] (fun v3 wx => CutV w0 (1 + tt.length + xl.sz) (1 + tt.length + 2 * xl.sz) v3 wx)
  case first =>
    by_cases hm : (1 : Int) + (tt.length : Int) ≤ 1048576
    · obtain ⟨q2, q3, q4⟩ := HX.out w0 (Below.refl _ _)
      go_wp2_with fail
      refine (H1.out (by have := HZ.out; omega) w0 B _ HBB.out N1.out).mono ?_
      rintro e w1 ⟨m, rfl, hm2, hb⟩
      have K := Lib.hid hb
      obtain ⟨r, hr⟩ : ∃ r, IntKind.i64.wrap ((1 : Int) + (tt.length : Int) + m) = r := ⟨_, rfl⟩
      have HR := Lib.hid (show ((1 + tt.length + xl.sz : Nat) : Int) ≤ r ∧ r ≤ ((1 + tt.length + 2 * xl.sz : Nat) : Int) by
        have := HZ.out
        rw [IntWalk.i64_in _ (by omega)] at hr
        omega)
      clear hb hm2
      go_wp2_with fail
      go_meet
      case rel => exact ⟨_, rfl, HR.out, K.out⟩
    · have hm2 : (1048576 : Int) < (1 : Int) + (tt.length : Int) := by omega
      clear hm
      have := HZ.out
      omega
  case rest =>
    obtain ⟨n, rfl, hn, hb⟩ := hcut
    have HN := Lib.hid hn
    have K := Lib.hid hb
    clear hn
    obtain ⟨q2, q3, q4⟩ := HX.out wc hb
    clear hb
    go_upto_if 16 with fail
    go_cut [3] (fun v3 wx => CutV w0 (1 + tt.length + xl.sz + xb.sz) (1 + tt.length + 2 * xl.sz + 2 * xb.sz) v3 wx)
    case first =>
      by_cases hm : n ≤ 1048576
      · go_wp2_with fail
        refine (H2.out (by have := HZ.out; omega) wc B _ (Nat.le_trans HBB.out K.out.size) (N2.out.below (K.out.mono HBB.out))).mono ?_
        rintro e w1 ⟨m, rfl, hm2, hb⟩
        have K2 := Lib.hid (K.out.trans (hb.mono K.out.size))
        obtain ⟨r, hr⟩ : ∃ r, IntKind.i64.wrap (n + m) = r := ⟨_, rfl⟩
        have HR := Lib.hid (show ((1 + tt.length + xl.sz + xb.sz : Nat) : Int) ≤ r ∧ r ≤ ((1 + tt.length + 2 * xl.sz + 2 * xb.sz : Nat) : Int) by
          have := HZ.out
          have := HN.out
          rw [IntWalk.i64_in _ (by omega)] at hr
          omega)
        clear hb hm2
        go_wp2_with fail
        go_meet
        case rel => exact ⟨_, rfl, HR.out, K2.out⟩
      · have hm2 : (1048576 : Int) < n := by omega
        have HR := Lib.hid (show ((1 + tt.length + xl.sz + xb.sz : Nat) : Int) ≤ n ∧ n ≤ ((1 + tt.length + 2 * xl.sz + 2 * xb.sz : Nat) : Int) by
          have := HZ.out
          have := HN.out
          omega)
        clear hm
        go_wp2_with fail
        go_meet
        case rel => exact ⟨_, rfl, HR.out, K.out⟩
    case rest =>
      clear q2 q3 q4
      obtain ⟨n3, rfl, hn3, hb3⟩ := hcut
      have HN3 := Lib.hid hn3
      have K3 := Lib.hid hb3
      clear hn3
      obtain ⟨q2, q3, q4⟩ := HX.out wc hb3
      clear hb3
      go_upto_if 23 with fail
      go_cut [3] (fun v3 wx => CutV w0 (1 + tt.length + xl.sz + xb.sz + xe.sz) (2 * (1 + tt.length + xl.sz + xb.sz + xe.sz) - 1) v3 wx)
      case first =>
        by_cases hm : n3 ≤ 1048576
        · go_wp2_with fail
          refine (H3.out (by have := HZ.out; omega) wc B _ (Nat.le_trans HBB.out K3.out.size) (N3.out.below (K3.out.mono HBB.out))).mono ?_
          rintro e w1 ⟨m, rfl, hm2, hb⟩
          have K2 := Lib.hid (K3.out.trans (hb.mono K3.out.size))
          obtain ⟨r, hr⟩ : ∃ r, IntKind.i64.wrap (n3 + m) = r := ⟨_, rfl⟩
          have HR := Lib.hid (show ((1 + tt.length + xl.sz + xb.sz + xe.sz : Nat) : Int) ≤ r ∧ r ≤ ((2 * (1 + tt.length + xl.sz + xb.sz + xe.sz) - 1 : Nat) : Int) by
            have := HZ.out
            have := HN3.out
            rw [IntWalk.i64_in _ (by omega)] at hr
            omega)
          clear hb hm2
          go_wp2_with fail
          go_meet
          case rel => exact ⟨_, rfl, HR.out, K2.out⟩
        · have hm2 : (1048576 : Int) < n3 := by omega
          have HR := Lib.hid (show ((1 + tt.length + xl.sz + xb.sz + xe.sz : Nat) : Int) ≤ n3 ∧ n3 ≤ ((2 * (1 + tt.length + xl.sz + xb.sz + xe.sz) - 1 : Nat) : Int) by
            have := HZ.out
            have := HN3.out
            omega)
          clear hm
          go_wp2_with fail
          go_meet
          case rel => exact ⟨_, rfl, HR.out, K3.out⟩
      case rest =>
        clear q2 q3 q4
        obtain ⟨n4, rfl, hn4, hb4⟩ := hcut
        have K4 := Lib.hid (And.intro hn4 hb4)
        clear hb4 hn4
        go_wp2_with fail
        go_ret
        exact ⟨n4, rfl, K4.out.1, Y0.out.trans (K4.out.2.mono Y0.out.size)⟩

/-- What the first nodes are together. -/
def upz (l : List Nd) (i : Nat) : Nat := ((l.take i).map fun x => 1 + x.text.length + x.l.sz + x.body.sz + x.els.sz).sum
theorem upz_step (l : List Nd) (i : Nat) (h : i < l.length) : upz l (i + 1) = upz l i + (1 + l[i].text.length + l[i].l.sz + l[i].body.sz + l[i].els.sz) := by
  unfold upz
  rw [List.take_succ_eq_append_getElem h, List.map_append, List.sum_append]
  simp
theorem upz_all (xs : Ns) : upz xs.items xs.items.length = xs.sz := by
  unfold upz
  rw [List.take_length]
  induction xs with
  | nil => rfl
  | cons k t l b e r _ _ _ ih => rw [Ns.items_cons, List.map_cons, List.sum_cons, ih]; rfl
theorem upz_le (l : List Nd) : ∀ i, upz l i ≤ upz l l.length := by
  intro i
  unfold upz
  rw [List.take_length]
  conv => rhs; rw [← List.take_append_drop i l]
  rw [List.map_append, List.sum_append]
  omega
theorem upz_rest (l : List Nd) : ∀ i, i ≤ l.length → upz l i + (l.length - i) ≤ upz l l.length := by
  intro i hi
  have key : ∀ m : List Nd, m.length ≤ (m.map fun x : Nd => 1 + x.text.length + x.l.sz + x.body.sz + x.els.sz).sum := by
    intro m
    induction m with
    | nil => exact Nat.le_refl _
    | cons x m ih => rw [List.map_cons, List.sum_cons, List.length_cons]; omega
  have h2 := key (l.drop i)
  rw [List.length_drop] at h2
  unfold upz
  rw [List.take_length]
  conv => rhs; rw [← List.take_append_drop i l]
  rw [List.map_append, List.sum_append]
  omega

def SizeAtV (w : World) (l : List Nd) (m : Nat) (gk : Nat) (v3 v4 : Value) (wr : World) : Prop :=
  ∃ (i : Nat) (n : Int), i ≤ m ∧ gk = m - i ∧ v3 = .int .i64 n ∧ v4 = .int .i64 (i : Int) ∧ ((upz l i : Int) ≤ n ∧ n + (i : Int) ≤ (m : Int) + ((2 * upz l i : Nat) : Int)) ∧ Below w.heap.size w wr

set_option maxRecDepth 100000 in
set_option maxHeartbeats 4000000 in
theorem size_saidV (tw : Bool) : ∀ xs, SizeV tw xs := by
  refine Ns.each fun xs ih hsz w B v hB hv => ?_
  obtain ⟨a, c, rfl, hr, hc⟩ := hv.open_
  have HI := Lib.hid ih
  have HZ := Lib.hid hsz
  have HU := Lib.hid (upz_all xs)
  have HC := Lib.hid hc
  have HBB := Lib.hid hB
  have l0 : (0 : Int) ≤ (xs.items.length : Int) := by omega
  have l1 : (xs.items.length : Int) ≤ 140737488351232 := by have := hr.2.2.1; omega
  clear ih hv hc hr hB hsz
  go_enter Tryz.func22, Tryz.ntmps22
  go_wp2_with fail
  go_loopg [3, 4] xs.items.length (fun gk v3 v4 wr => SizeAtV w xs.items xs.items.length gk v3 v4 wr)
  case atStart => exact ⟨0, _, Nat.zero_le _, rfl, rfl, rfl, ⟨(by show (0 : Int) ≤ (xs.items.length : Int); omega), (by show (xs.items.length : Int) + 0 ≤ (xs.items.length : Int) + 0; omega)⟩, Below.refl _ _⟩
  case round =>
    obtain ⟨i, n, hi, rfl, rfl, rfl, hn, hb⟩ := hrel
    have HN := Lib.hid hn
    clear hn
    have i0 : (0 : Int) ≤ (i : Int) := by omega
    have K := Lib.hid hb
    by_cases hlt : i < xs.items.length
    · have i1 : (i : Int) < (xs.items.length : Int) := by omega
      by_cases hm : n ≤ 1048576
      · obtain ⟨b, off, v1, v2, v3, rfl, hS, hN⟩ := HC.out i hlt
        have hN' := hN.frame hS fun k hk _ => hb.block k (Nat.lt_of_lt_of_le hk HBB.out)
        obtain ⟨x, hx⟩ : ∃ x, x = xs.items[i] := ⟨_, rfl⟩
        rw [← hx] at hN'
        have hI := HI.out _ (List.getElem_mem hlt)
        rw [← hx] at hI
        obtain ⟨kd, tt, xl, xb, xe⟩ := x
        have d0 := hN'.d0
        have d1 := hN'.d1
        have d2 := hN'.d2
        have d3 := hN'.d3
        have d4 := hN'.d4
        obtain ⟨a1, c1, e1⟩ := hN'.l.form
        obtain ⟨a2, c2, e2⟩ := hN'.body.form
        obtain ⟨a3, c3, e3⟩ := hN'.els.form
        subst e1 e2 e3
        simp only at d0 d1 d2 d3 d4
        have hst := upz_step xs.items i hlt
        rw [← hx] at hst
        have hul := upz_le xs.items (i + 1)
        rw [HU.out] at hul
        simp only at hst
        have HST := Lib.hid (And.intro hst hul)
        have C := Lib.hid (size_oneV (x := ⟨kd, tt, xl, xb, xe⟩) hI.1 hI.2.1 hI.2.2 (by have := HZ.out; simp only; omega) (Nat.le_trans HBB.out hb.size) hN'.l hN'.body hN'.els hN'.text)
        clear hN hN' hx hI hS hb hst hul
        go_wp2_with fail
        refine C.out.mono ?_
        rintro e w1 ⟨m, rfl, hm3, hb1⟩
        have K1 := Lib.hid (K.out.trans (hb1.mono K.out.size))
        obtain ⟨r, hr⟩ : ∃ r, IntKind.i64.wrap (n + m) = r := ⟨_, rfl⟩
        have HR := Lib.hid (show ((upz xs.items (i + 1) : Nat) : Int) ≤ r ∧ r + ((i + 1 : Nat) : Int) ≤ (xs.items.length : Int) + ((2 * upz xs.items (i + 1) : Nat) : Int) by
          have h1 := HZ.out
          have h2 := HN.out
          have h3 := HST.out
          rw [IntWalk.i64_in _ (by omega)] at hr
          omega)
        clear hb1 hm3
        go_wp2_with fail
        go_roundg (xs.items.length - (i + 1))
        case measure => omega
        case rel => exact ⟨i + 1, _, hlt, rfl, rfl, (by go_num), HR.out, K1.out⟩
      · have hm2 : (1048576 : Int) < n := by omega
        have HR := Lib.hid (show ((xs.sz : Nat) : Int) ≤ n ∧ n ≤ ((2 * xs.sz : Nat) : Int) by
          have h1 := HZ.out
          have h2 := HN.out
          have h3 := upz_rest xs.items i (Nat.le_of_lt hlt)
          have h5 := HU.out
          omega)
        clear hm hb
        go_wp2_with fail
        go_ret
        exact ⟨n, rfl, HR.out, K.out⟩
    · have i1 : (xs.items.length : Int) ≤ (i : Int) := by omega
      have HR := Lib.hid (show ((xs.sz : Nat) : Int) ≤ n ∧ n ≤ ((2 * xs.sz : Nat) : Int) by
        have h1 := HZ.out
        have h2 := HN.out
        have h5 := HU.out
        obtain rfl : i = xs.items.length := by omega
        omega)
      clear hlt hb hi
      go_wp2_with fail
      go_ret
      exact ⟨n, rfl, HR.out, K.out⟩
end Go.Proofs.YtobpnjnfpgcpaaaGreatDoor
