/- Trees: how great programs are (only that it is told). -/
import Derived.Test.YtobpnjnfpgcpaaaDoorNdRCheckT
namespace Go.Proofs.YtobpnjnfpgcpaaaDoor
open Go.RowKit Go.My Go.Nd

def Told1 (w : World) (e : Ending) (w' : World) : Prop := ∃ n : Int, e = .returned (.int .i64 n) ∧ Below w.heap.size w w'

def SizeSaid (tw : Bool) (x : Ns) : Prop := ∀ (w : World) (B : Nat) (v : Value), B ≤ w.heap.size → Nodes w (· < B) tw v x → Calls Tryd.prog 12 #[v] w (Told1 w)

def CutN (w : World) (v3 : Value) (wx : World) : Prop := ∃ n : Int, v3 = .int .i64 n ∧ Below w.heap.size w wx


set_option maxRecDepth 100000 in
set_option maxHeartbeats 4000000 in
theorem size_one {tw : Bool} {B : Nat} {x : Nd} (h1 : SizeSaid tw x.l) (h2 : SizeSaid tw x.body) (h3 : SizeSaid tw x.els) {w : World} {a1 a2 a3 : Option Addr} {c1 c2 c3 : Nat} (hB : B ≤ w.heap.size)
    (n1 : Nodes w (· < B) tw (.slice a1 x.l.len c1) x.l) (n2 : Nodes w (· < B) tw (.slice a2 x.body.len c2) x.body) (n3 : Nodes w (· < B) tw (.slice a3 x.els.len c3) x.els) (ht : x.text.length ≤ 140737488351232) :
    Calls Tryd.prog 5 #[.agg #[.int .u8 (x.kind : Int), .string (tx x.text), .slice a1 x.l.len c1, .slice a2 x.body.len c2, .slice a3 x.els.len c3]] w (Told1 w) := by
  obtain ⟨kd, tt, xl, xb, xe⟩ := x
  simp only at *
  have hA := Below.alloc (Below.refl w.heap.size w) (Nat.le_refl _) (.cells #[.int .u8 (kd : Int), .string (tx tt), .slice a1 xl.len c1, .slice a2 xb.len c2, .slice a3 xe.len c3] 25)
  obtain ⟨bx, hbx⟩ : ∃ bx, bx = w.heap.size := ⟨_, rfl⟩
  obtain ⟨w0, hw0⟩ : ∃ w0, w0 = w.alloc (.cells #[.int .u8 (kd : Int), .string (tx tt), .slice a1 xl.len c1, .slice a2 xb.len c2, .slice a3 xe.len c3] 25) := ⟨_, rfl⟩
  have hbox : ∀ w1, Below w0.heap.size w0 w1 → w1.cell? ⟨bx, 2, none⟩ = some (.slice a1 xl.len c1) ∧ w1.cell? ⟨bx, 3, none⟩ = some (.slice a2 xb.len c2) ∧ w1.cell? ⟨bx, 4, none⟩ = some (.slice a3 xe.len c3) := by
    intro w1 hb1
    rw [hw0] at hb1
    rw [hbx]
    have q2 := box_later hb1 2
    have q3 := box_later hb1 3
    have q4 := box_later hb1 4
    simp at q2 q3 q4
    exact ⟨q2, q3, q4⟩
  rw [← hw0] at hA
  have HX := Lib.hid hbox
  have Y0 := Lib.hid hA
  have H1 := Lib.hid h1
  have H2 := Lib.hid h2
  have H3 := Lib.hid h3
  have N1 := Lib.hid (n1.below (hA.mono hB))
  have N2 := Lib.hid (n2.below (hA.mono hB))
  have N3 := Lib.hid (n3.below (hA.mono hB))
  have HBB := Lib.hid (Nat.le_trans hB hA.size)
  have ts := tx_size tt
  have t0 : (0 : Int) ≤ (tt.length : Int) := by omega
  have t1 : (tt.length : Int) ≤ 140737488351232 := by omega
  clear hbox hA h1 h2 h3 n1 n2 n3 hB ht
  go_enter Tryd.func5, Tryd.ntmps5
  go_upto_if 9 with fail
  rw [← hbx, ← hw0]
  clear hbx hw0
  go_cut [3] (fun v3 wx => CutN w0 v3 wx)
  case first =>
    by_cases hm : (1 : Int) + (tt.length : Int) ≤ 1048576
    · obtain ⟨q2, q3, q4⟩ := HX.out w0 (Below.refl _ _)
      go_wp2_with fail
      refine (H1.out w0 B _ HBB.out N1.out).mono ?_
      rintro e w1 ⟨m, rfl, hb⟩
      have K := Lib.hid hb
      clear hb
      obtain ⟨r, hr⟩ : ∃ r, IntKind.i64.wrap ((1 : Int) + (tt.length : Int) + m) = r := ⟨_, rfl⟩
      go_wp2_with fail
      go_meet
      case rel => exact ⟨_, rfl, K.out⟩
    · have hm2 : (1048576 : Int) < (1 : Int) + (tt.length : Int) := by omega
      clear hm
      go_wp2_with fail
      go_meet
      case rel => exact ⟨_, rfl, Below.refl _ _⟩
  case rest =>
    obtain ⟨n, rfl, hb⟩ := hcut
    have K := Lib.hid hb
    obtain ⟨q2, q3, q4⟩ := HX.out wc hb
    clear hb
    go_upto_if 16 with fail
    go_cut [3] (fun v3 wx => CutN w0 v3 wx)
    case first =>
      by_cases hm : n ≤ 1048576
      · go_wp2_with fail
        refine (H2.out wc B _ (Nat.le_trans HBB.out K.out.size) (N2.out.below (K.out.mono HBB.out))).mono ?_
        rintro e w1 ⟨m, rfl, hb⟩
        have K2 := Lib.hid (K.out.trans (hb.mono K.out.size))
        clear hb
        obtain ⟨r, hr⟩ : ∃ r, IntKind.i64.wrap (n + m) = r := ⟨_, rfl⟩
        go_wp2_with fail
        go_meet
        case rel => exact ⟨_, rfl, K2.out⟩
      · have hm2 : (1048576 : Int) < n := by omega
        clear hm
        go_wp2_with fail
        go_meet
        case rel => exact ⟨_, rfl, K.out⟩
    case rest =>
      clear q2 q3 q4
      obtain ⟨n3, rfl, hb3⟩ := hcut
      have K3 := Lib.hid hb3
      obtain ⟨q2, q3, q4⟩ := HX.out wc hb3
      clear hb3
      go_upto_if 23 with fail
      go_cut [3] (fun v3 wx => CutN w0 v3 wx)
      case first =>
        by_cases hm : n3 ≤ 1048576
        · go_wp2_with fail
          refine (H3.out wc B _ (Nat.le_trans HBB.out K3.out.size) (N3.out.below (K3.out.mono HBB.out))).mono ?_
          rintro e w1 ⟨m, rfl, hb⟩
          have K2 := Lib.hid (K3.out.trans (hb.mono K3.out.size))
          clear hb
          obtain ⟨r, hr⟩ : ∃ r, IntKind.i64.wrap (n3 + m) = r := ⟨_, rfl⟩
          go_wp2_with fail
          go_meet
          case rel => exact ⟨_, rfl, K2.out⟩
        · have hm2 : (1048576 : Int) < n3 := by omega
          clear hm
          go_wp2_with fail
          go_meet
          case rel => exact ⟨_, rfl, K3.out⟩
      case rest =>
        clear q2 q3 q4
        obtain ⟨n4, rfl, hb4⟩ := hcut
        have K4 := Lib.hid hb4
        clear hb4
        go_wp2_with fail
        go_ret
        exact ⟨n4, rfl, Y0.out.trans (K4.out.mono Y0.out.size)⟩

def SizeAt (w : World) (m : Nat) (gk : Nat) (v3 v4 : Value) (wr : World) : Prop :=
  ∃ (i : Nat) (n : Int), i ≤ m ∧ gk = m - i ∧ v3 = .int .i64 n ∧ v4 = .int .i64 (i : Int) ∧ Below w.heap.size w wr

set_option maxRecDepth 100000 in
set_option maxHeartbeats 4000000 in
theorem size_said (tw : Bool) : ∀ xs, SizeSaid tw xs := by
  refine Ns.each fun xs ih w B v hB hv => ?_
  obtain ⟨a, c, rfl, hr, hc⟩ := hv.open_
  have HI := Lib.hid ih
  have HC := Lib.hid hc
  have HBB := Lib.hid hB
  have l0 : (0 : Int) ≤ (xs.items.length : Int) := by omega
  have l1 : (xs.items.length : Int) ≤ 140737488351232 := by have := hr.2.2.1; omega
  clear ih hv hc hr hB
  go_enter Tryd.func12, Tryd.ntmps12
  go_wp2_with fail
  go_loopg [3, 4] xs.items.length (fun gk v3 v4 wr => SizeAt w xs.items.length gk v3 v4 wr)
  case atStart => exact ⟨0, _, Nat.zero_le _, rfl, rfl, rfl, Below.refl _ _⟩
  case round =>
    obtain ⟨i, n, hi, rfl, rfl, rfl, hb⟩ := hrel
    have i0 : (0 : Int) ≤ (i : Int) := by omega
    have K := Lib.hid hb
    by_cases hlt : i < xs.items.length
    · have i1 : (i : Int) < (xs.items.length : Int) := by omega
      by_cases hm : n ≤ 1048576
      · obtain ⟨b, off, v1, v2, v3, rfl, hS, hN⟩ := HC.out i hlt
        have hN' := hN.frame hS fun k hk _ => hb.block k (Nat.lt_of_lt_of_le hk HBB.out)
        obtain ⟨x, hx⟩ : ∃ x, x = xs.items[i] := ⟨_, rfl⟩
        rw [← hx] at hN'
        have hI := HI.out _ (List.getElem_mem hlt)
        rw [← hx] at hI
        obtain ⟨kd, tt, xl, xb, xe⟩ := x
        have d0 := hN'.d0
        have d1 := hN'.d1
        have d2 := hN'.d2
        have d3 := hN'.d3
        have d4 := hN'.d4
        obtain ⟨a1, c1, e1⟩ := hN'.l.form
        obtain ⟨a2, c2, e2⟩ := hN'.body.form
        obtain ⟨a3, c3, e3⟩ := hN'.els.form
        subst e1 e2 e3
        simp only at d0 d1 d2 d3 d4
        have C := Lib.hid (size_one (x := ⟨kd, tt, xl, xb, xe⟩) hI.1 hI.2.1 hI.2.2 (Nat.le_trans HBB.out hb.size) hN'.l hN'.body hN'.els hN'.text)
        clear hN hN' hx hI hS hb
        go_wp2_with fail
        refine C.out.mono ?_
        rintro e w1 ⟨m, rfl, hb1⟩
        have K1 := Lib.hid (K.out.trans (hb1.mono K.out.size))
        clear hb1
        obtain ⟨r, hr⟩ : ∃ r, IntKind.i64.wrap (n + m) = r := ⟨_, rfl⟩
        go_wp2_with fail
        go_roundg (xs.items.length - (i + 1))
        case measure => omega
        case rel => exact ⟨i + 1, _, hlt, rfl, rfl, by go_num, K1.out⟩
      · have hm2 : (1048576 : Int) < n := by omega
        clear hm hb
        go_wp2_with fail
        go_ret
        exact ⟨n, rfl, K.out⟩
    · have i1 : (xs.items.length : Int) ≤ (i : Int) := by omega
      clear hlt hb hi
      go_wp2_with fail
      go_ret
      exact ⟨n, rfl, K.out⟩
end Go.Proofs.YtobpnjnfpgcpaaaDoor
