/- Trees: TreesDeep's walk. -/
import Derived.Test.YtiefpffccmdcoaaDoorNdBoxT
import Derived.Test.YtiefpffccmdcoaaDoorNdSamePT
import Derived.Test.YtiefpffccmdcoaaDoorNdRankST
import Derived.Test.YtiefpffccmdcoaaDoorPsDeepT
namespace Go.Proofs.YtiefpffccmdcoaaDoor
open Go.RowKit Go.My Go.Nd

def ParsesAs (s : Tx) (p : Pr) (er : Nat) : Prop := (parse wrapI s).1 = p ∧ (parse wrapI s).2.1 = 0 ∧ (parse wrapI s).2.2 = er
theorem ParsesAs.of {s : Tx} {p : Pr} {er : Nat} (h : parse wrapI s = (p, 0, er)) : ParsesAs s p er := by unfold ParsesAs; rw [h]; exact ⟨rfl, rfl, rfl⟩
theorem deep_facts (v k : Nat) (hv : v < 4) (hk : k < 100) : ∃ (p1 p2 : Pr) (er : Nat), ParsesAs (ds v k ++ [59]) p1 er ∧ ParsesAs (br (ds v k) 70 ++ [59]) p1 er ∧ ParsesAs (us k) p2 er ∧
    (k ≤ 62 ∧ er = 0 ∧ check wrapI p1 = true ∨ 62 < k ∧ er = 3) := by
  have h1 := parse_ds v k 0 hv hk (by omega)
  have h2 := parse_ds v k 70 hv hk (by omega)
  have h3 := parse_us k hk
  have e0 : br (ds v k) 0 = ds v k := rfl
  rw [e0] at h1
  by_cases hm : 63 ≤ k
  · rw [if_pos hm] at h1 h2 h3
    exact ⟨_, _, _, .of h1, .of h2, .of h3, .inr ⟨by omega, rfl⟩⟩
  · rw [if_neg hm] at h1 h2 h3
    refine ⟨_, _, _, .of h1, .of h2, .of h3, .inl ⟨by omega, rfl, ?_⟩⟩
    have := (parse_may wrapI (ds v k ++ [59]) (by rw [h1])).1
    rw [h1] at this
    exact this

/-- A text, put together step by step. -/
def StepAt (w : World) (f : Nat → Tx) (k gk : Nat) (v6 v7 : Value) (wr : World) : Prop :=
  ∃ i : Nat, i ≤ k ∧ gk = k - i ∧ v6 = .string (bs (f i)) ∧ v7 = .int .i64 (i : Int) ∧ w = wr

set_option maxRecDepth 100000 in
set_option maxHeartbeats 8000000 in
theorem deep_law (w : World) (x y : Nat) (hx : x < 256) (hy : y < 256) : Calls Tryd.prog 7 #[.int .u8 (x : Int), .int .u8 (y : Int)] w fun e w' => e = .returned (.bool true) ∧ Below w.heap.size w w' := by
  obtain ⟨k, hk⟩ : ∃ k, k = x % 100 := ⟨_, rfl⟩
  obtain ⟨v, hv⟩ : ∃ v, v = y % 4 := ⟨_, rfl⟩
  have hk100 : k < 100 := by omega
  have hv4 : v < 4 := by omega
  have x2 : (x : Int) % 100 = (k : Int) := by omega
  have y2 : (y : Int) % 4 = (v : Int) := by omega
  have x0 : (0 : Int) ≤ (x : Int) := by omega
  have x1 : (x : Int) ≤ 255 := by omega
  have y0 : (0 : Int) ≤ (y : Int) := by omega
  have y1 : (y : Int) ≤ 255 := by omega
  have k0 : (0 : Int) ≤ (k : Int) := by omega
  have k1 : (k : Int) ≤ 99 := by omega
  obtain ⟨p1, p2, er, hd1, hd2, hd3, hm⟩ := deep_facts v k hv4 hk100
  have H1 := Lib.hid hd1
  have H2 := Lib.hid hd2
  have H3 := Lib.hid hd3
  have HM := Lib.hid hm
  have HV := Lib.hid (And.intro y2 hv4)
  clear hk hv hd1 hd2 hd3 hm hv4 y2 hk100
  go_enter Tryd.func7, Tryd.ntmps7
  go_wp2_with fail
  go_loopg [6, 7] k (fun gk v6 v7 wr => StepAt w (ds v) k gk v6 v7 wr)
  case atStart => exact ⟨0, Nat.zero_le _, rfl, rfl, rfl, rfl⟩
  case round =>
    obtain ⟨i, hi, rfl, rfl, rfl, rfl⟩ := hrel
    have i0 : (0 : Int) ≤ (i : Int) := by omega
    by_cases hlt : i < k
    · have i2 : (i : Int) < (k : Int) := by omega
      obtain ⟨u, hu⟩ : ∃ u, u = ds v i := ⟨_, rfl⟩
      have hul : u.length ≤ 601 := by rw [hu]; have := ds_len v i; omega
      obtain ⟨z, hz⟩ : ∃ z, z = ds v (i + 1) := ⟨_, rfl⟩
      have hzu : z = pre v ++ u ++ post v := by rw [hz, hu]; rfl
      have HZ := Lib.hid hz
      rw [← hu]
      have HLT := Lib.hid hlt
      clear hu hz hlt hi
      obtain ⟨rfl, y2⟩ | ⟨rfl, y2⟩ | ⟨rfl, y2⟩ | ⟨rfl, y2⟩ : (v = 0 ∧ (y : Int) % 4 = 0) ∨ (v = 1 ∧ (y : Int) % 4 = 1) ∨ (v = 2 ∧ (y : Int) % 4 = 2) ∨ (v = 3 ∧ (y : Int) % 4 = 3) := by have := HV.out; omega
      · have a1 : ∀ wx, (Op.stringOp .add ⟨#[45]⟩ (bs u)).run Tryd.prog wx = .ok (.string (bs z)) wx := by
          have h : z = [45] ++ u := by rw [hzu]; simp [pre, post]
          rw [h]
          exact add_s9 [45] u (by simp; omega)
        clear hzu hul
        go_wp2_with fail
        go_roundg (k - (i + 1))
        case measure => have := HLT.out; omega
        case rel => exact ⟨i + 1, HLT.out, rfl, by rw [HZ.out], by go_num, rfl⟩
      · obtain ⟨q, a1, a2⟩ := add2_9 [91] [93] u (r := z) (by rw [hzu]; rfl) (by simp; omega)
        have a1 : ∀ wx, (Op.stringOp .add ⟨#[91]⟩ (bs u)).run Tryd.prog wx = .ok (.string q) wx := a1
        have a2 : ∀ wx, (Op.stringOp .add q ⟨#[93]⟩).run Tryd.prog wx = .ok (.string (bs z)) wx := a2
        clear hzu hul
        go_wp2_with fail
        go_roundg (k - (i + 1))
        case measure => have := HLT.out; omega
        case rel => exact ⟨i + 1, HLT.out, rfl, by rw [HZ.out], by go_num, rfl⟩
      · obtain ⟨q, a1, a2⟩ := add2_9 [102, 40, 50, 44, 32] [41] u (r := z) (by rw [hzu]; rfl) (by simp; omega)
        have a1 : ∀ wx, (Op.stringOp .add ⟨#[102, 40, 50, 44, 32]⟩ (bs u)).run Tryd.prog wx = .ok (.string q) wx := a1
        have a2 : ∀ wx, (Op.stringOp .add q ⟨#[41]⟩).run Tryd.prog wx = .ok (.string (bs z)) wx := a2
        clear hzu hul
        go_wp2_with fail
        go_roundg (k - (i + 1))
        case measure => have := HLT.out; omega
        case rel => exact ⟨i + 1, HLT.out, rfl, by rw [HZ.out], by go_num, rfl⟩
      · obtain ⟨q, a1, a2⟩ := add2_9 [40, 49, 32, 43, 32] [41] u (r := z) (by rw [hzu]; rfl) (by simp; omega)
        have a1 : ∀ wx, (Op.stringOp .add ⟨#[40, 49, 32, 43, 32]⟩ (bs u)).run Tryd.prog wx = .ok (.string q) wx := a1
        have a2 : ∀ wx, (Op.stringOp .add q ⟨#[41]⟩).run Tryd.prog wx = .ok (.string (bs z)) wx := a2
        clear hzu hul
        go_wp2_with fail
        go_roundg (k - (i + 1))
        case measure => have := HLT.out; omega
        case rel => exact ⟨i + 1, HLT.out, rfl, by rw [HZ.out], by go_num, rfl⟩
    · obtain rfl : i = k := by omega
      clear hlt hi
      obtain ⟨s, hs⟩ : ∃ s, s = ds v i := ⟨_, rfl⟩
      have hsl : s.length ≤ 601 := by rw [hs]; have := ds_len v i; omega
      have HS := Lib.hid (And.intro hs hsl)
      rw [← hs]
      clear hs hsl
      go_wp2_with fail
      go_loopg [8, 9] 70 (fun gk v6 v7 wr => StepAt w (br s) 70 gk v6 v7 wr)
      case atStart => exact ⟨0, Nat.zero_le _, rfl, rfl, rfl, rfl⟩
      case round =>
        obtain ⟨j, hj, rfl, rfl, rfl, rfl⟩ := hrel
        have j0 : (0 : Int) ≤ (j : Int) := by omega
        by_cases hlt : j < 70
        · have j2 : (j : Int) < 70 := by omega
          obtain ⟨u, hu⟩ : ∃ u, u = br s j := ⟨_, rfl⟩
          have hul : u.length ≤ 800 := by rw [hu, br_len]; have := HS.out.2; omega
          obtain ⟨z, hz⟩ : ∃ z, z = br s (j + 1) := ⟨_, rfl⟩
          have hzu : z = [40] ++ u ++ [41] := by rw [hz, hu]; rfl
          have HZ := Lib.hid hz
          rw [← hu]
          have HLT := Lib.hid hlt
          obtain ⟨q, a1, a2⟩ := add2_9 [40] [41] u (r := z) hzu.symm (by simp; omega)
          have a1 : ∀ wx, (Op.stringOp .add ⟨#[40]⟩ (bs u)).run Tryd.prog wx = .ok (.string q) wx := a1
          have a2 : ∀ wx, (Op.stringOp .add q ⟨#[41]⟩).run Tryd.prog wx = .ok (.string (bs z)) wx := a2
          clear hu hz hlt hj hzu hul
          go_wp2_with fail
          go_roundg (70 - (j + 1))
          case measure => have := HLT.out; omega
          case rel => exact ⟨j + 1, HLT.out, rfl, by rw [HZ.out], by go_num, rfl⟩
        · obtain rfl : j = 70 := by omega
          clear hlt hj
          obtain ⟨t, ht⟩ : ∃ t, t = br s 70 := ⟨_, rfl⟩
          have htl : t.length ≤ 800 := by rw [ht, br_len]; have := HS.out.2; omega
          have h1 := H1.out
          have h2 := H2.out
          rw [← HS.out.1] at h1 h2
          rw [← ht] at h2 ⊢
          obtain ⟨s', hs'⟩ : ∃ s', s' = s ++ [59] := ⟨_, rfl⟩
          obtain ⟨t', ht'⟩ : ∃ t', t' = t ++ [59] := ⟨_, rfl⟩
          have a1 : ∀ wx, (Op.stringOp .add (bs s) ⟨#[59]⟩).run Tryd.prog wx = .ok (.string (bs s')) wx := by rw [hs']; exact add_s9 s [59] (by have := HS.out.2; simp; omega)
          have a2 : ∀ wx, (Op.stringOp .add (bs t) ⟨#[59]⟩).run Tryd.prog wx = .ok (.string (bs t')) wx := by rw [ht']; exact add_s9 t [59] (by simp; omega)
          rw [← hs'] at h1
          rw [← ht'] at h2
          have G1 := Lib.hid h1
          have G2 := Lib.hid h2
          clear h1 h2 hs' ht' ht htl
          go_upto_region 20 with fail
          obtain ⟨mb, hmb⟩ : ∃ mb, mb = decide (1 + (i : Int) + 1 ≤ 64) := ⟨_, rfl⟩
          rw [← hmb]
          have HMB := Lib.hid hmb
          clear hmb
          go_wp2_with fail
          refine (parse_t s').mono ?_
          rintro e w1 ⟨hb1, pv, rfl, hP⟩
          rw [G1.out.1] at hP
          rw [G1.out.2.1, G1.out.2.2]
          obtain ⟨a3, c3, a4, c4, rfl, hbox⟩ := PB.of (Below.refl _ w) hb1 hP
          obtain ⟨b1, hb1'⟩ : ∃ b1, b1 = w1.heap.size := ⟨_, rfl⟩
          obtain ⟨w2, hw2⟩ : ∃ w2, w2 = w1.alloc (.cells #[.slice a3 p1.funcs.length c3, .slice a4 p1.body.len c4] 25) := ⟨_, rfl⟩
          rw [← hw2, ← hb1'] at hbox
          have B1 := Lib.hid hbox
          clear hb1 hP hbox a1
          go_upto_region 21 with fail
          rw [← hw2, ← hb1']
          clear hw2 hb1'
          go_wp2_with fail
          refine (parse_t t').mono ?_
          rintro e w3 ⟨hb3, pv, rfl, hP⟩
          rw [G2.out.1] at hP
          rw [G2.out.2.1, G2.out.2.2]
          obtain ⟨a5, c5, a6, c6, rfl, hbox⟩ := PB.of B1.out.below hb3 hP
          obtain ⟨b3, hb3'⟩ : ∃ b3, b3 = w3.heap.size := ⟨_, rfl⟩
          obtain ⟨w4, hw4⟩ : ∃ w4, w4 = w3.alloc (.cells #[.slice a5 p1.funcs.length c5, .slice a6 p1.body.len c6] 25) := ⟨_, rfl⟩
          have hA4 := (Put.new w3 #[.slice a5 p1.funcs.length c5, .slice a6 p1.body.len c6] 25).1
          rw [← hw4] at hA4
          rw [← hw4, ← hb3'] at hbox
          have hbb : b1 ≤ b3 := by have h1 := B1.out.lt; have h2 := hb3.size; omega
          have B2 := Lib.hid (And.intro (B1.out.later (hb3.trans (hA4.mono hb3.size))) (And.intro hbox hbb))
          clear hb3 hP hbox a2 hA4 hbb B1
          go_upto_region 22 with fail
          rw [← hw4, ← hb3']
          clear hw4 hb3'
          go_wp2_with fail
          go_loopg [17, 18] i (fun gk v6 v7 wr => StepAt w4 us i gk v6 v7 wr)
          case atStart => exact ⟨0, Nat.zero_le _, rfl, rfl, rfl, rfl⟩
          case round =>
            obtain ⟨j, hj, rfl, rfl, rfl, rfl⟩ := hrel
            have j0 : (0 : Int) ≤ (j : Int) := by omega
            by_cases hlt : j < i
            · have j2 : (j : Int) < (i : Int) := by omega
              obtain ⟨u, hu⟩ : ∃ u, u = us j := ⟨_, rfl⟩
              have hul : u.length ≤ 1300 := by rw [hu, us_len]; omega
              obtain ⟨z, hz⟩ : ∃ z, z = us (j + 1) := ⟨_, rfl⟩
              have hzu : z = [119, 104, 105, 108, 101, 32, 49, 32, 123, 32] ++ u ++ [32, 125] := by rw [hz, hu]; rfl
              have HZ := Lib.hid hz
              rw [← hu]
              have HLT := Lib.hid hlt
              obtain ⟨q, a1, a2⟩ := add2_9 [119, 104, 105, 108, 101, 32, 49, 32, 123, 32] [32, 125] u (r := z) hzu.symm (by simp; omega)
              have a1 : ∀ wx, (Op.stringOp .add ⟨#[119, 104, 105, 108, 101, 32, 49, 32, 123, 32]⟩ (bs u)).run Tryd.prog wx = .ok (.string q) wx := a1
              have a2 : ∀ wx, (Op.stringOp .add q ⟨#[32, 125]⟩).run Tryd.prog wx = .ok (.string (bs z)) wx := a2
              clear hu hz hlt hj hzu hul
              go_wp2_with fail
              go_roundg (i - (j + 1))
              case measure => have := HLT.out; omega
              case rel => exact ⟨j + 1, HLT.out, rfl, by rw [HZ.out], by go_num, rfl⟩
            · obtain rfl : j = i := by omega
              clear hlt hj
              obtain ⟨u, hu⟩ : ∃ u, u = us j := ⟨_, rfl⟩
              have h3 := H3.out
              rw [← hu] at h3 ⊢
              have G3 := Lib.hid h3
              clear h3 hu
              go_wp2_with fail
              refine (parse_t u).mono ?_
              rintro e w5 ⟨hb5, pv, rfl, hP⟩
              rw [G3.out.1] at hP
              rw [G3.out.2.1, G3.out.2.2]
              obtain ⟨a7, c7, a8, c8, rfl, hbox⟩ := PB.of B2.out.2.1.below hb5 hP
              obtain ⟨b5, hb5'⟩ : ∃ b5, b5 = w5.heap.size := ⟨_, rfl⟩
              obtain ⟨w6, hw6⟩ : ∃ w6, w6 = w5.alloc (.cells #[.slice a7 p2.funcs.length c7, .slice a8 p2.body.len c8] 25) := ⟨_, rfl⟩
              have hA6 := (Put.new w5 #[.slice a7 p2.funcs.length c7, .slice a8 p2.body.len c8] 25).1
              rw [← hw6] at hA6
              have hB6 := hb5.trans (hA6.mono hb5.size)
              have B3 := Lib.hid (And.intro (B2.out.1.later hB6) (And.intro (B2.out.2.1.later hB6) B2.out.2.2))
              clear hb5 hP hbox hA6 hB6 B2
              go_upto_region 28 with fail
              rw [← hw6]
              clear hw6 hb5'
              obtain ⟨x0', x1'⟩ := B3.out.1.cells
              obtain ⟨y0', y1'⟩ := B3.out.2.1.cells
              by_cases hm : j ≤ 62
              · obtain ⟨_, he, hc⟩ := HM.out.resolve_right (by omega)
                have HC := Lib.hid hc
                have hmb : mb = true := by rw [HMB.out]; simp; omega
                clear hc
                subst he
                subst hmb
                go_wp2_with fail
                refine (check_t (p := p1) (Nat.le_of_lt B3.out.1.lt) B3.out.1.funcs B3.out.1.nodes).mono ?_
                rintro e w7 ⟨rfl, hb7⟩
                rw [HC.out]
                have hm7 := hb7.mono (Nat.le_of_lt B3.out.1.lt)
                have hb7' : Below w6.heap.size w6 w7 := hb7
                have B4 := Lib.hid (And.intro (B3.out.1.later hb7') (And.intro (B3.out.2.1.later hb7') B3.out.2.2))
                clear hb7 hb7' x0' x1' y0' y1' hm7
                obtain ⟨x0', x1'⟩ := B4.out.1.cells
                obtain ⟨y0', y1'⟩ := B4.out.2.1.cells
                go_wp2_with fail
                refine (sameProg_t (B := b3) (p := p1) (Nat.le_of_lt B4.out.2.1.lt) (B4.out.1.wide B4.out.2.2).1 (B4.out.1.wide B4.out.2.2).2 B4.out.2.1.funcs B4.out.2.1.nodes).mono ?_
                rintro e w8 ⟨rfl, hb⟩
                have K8 := Lib.hid (B4.out.1.below.trans (hb.mono B4.out.1.below.size))
                clear hb x0' x1' y0' y1'
                go_wp2_with fail
                refine alive9_t fun w9 hb => ?_
                have K9 := Lib.hid (K8.out.trans (hb.mono K8.out.size))
                clear hb
                go_wp2_with fail
                go_ret
                exact ⟨rfl, K9.out⟩
              · obtain ⟨_, he⟩ := HM.out.resolve_left (by omega)
                have hmb : mb = false := by rw [HMB.out]; simp; omega
                subst he
                subst hmb
                have K6 := Lib.hid B3.out.1.below
                clear x0' x1' y0' y1'
                go_wp2_with fail
                refine alive9_t fun w9 hb => ?_
                have K9 := Lib.hid (K6.out.trans (hb.mono K6.out.size))
                clear hb
                go_wp2_with fail
                go_ret
                exact ⟨rfl, K9.out⟩
theorem deep_any (w : World) (x : Int) (hx : (Lit.int .u8 x).wf = true) (y : Int) (hy : (Lit.int .u8 y).wf = true) : Calls Tryd.prog 7 #[.int .u8 x, .int .u8 y] w fun e w' => e = .returned (.bool true) ∧ Below w.heap.size w w' := by
  simp [Lit.wf, IntKind.min, IntKind.max, IntKind.signed, IntKind.bits] at hx hy
  obtain ⟨x, rfl⟩ : ∃ k : Nat, x = (k : Int) := ⟨x.toNat, by omega⟩
  obtain ⟨y, rfl⟩ : ∃ k : Nat, y = (k : Int) := ⟨y.toNat, by omega⟩
  exact deep_law w x y (by omega) (by omega)
end Go.Proofs.YtiefpffccmdcoaaDoor
