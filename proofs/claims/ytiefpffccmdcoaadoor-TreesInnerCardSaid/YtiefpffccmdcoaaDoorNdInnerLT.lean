/- Trees: TreesInner's walk. -/
import Derived.Test.YtiefpffccmdcoaaDoorNdDeepLT
import Derived.Test.YtiefpffccmdcoaaDoorPsInnerT
namespace Go.Proofs.YtiefpffccmdcoaaDoor
open Go.RowKit Go.My Go.Nd

theorem inner_facts (n k : Nat) (hn : n < 20) (hk : k < 20) : ParsesAs (si n k ++ [125]) ⟨[fnOf n k], .nil⟩ 0 ∧ ((parse wrapI (si n k ++ [125, 32, 114, 101, 116, 117, 114, 110, 32, 97, 59])).1 = ⟨[], .nil⟩ ∧ (parse wrapI (si n k ++ [125, 32, 114, 101, 116, 117, 114, 110, 32, 97, 59])).2.1 = (si n k).length + 2 ∧ (parse wrapI (si n k ++ [125, 32, 114, 101, 116, 117, 114, 110, 32, 97, 59])).2.2 = 4) ∧
    (parse wrapI (si n k)).1 = ⟨[], .nil⟩ ∧ (parse wrapI (si n k)).2.1 = (si n k).length ∧ (parse wrapI (si n k)).2.2 = 4 := by
  rw [parse_si_more n k hn hk, parse_si_cut n k hn hk]
  exact ⟨.of (parse_si n k hn hk), ⟨rfl, rfl, rfl⟩, rfl, rfl, rfl⟩

def sa (i : Nat) : Tx := [102, 110, 32, 102, 40] ++ aa i
def sr (b : Tx) (j : Nat) : Tx := b ++ To.rep [32, 114, 101, 116, 117, 114, 110, 32, 97, 59] j
theorem sa_zero : sa 1 = sa 0 ++ [97] := rfl
theorem sa_step (i : Nat) (h : 0 < i) : sa (i + 1) = sa i ++ [44, 32] ++ [97] := by
  cases i with
  | zero => exact absurd h (Nat.lt_irrefl _)
  | succ i => unfold sa; rw [aa]; simp only [List.append_assoc]
theorem sa_len (i : Nat) : (sa i).length ≤ 5 + 3 * i := by unfold sa; rw [List.length_append]; have := aa_len i; simp; omega
theorem sr_step (b : Tx) (j : Nat) : sr b (j + 1) = sr b j ++ [32, 114, 101, 116, 117, 114, 110, 32, 97, 59] := by unfold sr; rw [To.rep_back, List.append_assoc]
theorem sr_len (b : Tx) (j : Nat) : (sr b j).length = b.length + 10 * j := by unfold sr; rw [List.length_append, To.rep_len]; simp; omega
theorem si_is (n k : Nat) : si n k = sr (sa n ++ [41, 32, 123]) k := by unfold si sr sa; rfl
theorem args_at {w : World} {S : Nat → Prop} {a : Option Addr} {c n : Nat} (h : TextsIn w S false (.slice a n c) (List.replicate n [97])) (i : Nat) (hi : i < n) : ∃ b off, a = some ⟨b, off, none⟩ ∧ S b ∧ w.cell? ⟨b, off + i, none⟩ = some (.string ⟨#[97]⟩) := by
  obtain ⟨a', c', e, _, _, _, _, hc⟩ := h
  simp only [Value.slice.injEq] at e
  obtain ⟨rfl, _, rfl⟩ := e
  obtain ⟨b, off, e, hS, d, _⟩ := hc i (by simpa using hi)
  rw [List.getElem_replicate] at d
  exact ⟨b, off, e, hS, d⟩
/-- A statement of the body, and what is in it. -/
theorem ret_at {w : World} {S : Nat → Prop} {a : Option Addr} {c k : Nat} (h : Nodes w S false (.slice a k c) (Ns.of (List.replicate k ret))) (i : Nat) (hi : i < k) : ∃ b off b' off' c', a = some ⟨b, off, none⟩ ∧ S b ∧ S b' ∧
    w.cell? ⟨b, off + i * 5, none⟩ = some (.int .u8 11) ∧ w.cell? ⟨b, off + i * 5 + 1, none⟩ = some (.string ⟨#[]⟩) ∧ w.cell? ⟨b, off + i * 5 + 2, none⟩ = some (.slice (some ⟨b', off', none⟩) 1 c') ∧
    w.cell? ⟨b', off', none⟩ = some (.int .u8 2) ∧ w.cell? ⟨b', off' + 1, none⟩ = some (.string ⟨#[97]⟩) := by
  have hi0 : (Ns.of (List.replicate k ret)).items = List.replicate k ret := Ns.items_of _
  obtain ⟨a', c', e, _, hat⟩ := h.open_
  simp only [Value.slice.injEq] at e
  obtain ⟨rfl, _, rfl⟩ := e
  obtain ⟨b, off, v1, v2, v3, e, hS, hN⟩ := hat i (by rw [hi0]; simpa using hi)
  simp only [hi0, List.getElem_replicate] at hN
  obtain ⟨a2, c2, e2, _, hat2⟩ := hN.l.open_
  have hi1 : ret.l.items = [leaf 2 [97]] := rfl
  obtain ⟨b', off', u1, u2, u3, e3, hS', hN'⟩ := hat2 0 (by rw [hi1]; simp)
  simp only [hi1, List.getElem_cons_zero, Nat.zero_mul, Nat.add_zero] at hN'
  refine ⟨b, off, b', off', c2, e, hS, hS', hN.d0, hN.d1, ?_, hN'.d0, hN'.d1⟩
  rw [hN.d2, e2, e3, hi1]; rfl

/-- The one function of a program. -/
theorem fn_one {w : World} {S : Nat → Prop} {a : Option Addr} {c i j : Nat} (h : FuncsIn w S false (.slice a 1 c) [fnOf i j]) : ∃ b off a1 c1 a2 c2, a = some ⟨b, off, none⟩ ∧ S b ∧ w.cell? ⟨b, off, none⟩ = some (.string ⟨#[102]⟩) ∧
    w.cell? ⟨b, off + 1, none⟩ = some (.slice a1 i c1) ∧ w.cell? ⟨b, off + 2, none⟩ = some (.slice a2 j c2) ∧ TextsIn w S false (.slice a1 i c1) (List.replicate i [97]) ∧ Nodes w S false (.slice a2 j c2) (Ns.of (List.replicate j ret)) := by
  obtain ⟨a', c', e, _, _, _, _, hc⟩ := h
  simp only [Value.slice.injEq] at e
  obtain ⟨rfl, _, rfl⟩ := e
  obtain ⟨b, off, v1, v2, e, hS, hN⟩ := hc 0 (by simp)
  simp only [List.getElem_cons_zero, Nat.zero_mul, Nat.add_zero] at hN
  have h1 := hN.args
  have h2 := hN.body
  have d1 := hN.d1
  have d2 := hN.d2
  obtain ⟨z1, y1, rfl⟩ := h1.form
  obtain ⟨z2, y2, rfl⟩ := h2.form
  have e1 : (fnOf i j).args.length = i := by simp [fnOf]
  have e2 : (fnOf i j).body.len = j := by simp [fnOf, len_of]
  rw [e1] at h1 d1
  rw [e2] at h2 d2
  exact ⟨b, off, z1, y1, z2, y2, e, hS, hN.d0, d1, d2, h1, h2⟩

/-- A loop that changes nothing. -/
def StillAt (w : World) (n gk : Nat) (v : Value) (wr : World) : Prop := ∃ i : Nat, i ≤ n ∧ gk = n - i ∧ v = .int .i64 (i : Int) ∧ Below w.heap.size w wr

set_option maxRecDepth 100000 in
set_option maxHeartbeats 8000000 in
theorem inner_law (w : World) (x y : Nat) (hx : x < 256) (hy : y < 256) : Calls Tryd.prog 8 #[.int .u8 (x : Int), .int .u8 (y : Int)] w fun e w' => e = .returned (.bool true) ∧ Below w.heap.size w w' := by
  obtain ⟨n, hn⟩ : ∃ n, n = x % 20 := ⟨_, rfl⟩
  obtain ⟨k, hk⟩ : ∃ k, k = y % 20 := ⟨_, rfl⟩
  have hn20 : n < 20 := by omega
  have hk20 : k < 20 := by omega
  have x2 : (x : Int) % 20 = (n : Int) := by omega
  have ymod : (y : Int) % 20 = (k : Int) := by omega
  have x0 : (0 : Int) ≤ (x : Int) := by omega
  have x1 : (x : Int) ≤ 255 := by omega
  have y0 : (0 : Int) ≤ (y : Int) := by omega
  have y1 : (y : Int) ≤ 255 := by omega
  have k0 : (0 : Int) ≤ (k : Int) := by omega
  have k1 : (k : Int) ≤ 19 := by omega
  have n0 : (0 : Int) ≤ (n : Int) := by omega
  have n1 : (n : Int) ≤ 19 := by omega
  have HF := Lib.hid (inner_facts n k hn20 hk20)
  have HB := Lib.hid (And.intro hn20 hk20)
  clear hn hk hn20 hk20
  go_enter Tryd.func8, Tryd.ntmps8
  go_wp2_with fail
  go_loopg [7, 8] n (fun gk v6 v7 wr => StepAt w sa n gk v6 v7 wr)
  case atStart => exact ⟨0, Nat.zero_le _, rfl, rfl, rfl, rfl⟩
  case round =>
    obtain ⟨i, hi, rfl, rfl, rfl, rfl⟩ := hrel
    have i0 : (0 : Int) ≤ (i : Int) := by omega
    by_cases hlt : i < n
    · have i2 : (i : Int) < (n : Int) := by omega
      obtain ⟨u, hu⟩ : ∃ u, u = sa i := ⟨_, rfl⟩
      have hul : u.length ≤ 100 := by rw [hu]; have := sa_len i; have := HB.out.1; omega
      obtain ⟨z, hz⟩ : ∃ z, z = sa (i + 1) := ⟨_, rfl⟩
      have HZ := Lib.hid hz
      have HLT := Lib.hid hlt
      rw [← hu]
      by_cases hi1 : 0 < i
      · have i3 : (0 : Int) < (i : Int) := by omega
        have hzu : z = u ++ [44, 32] ++ [97] := by rw [hz, hu, sa_step i hi1]
        have a1 : ∀ wx, (Op.stringOp .add (bs u) ⟨#[44, 32]⟩).run Tryd.prog wx = .ok (.string (bs (u ++ [44, 32]))) wx := add_s9 u [44, 32] (by simp; omega)
        have a2 : ∀ wx, (Op.stringOp .add (bs (u ++ [44, 32])) ⟨#[97]⟩).run Tryd.prog wx = .ok (.string (bs z)) wx := by rw [hzu]; exact add_s9 (u ++ [44, 32]) [97] (by simp; omega)
        generalize bs (u ++ [44, 32]) = q at *
        clear hzu hul hi1 hu hz hlt hi
        go_wp2_with fail
        go_roundg (n - (i + 1))
        case measure => have := HLT.out; omega
        case rel => exact ⟨i + 1, HLT.out, rfl, by rw [HZ.out], by go_num, rfl⟩
      · obtain rfl : i = 0 := by omega
        have hzu : z = u ++ [97] := by rw [hz, hu]; rfl
        have a2 : ∀ wx, (Op.stringOp .add (bs u) ⟨#[97]⟩).run Tryd.prog wx = .ok (.string (bs z)) wx := by rw [hzu]; exact add_s9 u [97] (by simp; omega)
        clear hzu hul hi1 hu hz hlt hi
        go_wp2_with fail
        go_roundg (n - (0 + 1))
        case measure => have := HLT.out; omega
        case rel => exact ⟨0 + 1, HLT.out, rfl, by rw [HZ.out], by go_num, rfl⟩
    · obtain rfl : i = n := by omega
      clear hlt hi
      obtain ⟨u, hu⟩ : ∃ u, u = sa i := ⟨_, rfl⟩
      have hul : u.length ≤ 100 := by rw [hu]; have := sa_len i; have := HB.out.1; omega
      obtain ⟨b, hb⟩ : ∃ b, b = u ++ [41, 32, 123] := ⟨_, rfl⟩
      have hbl : b.length ≤ 103 := by rw [hb]; simp; omega
      have a1 : ∀ wx, (Op.stringOp .add (bs u) ⟨#[41, 32, 123]⟩).run Tryd.prog wx = .ok (.string (bs b)) wx := by rw [hb]; exact add_s9 u [41, 32, 123] (by simp; omega)
      have HS := Lib.hid (And.intro (show si i k = sr b k by rw [si_is, hb, hu]) hbl)
      rw [← hu]
      have eb : b = sr b 0 := by unfold sr; simp [To.rep]
      have EB := Lib.hid eb
      clear hu hul hb hbl eb
      go_wp2_with fail
      clear a1
      go_loopg [7, 9] k (fun gk v6 v7 wr => StepAt w (sr b) k gk v6 v7 wr)
      case atStart => exact ⟨0, Nat.zero_le _, rfl, by rw [← EB.out], rfl, rfl⟩
      case round =>
        obtain ⟨j, hj, rfl, rfl, rfl, rfl⟩ := hrel
        have j0 : (0 : Int) ≤ (j : Int) := by omega
        by_cases hlt : j < k
        · have j2 : (j : Int) < (k : Int) := by omega
          obtain ⟨u, hu⟩ : ∃ u, u = sr b j := ⟨_, rfl⟩
          have hul : u.length ≤ 400 := by rw [hu, sr_len]; have := HS.out.2; have := HB.out.2; omega
          obtain ⟨z, hz⟩ : ∃ z, z = sr b (j + 1) := ⟨_, rfl⟩
          have a1 : ∀ wx, (Op.stringOp .add (bs u) ⟨#[32, 114, 101, 116, 117, 114, 110, 32, 97, 59]⟩).run Tryd.prog wx = .ok (.string (bs z)) wx := by
            rw [hz, sr_step, ← hu]; exact add_s9 u [32, 114, 101, 116, 117, 114, 110, 32, 97, 59] (by simp; omega)
          have HZ := Lib.hid hz
          have HLT := Lib.hid hlt
          rw [← hu]
          clear hu hz hlt hj hul
          go_wp2_with fail
          go_roundg (k - (j + 1))
          case measure => have := HLT.out; omega
          case rel => exact ⟨j + 1, HLT.out, rfl, by rw [HZ.out], by go_num, rfl⟩
        · obtain rfl : j = k := by omega
          clear hlt hj EB
          rw [← HS.out.1]
          obtain ⟨s, hs⟩ : ∃ s, s = si i j := ⟨_, rfl⟩
          have hsl : s.length ≤ 400 := by rw [hs]; have := si_len i j; have := HB.out; omega
          have hf := HF.out
          rw [← hs] at hf ⊢
          obtain ⟨hf1, hf2, hf3⟩ := hf
          obtain ⟨s1, hs1⟩ : ∃ s1, s1 = s ++ [125] := ⟨_, rfl⟩
          obtain ⟨s2, hs2⟩ : ∃ s2, s2 = s ++ [125, 32, 114, 101, 116, 117, 114, 110, 32, 97, 59] := ⟨_, rfl⟩
          have a1 : ∀ wx, (Op.stringOp .add (bs s) ⟨#[125]⟩).run Tryd.prog wx = .ok (.string (bs s1)) wx := by rw [hs1]; exact add_s9 s [125] (by simp; omega)
          have a2 : ∀ wx, (Op.stringOp .add (bs s) ⟨#[125, 32, 114, 101, 116, 117, 114, 110, 32, 97, 59]⟩).run Tryd.prog wx = .ok (.string (bs s2)) wx := by rw [hs2]; exact add_s9 s [125, 32, 114, 101, 116, 117, 114, 110, 32, 97, 59] (by simp; omega)
          rw [← hs1] at hf1
          rw [← hs2] at hf2
          obtain ⟨L, hL⟩ : ∃ L, L = s.length := ⟨_, rfl⟩
          rw [← hL] at hf2 hf3 hsl
          have hsz : (bs s).size = L := by rw [bs_size, hL]
          have G1 := Lib.hid hf1
          have G2 := Lib.hid hf2
          have G3 := Lib.hid hf3
          have L0 : (0 : Int) ≤ (L : Int) := by omega
          have L1 : (L : Int) ≤ 400 := by omega
          have HSZ := Lib.hid hsz
          clear hf1 hf2 hf3 hs1 hs2 hs hL hsl hsz HF HS
          go_wp2_with fail
          refine (parse_t s1).mono ?_
          rintro e w1 ⟨hb1, pv, rfl, hP⟩
          rw [G1.out.1] at hP
          rw [G1.out.2.1, G1.out.2.2]
          obtain ⟨a3, c3, a4, c4, rfl, hbox⟩ := PB.of (Below.refl _ w) hb1 hP
          obtain ⟨b1, hb1'⟩ : ∃ b1, b1 = w1.heap.size := ⟨_, rfl⟩
          rw [show ({ funcs := [fnOf i j], body := .nil } : Pr).funcs.length = 1 from rfl, show ({ funcs := [fnOf i j], body := .nil } : Pr).body.len = 0 from rfl] at hbox ⊢
          obtain ⟨w2, hw2⟩ : ∃ w2, w2 = w1.alloc (.cells #[.slice a3 1 c3, .slice a4 0 c4] 25) := ⟨_, rfl⟩
          rw [← hw2, ← hb1'] at hbox
          have B1 := Lib.hid hbox
          clear hb1 hP hbox a1
          go_upto_region 16 with fail
          rw [← hw2, ← hb1']
          clear hw2 hb1'
          go_wp2_with fail
          refine (parse_t s2).mono ?_
          rintro e w3 ⟨hb3, pv, rfl, hP⟩
          rw [G2.out.1] at hP
          rw [G2.out.2.1, G2.out.2.2]
          obtain ⟨a5, c5, a6, c6, rfl, hbox⟩ := PB.of B1.out.below hb3 hP
          rw [show ({ funcs := [], body := .nil } : Pr).funcs.length = 0 from rfl, show ({ funcs := [], body := .nil } : Pr).body.len = 0 from rfl] at hbox ⊢
          obtain ⟨b3, hb3'⟩ : ∃ b3, b3 = w3.heap.size := ⟨_, rfl⟩
          obtain ⟨w4, hw4⟩ : ∃ w4, w4 = w3.alloc (.cells #[.slice a5 0 c5, .slice a6 0 c6] 25) := ⟨_, rfl⟩
          have hA4 := (Put.new w3 #[.slice a5 0 c5, .slice a6 0 c6] 25).1
          rw [← hw4] at hA4
          have B2 := Lib.hid (B1.out.later (hb3.trans (hA4.mono hb3.size)))
          clear hb3 hP hbox a2 hA4 B1
          go_upto_region 17 with fail
          rw [← hw4, ← hb3']
          clear hw4 hb3'
          go_wp2_with fail
          refine (parse_t s).mono ?_
          rintro e w5 ⟨hb5, pv, rfl, hP⟩
          rw [G3.out.1] at hP
          rw [G3.out.2.1, G3.out.2.2]
          obtain ⟨a7, c7, a8, c8, rfl, hbox⟩ := PB.of B2.out.below hb5 hP
          rw [show ({ funcs := [], body := .nil } : Pr).funcs.length = 0 from rfl, show ({ funcs := [], body := .nil } : Pr).body.len = 0 from rfl] at hbox ⊢
          obtain ⟨b5, hb5'⟩ : ∃ b5, b5 = w5.heap.size := ⟨_, rfl⟩
          obtain ⟨w6, hw6⟩ : ∃ w6, w6 = w5.alloc (.cells #[.slice a7 0 c7, .slice a8 0 c8] 25) := ⟨_, rfl⟩
          have hA6 := (Put.new w5 #[.slice a7 0 c7, .slice a8 0 c8] 25).1
          rw [← hw6] at hA6
          have B3 := Lib.hid (B2.out.later (hb5.trans (hA6.mono hb5.size)))
          clear hb5 hP hbox hA6 B2
          have hsz := HSZ.out
          obtain ⟨x0', x1'⟩ := B3.out.cells
          rw [show ({ funcs := [fnOf i j], body := .nil } : Pr).funcs.length = 1 from rfl] at x0'
          rw [show ({ funcs := [fnOf i j], body := .nil } : Pr).body.len = 0 from rfl] at x1'
          go_upto_region 18 with fail
          rw [← hw6, ← hb5']
          clear hw6 hb5'
          go_upto_region 20 with fail
          clear x0' x1'
          obtain ⟨bf, off, z1, y1, z2, y2, rfl, hS, e0, e1, e2, hT, hN⟩ := fn_one (c := c3) B3.out.funcs
          obtain ⟨x0', x1'⟩ := B3.out.cells
          rw [show ({ funcs := [fnOf i j], body := .nil } : Pr).funcs.length = 1 from rfl] at x0'
          have hA7 := (Put.new w6 #[.string ⟨#[102]⟩, .slice z1 i y1, .slice z2 j y2] 46)
          obtain ⟨bx, hbx⟩ : ∃ bx, bx = w6.heap.size := ⟨_, rfl⟩
          obtain ⟨w7, hw7⟩ : ∃ w7, w7 = w6.alloc (.cells #[.string ⟨#[102]⟩, .slice z1 i y1, .slice z2 j y2] 46) := ⟨_, rfl⟩
          rw [← hw7, ← hbx] at hA7
          have hA := hA7.1
          rw [hbx] at hA
          have hb16 : b1 < w6.heap.size := B3.out.lt
          have hm := hA.mono (Nat.le_of_lt hb16)
          have B4 := Lib.hid (And.intro (B3.out.later hA) (And.intro hA7.2.1 (And.intro (hT.below hm) (And.intro (hN.below hm) (show b1 < bx by omega)))))
          clear hA7 hA hm hT hN hS B3 hb16
          go_upto_region 21 with fail
          rw [← hw7, ← hbx]
          clear hw7 hbx e0 e1 e2 x0' x1'
          go_wp2_with fail
          go_loopg [20] i (fun gk v wr => StillAt w7 i gk v wr)
          case atStart => exact ⟨0, Nat.zero_le _, rfl, rfl, Below.refl _ _⟩
          case round =>
            obtain ⟨q, hq, rfl, rfl, hb⟩ := hrel
            have q0 : (0 : Int) ≤ (q : Int) := by omega
            have hrow := (hb.block _ (heap_lt B4.out.2.1)).trans B4.out.2.1
            have c0 := cell_of_row wr bx 0 _ _ _ hrow
            have c1 := cell_of_row wr bx 1 _ _ _ hrow
            have c2 := cell_of_row wr bx 2 _ _ _ hrow
            simp at c0 c1 c2
            by_cases hlt : q < i
            · have q2 : (q : Int) < (i : Int) := by omega
              have hm := hb.mono (Nat.le_of_lt (Nat.lt_trans B4.out.2.2.2.2 (heap_lt B4.out.2.1)))
              obtain ⟨ba, oa, rfl, hSa, d0⟩ := args_at (B4.out.2.2.1.below hm) q hlt
              have KB := Lib.hid hb
              have HLT := Lib.hid hlt
              clear hlt hq hm hb hSa hrow
              go_wp2_with fail
              go_roundg (i - (q + 1))
              case measure => have := HLT.out; omega
              case rel => exact ⟨q + 1, HLT.out, rfl, by go_num, KB.out⟩
            · obtain rfl : q = i := by omega
              have K1 := Lib.hid hb
              clear hlt hq hb hrow
              obtain ⟨w8, rfl⟩ : ∃ w8 : World, w8 = wr := ⟨_, rfl⟩
              go_wp2_with fail
              clear c0 c1 c2
              go_loopg [21] j (fun gk v wr => StillAt w8 j gk v wr)
              case atStart => exact ⟨0, Nat.zero_le _, rfl, rfl, Below.refl _ _⟩
              case round =>
                obtain ⟨r, hr, rfl, rfl, hb⟩ := hrel
                have r0 : (0 : Int) ≤ (r : Int) := by omega
                have KB0 := Lib.hid hb
                have hb := K1.out.trans (hb.mono K1.out.size)
                have hrow := (hb.block _ (heap_lt B4.out.2.1)).trans B4.out.2.1
                have c0 := cell_of_row wr bx 0 _ _ _ hrow
                have c1 := cell_of_row wr bx 1 _ _ _ hrow
                have c2 := cell_of_row wr bx 2 _ _ _ hrow
                simp at c0 c1 c2
                have hm := hb.mono (Nat.le_of_lt (Nat.lt_trans B4.out.2.2.2.2 (heap_lt B4.out.2.1)))
                by_cases hlt : r < j
                · have r2 : (r : Int) < (j : Int) := by omega
                  obtain ⟨bn, on, bn', on', cn', rfl, _, _, d0, d1, d2, d3, d4⟩ := ret_at (B4.out.2.2.2.1.below hm) r hlt
                  have KB := Lib.hid hb
                  have HLT := Lib.hid hlt
                  clear hlt hr hm hb hrow
                  go_wp2_with fail
                  go_roundg (j - (r + 1))
                  case measure => have := HLT.out; omega
                  case rel => exact ⟨r + 1, HLT.out, rfl, by go_num, KB0.out⟩
                · obtain rfl : r = j := by omega
                  have B5 := B4.out.1.later hb
                  have hT5 := B4.out.2.2.1.below hm
                  have hN5 := B4.out.2.2.2.1.below hm
                  obtain ⟨x0', x1'⟩ := B5.cells
                  rw [show ({ funcs := [fnOf q r], body := .nil } : Pr).funcs.length = 1 from rfl] at x0'
                  rw [show ({ funcs := [fnOf q r], body := .nil } : Pr).body.len = 0 from rfl] at x1'
                  obtain ⟨hA9, hn9, hz9⟩ := Put.new wr #[.slice (some ⟨bf, off, none⟩) 1 c3, .slice a4 0 c4] 25
                  obtain ⟨by_, hby⟩ : ∃ b, b = wr.heap.size := ⟨_, rfl⟩
                  obtain ⟨w9, hw9⟩ : ∃ w9, w9 = wr.alloc (.cells #[.slice (some ⟨bf, off, none⟩) 1 c3, .slice a4 0 c4] 25) := ⟨_, rfl⟩
                  rw [← hw9] at hA9 hn9 hz9
                  rw [← hby] at hn9
                  have hxy : bx < wr.heap.size := heap_lt hrow
                  have hrow9 := (hA9.block _ hxy).trans hrow
                  have hp10 := Put.one hn9 1 (.slice z2 r y2)
                  obtain ⟨w10, hw10⟩ : ∃ w10, w10 = w9.setCell ⟨by_, 1, none⟩ (.slice z2 r y2) := ⟨_, rfl⟩
                  rw [← hw10] at hp10
                  have hb10 : Below wr.heap.size wr w10 := hp10.below hA9 (by omega)
                  have hm10 := hb10.mono (Nat.le_of_lt (B5.lt))
                  have hrow10 := (hb10.block _ hxy).trans hrow
                  have hrowy : w10.heap[by_]? = some (.cells #[.slice (some ⟨bf, off, none⟩) 1 c3, .slice z2 r y2] 25 (0, 0)) := hp10.row
                  have X := Lib.hid (And.intro (B5.later hb10) (And.intro (hN5.below hm10) (And.intro hrow10 hrowy)))
                  have hg1 := frozen_of_row w9 by_ 1 _ _ hn9
                  have g0 := cell_of_row w9 by_ 0 _ _ _ hn9
                  have g1 := cell_of_row w9 by_ 1 _ _ _ hn9
                  have g2 := cell_of_row w9 bx 2 _ _ _ hrow9
                  simp at g0 g1 g2
                  have hne : ¬ by_ = bx := by omega
                  have hne2 : ¬ bx = by_ := by omega
                  obtain ⟨d, hd⟩ : ∃ d, d = decide (r = 0) := ⟨_, rfl⟩
                  have HD := Lib.hid (And.intro (check_good' HB.out.1 HB.out.2) ((check_si' HB.out.1 HB.out.2).trans hd.symm))
                  have hd2 : ((r : Int) == 0) = d := by rw [hd, Bool.eq_iff_iff]; simp
                  clear B5 hT5 hN5 hA9 hn9 hz9 hrow hrow9 hp10 hb10 hm10 hrow10 hrowy hxy hb hm hlt hr hd
                  go_upto_region 32 with fail
                  rw [← hw9, ← hby]
                  clear hw9 hby
                  go_upto_region 33 with fail
                  rw [← hw10]
                  clear hw10 c0 c1 c2 x0' x1' g0 g1 g2 hg1
                  go_wp2_with fail
                  refine alive9_t fun w11 hb => ?_
                  have hrow := (hb.block _ (heap_lt X.out.2.2.1)).trans X.out.2.2.1
                  have hrowy := (hb.block _ (heap_lt X.out.2.2.2)).trans X.out.2.2.2
                  have B6 := X.out.1.later hb
                  have X2 := Lib.hid (And.intro B6 (And.intro (X.out.2.1.below (hb.mono (Nat.le_of_lt X.out.1.lt))) (And.intro hrow hrowy)))
                  obtain ⟨x0', x1'⟩ := B6.cells
                  rw [show ({ funcs := [fnOf q r], body := .nil } : Pr).funcs.length = 1 from rfl] at x0'
                  rw [show ({ funcs := [fnOf q r], body := .nil } : Pr).body.len = 0 from rfl] at x1'
                  have c0 := cell_of_row w11 bx 0 _ _ _ hrow
                  have c1 := cell_of_row w11 bx 1 _ _ _ hrow
                  have c2 := cell_of_row w11 bx 2 _ _ _ hrow
                  have g0 := cell_of_row w11 by_ 0 _ _ _ hrowy
                  have g1 := cell_of_row w11 by_ 1 _ _ _ hrowy
                  simp at c0 c1 c2 g0 g1
                  clear hb hrow hrowy B6 X
                  go_wp2_with fail
                  refine (check_t (p := ⟨[fnOf q r], .nil⟩) (Nat.le_of_lt X2.out.1.lt) X2.out.1.funcs X2.out.1.nodes).mono ?_
                  rintro e w12 ⟨rfl, hb⟩
                  rw [HD.out.1]
                  have hrow := (hb.block _ (heap_lt X2.out.2.2.1)).trans X2.out.2.2.1
                  have hrowy := (hb.block _ (heap_lt X2.out.2.2.2)).trans X2.out.2.2.2
                  have B6 := X2.out.1.later hb
                  have X3 := Lib.hid (And.intro B6 (X2.out.2.1.below (hb.mono (Nat.le_of_lt X2.out.1.lt))))
                  clear c0 c1 c2 g0 g1 x0' x1'
                  have c0 := cell_of_row w12 bx 0 _ _ _ hrow
                  have c1 := cell_of_row w12 bx 1 _ _ _ hrow
                  have c2 := cell_of_row w12 bx 2 _ _ _ hrow
                  have g0 := cell_of_row w12 by_ 0 _ _ _ hrowy
                  have g1 := cell_of_row w12 by_ 1 _ _ _ hrowy
                  simp at c0 c1 c2 g0 g1
                  clear hb hrow hrowy B6 X2
                  go_wp2_with fail
                  refine (check_t (p := ⟨[fnOf q r], Ns.of (List.replicate r ret)⟩) (Nat.le_of_lt X3.out.1.lt) X3.out.1.funcs X3.out.2).mono ?_
                  rintro e w13 ⟨rfl, hb⟩
                  rw [HD.out.2]
                  have K := Lib.hid (X3.out.1.below.trans (hb.mono X3.out.1.below.size))
                  clear hb c0 c1 c2 g0 g1
                  have hdd : (d == d) = true := by simp
                  go_wp2_with fail
                  go_ret
                  exact ⟨rfl, K.out⟩
theorem inner_any (w : World) (x : Int) (hx : (Lit.int .u8 x).wf = true) (y : Int) (hy : (Lit.int .u8 y).wf = true) : Calls Tryd.prog 8 #[.int .u8 x, .int .u8 y] w fun e w' => e = .returned (.bool true) ∧ Below w.heap.size w w' := by
  simp [Lit.wf, IntKind.min, IntKind.max, IntKind.signed, IntKind.bits] at hx hy
  obtain ⟨x, rfl⟩ : ∃ k : Nat, x = (k : Int) := ⟨x.toNat, by omega⟩
  obtain ⟨y, rfl⟩ : ∃ k : Nat, y = (k : Int) := ⟨y.toNat, by omega⟩
  exact inner_law w x y (by omega) (by omega)
end Go.Proofs.YtiefpffccmdcoaaDoor
