/- Trees: TreesRanks's walk. -/
import Derived.Test.YtiefpffccmdcoaaDoorNdRankST
import Derived.Deep.RegionHeld3
namespace Go.Proofs.YtiefpffccmdcoaaDoor
open Go.RowKit Go.My Go.Nd

theorem sgn_mem (i : Nat) (h : i < 8) : sgn i ∈ sg8 := by
  match i, h with
  | 0, _ | 1, _ | 2, _ | 3, _ | 4, _ | 5, _ | 6, _ | 7, _ => simp [sgn, sg8]
theorem sgn_row (i : Nat) (h : i < 8) : (#[.string ⟨#[43]⟩, .string ⟨#[45]⟩, .string ⟨#[42]⟩, .string ⟨#[47]⟩, .string ⟨#[61, 61]⟩, .string ⟨#[33, 61]⟩, .string ⟨#[60]⟩, .string ⟨#[60, 61]⟩] : Array Value)[i]? = some (.string (bs (sgn i))) := by
  match i, h with
  | 0, _ | 1, _ | 2, _ | 3, _ | 4, _ | 5, _ | 6, _ | 7, _ => rfl
theorem sg8_len {s : Tx} (h : s ∈ sg8) : s.length ≤ 2 := by
  simp only [sg8, List.mem_cons, List.not_mem_nil, or_false] at h
  rcases h with rfl | rfl | rfl | rfl | rfl | rfl | rfl | rfl <;> decide

theorem rank_pos (t : Tx) : 1 ≤ rankOf t := by unfold rankOf; (repeat' split) <;> omega
theorem below_keep {c : Nat} {w0 w' w'' : World} (h : Below c w0 w') (hc : c ≤ w'.heap.size) (hk : Below w'.heap.size w' w'') : Below c w0 w'' := h.trans (hk.mono hc)
theorem same_of_B {a b : Tx} (h : sameB a b = true) : IsOne a ∧ IsOne b ∧ ndEq (exOf a) (exOf b) = true := by
  unfold sameB at h
  simp only [Bool.and_eq_true] at h
  exact ⟨one_of_B h.1.1, one_of_B h.1.2, h.2⟩
theorem notSame_of_B {a b : Tx} (h : notSameB a b = true) : IsOne a ∧ IsOne b ∧ ndEq (exOf a) (exOf b) = false := by
  unfold notSameB at h
  simp only [Bool.and_eq_true, Bool.not_eq_true'] at h
  exact ⟨one_of_B h.1.1, one_of_B h.1.2, h.2⟩
theorem keepB {w0 w' w'' : World} (h : Below w0.heap.size w0 w') (hk : Below w'.heap.size w' w'') : Below w0.heap.size w0 w'' := h.trans (hk.mono h.size)
theorem same_c {w : World} {s s' : Tx} {r : Bool} (h : IsOne s ∧ IsOne s' ∧ ndEq (exOf s) (exOf s') = r) : Calls Tryd.prog 19 #[.string (bs s), .string (bs s')] w fun e w' => e = .returned (.bool r) ∧ Below w.heap.size w w' :=
  same_t h.1 h.2.1 h.2.2 fun _ hb => ⟨rfl, hb⟩
theorem alive_c {w : World} : Calls Tryd.prog 14 #[] w fun e w' => e = .returned (.bool true) ∧ Below w.heap.size w w' := alive9_t fun _ hb => ⟨rfl, hb⟩
/-- Two texts that are one statement each: have they one expression. -/
def Pair9 (u v : ByteArray) (r : Bool) : Prop := ∃ a b, u = bs a ∧ v = bs b ∧ IsOne a ∧ IsOne b ∧ ndEq (exOf a) (exOf b) = r
theorem Pair9.of {a b : Tx} {r : Bool} (h : IsOne a ∧ IsOne b ∧ ndEq (exOf a) (exOf b) = r) : Pair9 (bs a) (bs b) r := ⟨a, b, rfl, rfl, h⟩
theorem same_g {w : World} {u v : ByteArray} {r : Bool} (h : Pair9 u v r) : Calls Tryd.prog 19 #[.string u, .string v] w fun e w' => e = .returned (.bool r) ∧ Below w.heap.size w w' := by
  obtain ⟨a, b, rfl, rfl, h⟩ := h
  exact same_c h
theorem add4_9 (a b c s t : List UInt8) {r : List UInt8} (hr : a ++ s ++ b ++ t ++ c = r) (h : (a ++ s ++ b ++ t ++ c).length ≤ 1000000) : ∃ p1 p2 p3 : ByteArray, (∀ wx, (Op.stringOp .add (bs a) (bs s)).run Tryd.prog wx = .ok (.string p1) wx) ∧ (∀ wx, (Op.stringOp .add p1 (bs b)).run Tryd.prog wx = .ok (.string p2) wx) ∧ (∀ wx, (Op.stringOp .add p2 (bs t)).run Tryd.prog wx = .ok (.string p3) wx) ∧ ∀ wx, (Op.stringOp .add p3 (bs c)).run Tryd.prog wx = .ok (.string (bs r)) wx := by
  subst hr
  simp only [List.length_append] at h
  exact ⟨_, _, _, add_s9 a s (by omega), add_s9 (a ++ s) b (by simp only [List.length_append]; omega), add_s9 (a ++ s ++ b) t (by simp only [List.length_append]; omega), add_s9 (a ++ s ++ b ++ t) c (by simp only [List.length_append]; omega)⟩

set_option maxRecDepth 100000 in
set_option maxHeartbeats 8000000 in
theorem ranks_law (w : World) (x y : Nat) (hx : x < 256) (hy : y < 256) : Calls Tryd.prog 5 #[.int .u8 (x : Int), .int .u8 (y : Int)] w fun e w' => e = .returned (.bool true) ∧ Below w.heap.size w w' := by
  obtain ⟨hA2, hn2, hz2⟩ := Put.new w #[.string ⟨#[43]⟩, .string ⟨#[45]⟩, .string ⟨#[42]⟩, .string ⟨#[47]⟩, .string ⟨#[61, 61]⟩, .string ⟨#[33, 61]⟩, .string ⟨#[60]⟩, .string ⟨#[60, 61]⟩] 9
  obtain ⟨b4, hb4⟩ : ∃ b4, b4 = w.heap.size := ⟨_, rfl⟩
  obtain ⟨w1, hw1⟩ : ∃ w1, w1 = w.alloc (.cells #[.string ⟨#[43]⟩, .string ⟨#[45]⟩, .string ⟨#[42]⟩, .string ⟨#[47]⟩, .string ⟨#[61, 61]⟩, .string ⟨#[33, 61]⟩, .string ⟨#[60]⟩, .string ⟨#[60, 61]⟩] 9) := ⟨_, rfl⟩
  rw [← hw1] at hA2 hn2 hz2
  rw [← hb4] at hn2
  obtain ⟨m, hm⟩ : ∃ m, m = x % 8 := ⟨_, rfl⟩
  obtain ⟨n, hn⟩ : ∃ n, n = y % 8 := ⟨_, rfl⟩
  have hm8 : m < 8 := by omega
  have hn8 : n < 8 := by omega
  have x2 : (x : Int) % 8 = (m : Int) := by omega
  have y2 : (y : Int) % 8 = (n : Int) := by omega
  have x0 : (0 : Int) ≤ (m : Int) := by omega
  have x1 : (m : Int) < 8 := by omega
  have y0 : (0 : Int) ≤ (n : Int) := by omega
  have y1 : (n : Int) < 8 := by omega
  have d1 := cell_of_row w1 b4 m _ _ _ hn2
  have d2 := cell_of_row w1 b4 n _ _ _ hn2
  rw [sgn_row _ hm8] at d1
  rw [sgn_row _ hn8] at d2
  have hs := sgn_mem m hm8
  have ht := sgn_mem n hn8
  generalize sgn m = s at *
  generalize sgn n = t at *
  have X := Lib.hid (And.intro hA2 (And.intro hs ht))
  clear hm hn hm8 hn8
  clear hA2 hn2 hz2 hs ht
  go_enter Tryd.func5, Tryd.ntmps5
  go_upto_region 2 with fail
  rw [← hw1, ← hb4]
  clear hw1 hb4
  go_upto_region 3 with fail
  go_upto_region 4 with fail
  have hls := sg8_len X.out.2.1
  have hlt := sg8_len X.out.2.2
  clear d1 d2 x0 x1 x2 y0 y1 y2
  obtain ⟨p1, p2, p3, a1, a2, a3, a4⟩ := add4_9 [117, 32] [32, 118, 32] [32, 119, 59] s t (r := rx s t) rfl (by simp; omega)
  have a1 : ∀ wx, (Op.stringOp .add ⟨#[117, 32]⟩ (bs s)).run Tryd.prog wx = .ok (.string p1) wx := a1
  have a2 : ∀ wx, (Op.stringOp .add p1 ⟨#[32, 118, 32]⟩).run Tryd.prog wx = .ok (.string p2) wx := a2
  have a4 : ∀ wx, (Op.stringOp .add p3 ⟨#[32, 119, 59]⟩).run Tryd.prog wx = .ok (.string (bs (rx s t))) wx := a4
  go_upto_region 5 with fail
  clear a1 a2 a3 a4
  obtain ⟨p4, p5, p6, a1, a2, a3, a4⟩ := add4_9 [40, 117, 32] [32, 118, 41, 32] [32, 119, 59] s t (r := rf s t) rfl (by simp; omega)
  have a1 : ∀ wx, (Op.stringOp .add ⟨#[40, 117, 32]⟩ (bs s)).run Tryd.prog wx = .ok (.string p4) wx := a1
  have a2 : ∀ wx, (Op.stringOp .add p4 ⟨#[32, 118, 41, 32]⟩).run Tryd.prog wx = .ok (.string p5) wx := a2
  have a4 : ∀ wx, (Op.stringOp .add p6 ⟨#[32, 119, 59]⟩).run Tryd.prog wx = .ok (.string (bs (rf s t))) wx := a4
  go_upto_region 6 with fail
  clear a1 a2 a3 a4
  obtain ⟨p7, p8, p9, a1, a2, a3, a4⟩ := add4_9 [117, 32] [32, 40, 118, 32] [32, 119, 41, 59] s t (r := rs s t) rfl (by simp; omega)
  have a1 : ∀ wx, (Op.stringOp .add ⟨#[117, 32]⟩ (bs s)).run Tryd.prog wx = .ok (.string p7) wx := a1
  have a2 : ∀ wx, (Op.stringOp .add p7 ⟨#[32, 40, 118, 32]⟩).run Tryd.prog wx = .ok (.string p8) wx := a2
  have a4 : ∀ wx, (Op.stringOp .add p9 ⟨#[32, 119, 41, 59]⟩).run Tryd.prog wx = .ok (.string (bs (rs s t))) wx := a4
  go_upto_region 7 with fail
  clear a1 a2 a3 a4
  have X2 := Lib.hid (And.intro X.out.1 (And.intro hls hlt))
  have HS := Lib.hid (And.intro X.out.2.1 (And.intro X.out.2.2 (rank_ok X.out.2.1 X.out.2.2)))
  clear X hls hlt
  have r0 : (0 : Int) ≤ (rankOf s : Int) := by omega
  go_wp2_with fail
  refine rank_t HS.out.1 fun w2 hb => ?_
  have K2 := Lib.hid hb
  clear hb
  by_cases h1 : rankOf s = 1
  · have e1 : (rankOf s : Int) = 1 := by omega
    go_wp2_with fail
    refine rank_t HS.out.2.1 fun w3 hb => ?_
    have K3 := Lib.hid (K2.out.trans (hb.mono K2.out.size))
    clear hb
    by_cases h2 : rankOf t = 1
    · have e2 : (rankOf t : Int) = 1 := by omega
      have HO := HS.out.2.2
      unfold rankOk at HO
      rw [if_pos ⟨h1, h2⟩] at HO
      simp only [Bool.and_eq_true] at HO
      have HO := Lib.hid HO
      have L := Lib.hid (And.intro h1 h2)
      clear h1 h2
      go_upto_region 8 with fail
      go_wp2_with fail
      refine (parse_t (w := w3) (rx s t)).mono ?_
      rintro e w4 ⟨hb, pv, rfl, hP⟩
      rw [bad6_of_B HO.out.1.1.1] at hP ⊢
      have K4 := Lib.hid (K3.out.trans (hb.mono K3.out.size))
      clear hb
      obtain ⟨a1, d1, a2, d2, rfl⟩ := hP.form
      obtain ⟨hA2, hn2, hz2⟩ := Put.new w4 #[.slice a1 0 d1, .slice a2 0 d2] 25
      obtain ⟨b5, hb5⟩ : ∃ b5, b5 = w4.heap.size := ⟨_, rfl⟩
      obtain ⟨w5, hw5⟩ : ∃ w5, w5 = w4.alloc (.cells #[.slice a1 0 d1, .slice a2 0 d2] 25) := ⟨_, rfl⟩
      rw [← hw5] at hA2 hn2 hz2
      have K5 := Lib.hid (K4.out.trans (hA2.mono K4.out.size))
      clear hA2 hn2 hz2 hP
      dsimp only [List.length_nil, Ns.len]
      have hsl : s.length ≤ 2 := X2.out.2.1
      have hbs : wrap64 (5 + ((bs s).size : Int)) = 5 + (s.length : Int) := by rw [bs_size]; simp only [wrap64]; omega
      clear hsl
      go_upto_region 9 with fail
      rw [show Ns.nil.items.length = 0 from rfl, ← hw5, ← hb5]
      clear hw5 hb5
      go_wp2_with fail
      refine alive9_t fun w6 hb => ?_
      have K6 := Lib.hid (K5.out.trans (hb.mono K5.out.size))
      clear hb
      go_wp2_with fail
      have A := same_of_B HO.out.1.1.2
      refine same_t A.1 A.2.1 A.2.2 fun w7 hb => ?_
      have K7 := Lib.hid (K6.out.trans (hb.mono K6.out.size))
      clear hb A
      go_wp2_with fail
      have A := same_of_B HO.out.1.2
      refine same_t A.1 A.2.1 A.2.2 fun w8 hb => ?_
      have K8 := Lib.hid (K7.out.trans (hb.mono K7.out.size))
      clear hb A
      go_wp2_with fail
      have A := notSame_of_B HO.out.2
      refine same_t A.1 A.2.1 A.2.2 fun w9 hb => ?_
      have K9 := Lib.hid (K8.out.trans (hb.mono K8.out.size))
      clear hb A
      go_wp2_with fail
      go_ret
      exact ⟨rfl, X2.out.1.trans (K9.out.mono X2.out.1.size)⟩
    · have e2 : ¬ (rankOf t : Int) = 1 := by omega
      have e3 : (rankOf s : Int) < (rankOf t : Int) := by
        have : 1 ≤ rankOf t := rank_pos t
        omega
      have HO := HS.out.2.2
      unfold rankOk at HO
      rw [if_neg (fun h => h2 h.2), if_pos (by omega)] at HO
      simp only [Bool.and_eq_true] at HO
      have HO := Lib.hid HO
      have L := Lib.hid (And.intro h1 h2)
      clear h1 h2
      go_upto_region 11 with fail
      go_wp2_with fail
      refine rank_t HS.out.2.1 fun w4 hb => ?_
      have K4 := Lib.hid (K3.out.trans (hb.mono K3.out.size))
      clear hb
      go_wp2_with fail
      refine rank_t HS.out.1 fun w5 hb => ?_
      have K5 := Lib.hid (K4.out.trans (hb.mono K4.out.size))
      clear hb
      go_upto_region 13 with fail
      have hl1 : s.length ≤ 2 := X2.out.2.1
      have hl2 : t.length ≤ 2 := X2.out.2.2
      obtain ⟨q1, a1, a2⟩ := add2_9 [45, 117, 32] [32, 110, 111, 116, 32, 118, 59] s (r := r1 s) rfl (by simp; omega)
      have a1 : ∀ wx, (Op.stringOp .add ⟨#[45, 117, 32]⟩ (bs s)).run Tryd.prog wx = .ok (.string q1) wx := a1
      have a2 : ∀ wx, (Op.stringOp .add q1 ⟨#[32, 110, 111, 116, 32, 118, 59]⟩).run Tryd.prog wx = .ok (.string (bs (r1 s))) wx := a2
      obtain ⟨q2, b1, b2⟩ := add2_9 [40, 45, 117, 41, 32] [32, 40, 110, 111, 116, 32, 118, 41, 59] s (r := r2 s) rfl (by simp; omega)
      have b1 : ∀ wx, (Op.stringOp .add ⟨#[40, 45, 117, 41, 32]⟩ (bs s)).run Tryd.prog wx = .ok (.string q2) wx := b1
      have b2 : ∀ wx, (Op.stringOp .add q2 ⟨#[32, 40, 110, 111, 116, 32, 118, 41, 59]⟩).run Tryd.prog wx = .ok (.string (bs (r2 s))) wx := b2
      obtain ⟨q3, c1, c2⟩ := add2_9 [45, 117, 94, 50, 32] [32, 118, 94, 51, 59] s (r := r3 s) rfl (by simp; omega)
      have c1 : ∀ wx, (Op.stringOp .add ⟨#[45, 117, 94, 50, 32]⟩ (bs s)).run Tryd.prog wx = .ok (.string q3) wx := c1
      have c2 : ∀ wx, (Op.stringOp .add q3 ⟨#[32, 118, 94, 51, 59]⟩).run Tryd.prog wx = .ok (.string (bs (r3 s))) wx := c2
      obtain ⟨q4, f1, f2⟩ := add2_9 [40, 45, 40, 117, 94, 50, 41, 41, 32] [32, 40, 118, 94, 51, 41, 59] s (r := r4 s) rfl (by simp; omega)
      have f1 : ∀ wx, (Op.stringOp .add ⟨#[40, 45, 40, 117, 94, 50, 41, 41, 32]⟩ (bs s)).run Tryd.prog wx = .ok (.string q4) wx := f1
      have f2 : ∀ wx, (Op.stringOp .add q4 ⟨#[32, 40, 118, 94, 51, 41, 59]⟩).run Tryd.prog wx = .ok (.string (bs (r4 s))) wx := f2
      obtain ⟨x', hx'⟩ : ∃ x', x' = rx s t := ⟨_, rfl⟩
      obtain ⟨z, hz⟩ : ∃ z, z = x'.dropLast := ⟨_, rfl⟩
      have hlx : x'.length ≤ 20 := by rw [hx']; simp [rx]; omega
      have hnx : x' ≠ [] := by rw [hx']; simp [rx]
      have hdx : z.length ≤ 20 := by rw [hz]; simp; omega
      have hsz : (bs x').size = x'.length := bs_size _
      have hl0 : 1 ≤ x'.length := List.length_pos_iff.2 hnx
      obtain ⟨L, hL⟩ : ∃ L, L = x'.length := ⟨_, rfl⟩
      rw [← hL] at hsz hl0 hlx
      have L0 : (1 : Int) ≤ (L : Int) := by omega
      have L1 : (L : Int) ≤ 20 := by omega
      obtain ⟨n', hn'⟩ : ∃ n' : Nat, L = n' + 1 := ⟨L - 1, by omega⟩
      have L2 : (0 : Int) ≤ (n' : Int) := by omega
      have L3 : IntKind.i64.wrap (n' : Int) = (n' : Int) := IntWalk.i64_in _ (by omega)
      have L5 : (n' : Int) ≤ (L : Int) := by omega
      have L6 : (L : Int) - 1 = (n' : Int) := by omega
      have cut2 : (bs x').extract 0 n' = bs z := by rw [hz, show n' = x'.length - 1 by omega, bs_cut, List.drop_zero, Nat.sub_zero, List.dropLast_eq_take]
      clear hn'
      obtain ⟨q5, g1, g2⟩ := add2_9 [102, 40, 117, 44, 32] [41, 94, 52, 59] z (r := r7 x') (by rw [hz]; rfl) (by simp only [List.length_append, List.length_cons, List.length_nil]; omega)
      have g1 : ∀ wx, (Op.stringOp .add ⟨#[102, 40, 117, 44, 32]⟩ (bs z)).run Tryd.prog wx = .ok (.string q5) wx := g1
      have g2 : ∀ wx, (Op.stringOp .add q5 ⟨#[41, 94, 52, 59]⟩).run Tryd.prog wx = .ok (.string (bs (r7 x'))) wx := g2
      obtain ⟨q6, k1, k2⟩ := add2_9 [40, 102, 40, 117, 44, 32, 40] [41, 41, 41, 94, 52, 59] z (r := r8 x') (by rw [hz]; rfl) (by simp only [List.length_append, List.length_cons, List.length_nil]; omega)
      have k1 : ∀ wx, (Op.stringOp .add ⟨#[40, 102, 40, 117, 44, 32, 40]⟩ (bs z)).run Tryd.prog wx = .ok (.string q6) wx := k1
      have k2 : ∀ wx, (Op.stringOp .add q6 ⟨#[41, 41, 41, 94, 52, 59]⟩).run Tryd.prog wx = .ok (.string (bs (r8 x'))) wx := k2
      have hO := HO.out
      rw [← hx'] at hO ⊢
      have A1 := Lib.hid (Pair9.of (same_of_B hO.1.1.1.1.1))
      have A2 := Lib.hid (Pair9.of (notSame_of_B hO.1.1.1.1.2))
      have A3 := Lib.hid (Pair9.of (same_of_B hO.1.1.1.2))
      have A4 := Lib.hid (Pair9.of (same_of_B hO.1.1.2))
      have A5 := Lib.hid (show Pair9 ⟨#[45, 32, 45, 32, 117, 94, 48, 59]⟩ ⟨#[45, 40, 45, 40, 117, 94, 48, 41, 41, 59]⟩ true from Pair9.of (same_of_B hO.1.2))
      have A6 := Lib.hid (Pair9.of (same_of_B hO.2))
      clear hO hx' hz hlx hnx hdx hl0 hL hl1 hl2
      generalize r1 s = y1 at *
      generalize r2 s = y2 at *
      generalize r3 s = y3 at *
      generalize r4 s = y4 at *
      generalize r7 x' = y7 at *
      generalize r8 x' = y8 at *
      generalize rf s t = yf at *
      generalize rs s t = ys at *
      go_region_held3 (fun w' => Below w5.heap.size w5 w')
        (first | assumption | exact (Below.refl _ _).drew | exact keepB (by assumption) (by assumption))
        (first
          | (go_at_call 14; refine alive_c.mono ?_; rintro e w'' ⟨rfl, hk⟩)
          | (go_at_call 19; refine (same_g (by first | exact A1.out | exact A2.out | exact A3.out | exact A4.out | exact A5.out | exact A6.out)).mono ?_; rintro e w'' ⟨rfl, hk⟩))
      all_goals
        rename_i hH
        have K6 := Lib.hid (K5.out.trans (hH.mono K5.out.size))
        clear hH
        go_wp2_with fail
        go_ret
        exact ⟨rfl, X2.out.1.trans (K6.out.mono X2.out.1.size)⟩
  · have e1 : ¬ (rankOf s : Int) = 1 := by omega
    have HO := HS.out.2.2
    unfold rankOk at HO
    rw [if_neg (fun h => h1 h.1)] at HO
    have L := Lib.hid h1
    clear h1
    by_cases h2 : rankOf s < rankOf t
    · rw [if_pos h2] at HO
      simp only [Bool.and_eq_true] at HO
      have HO := Lib.hid HO
      have e3 : (rankOf s : Int) < (rankOf t : Int) := by omega
      clear h2
      go_upto_region 11 with fail
      go_wp2_with fail
      refine rank_t HS.out.2.1 fun w4 hb => ?_
      have K4 := Lib.hid (K2.out.trans (hb.mono K2.out.size))
      clear hb
      go_wp2_with fail
      refine rank_t HS.out.1 fun w5 hb => ?_
      have K5 := Lib.hid (K4.out.trans (hb.mono K4.out.size))
      clear hb
      go_upto_region 13 with fail
      have hl1 : s.length ≤ 2 := X2.out.2.1
      have hl2 : t.length ≤ 2 := X2.out.2.2
      obtain ⟨q1, a1, a2⟩ := add2_9 [45, 117, 32] [32, 110, 111, 116, 32, 118, 59] s (r := r1 s) rfl (by simp; omega)
      have a1 : ∀ wx, (Op.stringOp .add ⟨#[45, 117, 32]⟩ (bs s)).run Tryd.prog wx = .ok (.string q1) wx := a1
      have a2 : ∀ wx, (Op.stringOp .add q1 ⟨#[32, 110, 111, 116, 32, 118, 59]⟩).run Tryd.prog wx = .ok (.string (bs (r1 s))) wx := a2
      obtain ⟨q2, b1, b2⟩ := add2_9 [40, 45, 117, 41, 32] [32, 40, 110, 111, 116, 32, 118, 41, 59] s (r := r2 s) rfl (by simp; omega)
      have b1 : ∀ wx, (Op.stringOp .add ⟨#[40, 45, 117, 41, 32]⟩ (bs s)).run Tryd.prog wx = .ok (.string q2) wx := b1
      have b2 : ∀ wx, (Op.stringOp .add q2 ⟨#[32, 40, 110, 111, 116, 32, 118, 41, 59]⟩).run Tryd.prog wx = .ok (.string (bs (r2 s))) wx := b2
      obtain ⟨q3, c1, c2⟩ := add2_9 [45, 117, 94, 50, 32] [32, 118, 94, 51, 59] s (r := r3 s) rfl (by simp; omega)
      have c1 : ∀ wx, (Op.stringOp .add ⟨#[45, 117, 94, 50, 32]⟩ (bs s)).run Tryd.prog wx = .ok (.string q3) wx := c1
      have c2 : ∀ wx, (Op.stringOp .add q3 ⟨#[32, 118, 94, 51, 59]⟩).run Tryd.prog wx = .ok (.string (bs (r3 s))) wx := c2
      obtain ⟨q4, f1, f2⟩ := add2_9 [40, 45, 40, 117, 94, 50, 41, 41, 32] [32, 40, 118, 94, 51, 41, 59] s (r := r4 s) rfl (by simp; omega)
      have f1 : ∀ wx, (Op.stringOp .add ⟨#[40, 45, 40, 117, 94, 50, 41, 41, 32]⟩ (bs s)).run Tryd.prog wx = .ok (.string q4) wx := f1
      have f2 : ∀ wx, (Op.stringOp .add q4 ⟨#[32, 40, 118, 94, 51, 41, 59]⟩).run Tryd.prog wx = .ok (.string (bs (r4 s))) wx := f2
      obtain ⟨x', hx'⟩ : ∃ x', x' = rx s t := ⟨_, rfl⟩
      obtain ⟨z, hz⟩ : ∃ z, z = x'.dropLast := ⟨_, rfl⟩
      have hlx : x'.length ≤ 20 := by rw [hx']; simp [rx]; omega
      have hnx : x' ≠ [] := by rw [hx']; simp [rx]
      have hdx : z.length ≤ 20 := by rw [hz]; simp; omega
      have hsz : (bs x').size = x'.length := bs_size _
      have hl0 : 1 ≤ x'.length := List.length_pos_iff.2 hnx
      obtain ⟨L, hL⟩ : ∃ L, L = x'.length := ⟨_, rfl⟩
      rw [← hL] at hsz hl0 hlx
      have L0 : (1 : Int) ≤ (L : Int) := by omega
      have L1 : (L : Int) ≤ 20 := by omega
      obtain ⟨n', hn'⟩ : ∃ n' : Nat, L = n' + 1 := ⟨L - 1, by omega⟩
      have L2 : (0 : Int) ≤ (n' : Int) := by omega
      have L3 : IntKind.i64.wrap (n' : Int) = (n' : Int) := IntWalk.i64_in _ (by omega)
      have L5 : (n' : Int) ≤ (L : Int) := by omega
      have L6 : (L : Int) - 1 = (n' : Int) := by omega
      have cut2 : (bs x').extract 0 n' = bs z := by rw [hz, show n' = x'.length - 1 by omega, bs_cut, List.drop_zero, Nat.sub_zero, List.dropLast_eq_take]
      clear hn'
      obtain ⟨q5, g1, g2⟩ := add2_9 [102, 40, 117, 44, 32] [41, 94, 52, 59] z (r := r7 x') (by rw [hz]; rfl) (by simp only [List.length_append, List.length_cons, List.length_nil]; omega)
      have g1 : ∀ wx, (Op.stringOp .add ⟨#[102, 40, 117, 44, 32]⟩ (bs z)).run Tryd.prog wx = .ok (.string q5) wx := g1
      have g2 : ∀ wx, (Op.stringOp .add q5 ⟨#[41, 94, 52, 59]⟩).run Tryd.prog wx = .ok (.string (bs (r7 x'))) wx := g2
      obtain ⟨q6, k1, k2⟩ := add2_9 [40, 102, 40, 117, 44, 32, 40] [41, 41, 41, 94, 52, 59] z (r := r8 x') (by rw [hz]; rfl) (by simp only [List.length_append, List.length_cons, List.length_nil]; omega)
      have k1 : ∀ wx, (Op.stringOp .add ⟨#[40, 102, 40, 117, 44, 32, 40]⟩ (bs z)).run Tryd.prog wx = .ok (.string q6) wx := k1
      have k2 : ∀ wx, (Op.stringOp .add q6 ⟨#[41, 41, 41, 94, 52, 59]⟩).run Tryd.prog wx = .ok (.string (bs (r8 x'))) wx := k2
      have hO := HO.out
      rw [← hx'] at hO ⊢
      have A1 := Lib.hid (Pair9.of (same_of_B hO.1.1.1.1.1))
      have A2 := Lib.hid (Pair9.of (notSame_of_B hO.1.1.1.1.2))
      have A3 := Lib.hid (Pair9.of (same_of_B hO.1.1.1.2))
      have A4 := Lib.hid (Pair9.of (same_of_B hO.1.1.2))
      have A5 := Lib.hid (show Pair9 ⟨#[45, 32, 45, 32, 117, 94, 48, 59]⟩ ⟨#[45, 40, 45, 40, 117, 94, 48, 41, 41, 59]⟩ true from Pair9.of (same_of_B hO.1.2))
      have A6 := Lib.hid (Pair9.of (same_of_B hO.2))
      clear hO hx' hz hlx hnx hdx hl0 hL hl1 hl2
      generalize r1 s = y1 at *
      generalize r2 s = y2 at *
      generalize r3 s = y3 at *
      generalize r4 s = y4 at *
      generalize r7 x' = y7 at *
      generalize r8 x' = y8 at *
      generalize rf s t = yf at *
      generalize rs s t = ys at *
      go_region_held3 (fun w' => Below w5.heap.size w5 w')
        (first | assumption | exact (Below.refl _ _).drew | exact keepB (by assumption) (by assumption))
        (first
          | (go_at_call 14; refine alive_c.mono ?_; rintro e w'' ⟨rfl, hk⟩)
          | (go_at_call 19; refine (same_g (by first | exact A1.out | exact A2.out | exact A3.out | exact A4.out | exact A5.out | exact A6.out)).mono ?_; rintro e w'' ⟨rfl, hk⟩))
      all_goals
        rename_i hH
        have K6 := Lib.hid (K5.out.trans (hH.mono K5.out.size))
        clear hH
        go_wp2_with fail
        go_ret
        exact ⟨rfl, X2.out.1.trans (K6.out.mono X2.out.1.size)⟩
    · rw [if_neg h2] at HO
      simp only [Bool.and_eq_true] at HO
      have HO := Lib.hid HO
      have e3 : (rankOf t : Int) ≤ (rankOf s : Int) := by omega
      clear h2
      go_upto_region 11 with fail
      go_wp2_with fail
      refine rank_t HS.out.2.1 fun w4 hb => ?_
      have K4 := Lib.hid (K2.out.trans (hb.mono K2.out.size))
      clear hb
      go_wp2_with fail
      refine rank_t HS.out.1 fun w5 hb => ?_
      have K5 := Lib.hid (K4.out.trans (hb.mono K4.out.size))
      clear hb
      go_upto_region 13 with fail
      have hl1 : s.length ≤ 2 := X2.out.2.1
      have hl2 : t.length ≤ 2 := X2.out.2.2
      obtain ⟨q1, a1, a2⟩ := add2_9 [45, 117, 32] [32, 110, 111, 116, 32, 118, 59] s (r := r1 s) rfl (by simp; omega)
      have a1 : ∀ wx, (Op.stringOp .add ⟨#[45, 117, 32]⟩ (bs s)).run Tryd.prog wx = .ok (.string q1) wx := a1
      have a2 : ∀ wx, (Op.stringOp .add q1 ⟨#[32, 110, 111, 116, 32, 118, 59]⟩).run Tryd.prog wx = .ok (.string (bs (r1 s))) wx := a2
      obtain ⟨q2, b1, b2⟩ := add2_9 [40, 45, 117, 41, 32] [32, 40, 110, 111, 116, 32, 118, 41, 59] s (r := r2 s) rfl (by simp; omega)
      have b1 : ∀ wx, (Op.stringOp .add ⟨#[40, 45, 117, 41, 32]⟩ (bs s)).run Tryd.prog wx = .ok (.string q2) wx := b1
      have b2 : ∀ wx, (Op.stringOp .add q2 ⟨#[32, 40, 110, 111, 116, 32, 118, 41, 59]⟩).run Tryd.prog wx = .ok (.string (bs (r2 s))) wx := b2
      obtain ⟨q3, c1, c2⟩ := add2_9 [45, 117, 94, 50, 32] [32, 118, 94, 51, 59] s (r := r3 s) rfl (by simp; omega)
      have c1 : ∀ wx, (Op.stringOp .add ⟨#[45, 117, 94, 50, 32]⟩ (bs s)).run Tryd.prog wx = .ok (.string q3) wx := c1
      have c2 : ∀ wx, (Op.stringOp .add q3 ⟨#[32, 118, 94, 51, 59]⟩).run Tryd.prog wx = .ok (.string (bs (r3 s))) wx := c2
      obtain ⟨q4, f1, f2⟩ := add2_9 [40, 45, 40, 117, 94, 50, 41, 41, 32] [32, 40, 118, 94, 51, 41, 59] s (r := r4 s) rfl (by simp; omega)
      have f1 : ∀ wx, (Op.stringOp .add ⟨#[40, 45, 40, 117, 94, 50, 41, 41, 32]⟩ (bs s)).run Tryd.prog wx = .ok (.string q4) wx := f1
      have f2 : ∀ wx, (Op.stringOp .add q4 ⟨#[32, 40, 118, 94, 51, 41, 59]⟩).run Tryd.prog wx = .ok (.string (bs (r4 s))) wx := f2
      obtain ⟨x', hx'⟩ : ∃ x', x' = rx s t := ⟨_, rfl⟩
      obtain ⟨z, hz⟩ : ∃ z, z = x'.dropLast := ⟨_, rfl⟩
      have hlx : x'.length ≤ 20 := by rw [hx']; simp [rx]; omega
      have hnx : x' ≠ [] := by rw [hx']; simp [rx]
      have hdx : z.length ≤ 20 := by rw [hz]; simp; omega
      have hsz : (bs x').size = x'.length := bs_size _
      have hl0 : 1 ≤ x'.length := List.length_pos_iff.2 hnx
      obtain ⟨L, hL⟩ : ∃ L, L = x'.length := ⟨_, rfl⟩
      rw [← hL] at hsz hl0 hlx
      have L0 : (1 : Int) ≤ (L : Int) := by omega
      have L1 : (L : Int) ≤ 20 := by omega
      obtain ⟨n', hn'⟩ : ∃ n' : Nat, L = n' + 1 := ⟨L - 1, by omega⟩
      have L2 : (0 : Int) ≤ (n' : Int) := by omega
      have L3 : IntKind.i64.wrap (n' : Int) = (n' : Int) := IntWalk.i64_in _ (by omega)
      have L5 : (n' : Int) ≤ (L : Int) := by omega
      have L6 : (L : Int) - 1 = (n' : Int) := by omega
      have cut2 : (bs x').extract 0 n' = bs z := by rw [hz, show n' = x'.length - 1 by omega, bs_cut, List.drop_zero, Nat.sub_zero, List.dropLast_eq_take]
      clear hn'
      obtain ⟨q5, g1, g2⟩ := add2_9 [102, 40, 117, 44, 32] [41, 94, 52, 59] z (r := r7 x') (by rw [hz]; rfl) (by simp only [List.length_append, List.length_cons, List.length_nil]; omega)
      have g1 : ∀ wx, (Op.stringOp .add ⟨#[102, 40, 117, 44, 32]⟩ (bs z)).run Tryd.prog wx = .ok (.string q5) wx := g1
      have g2 : ∀ wx, (Op.stringOp .add q5 ⟨#[41, 94, 52, 59]⟩).run Tryd.prog wx = .ok (.string (bs (r7 x'))) wx := g2
      obtain ⟨q6, k1, k2⟩ := add2_9 [40, 102, 40, 117, 44, 32, 40] [41, 41, 41, 94, 52, 59] z (r := r8 x') (by rw [hz]; rfl) (by simp only [List.length_append, List.length_cons, List.length_nil]; omega)
      have k1 : ∀ wx, (Op.stringOp .add ⟨#[40, 102, 40, 117, 44, 32, 40]⟩ (bs z)).run Tryd.prog wx = .ok (.string q6) wx := k1
      have k2 : ∀ wx, (Op.stringOp .add q6 ⟨#[41, 41, 41, 94, 52, 59]⟩).run Tryd.prog wx = .ok (.string (bs (r8 x'))) wx := k2
      have hO := HO.out
      rw [← hx'] at hO ⊢
      have A1 := Lib.hid (Pair9.of (same_of_B hO.1.1.1.1.1))
      have A2 := Lib.hid (Pair9.of (notSame_of_B hO.1.1.1.1.2))
      have A3 := Lib.hid (Pair9.of (same_of_B hO.1.1.1.2))
      have A4 := Lib.hid (Pair9.of (same_of_B hO.1.1.2))
      have A5 := Lib.hid (show Pair9 ⟨#[45, 32, 45, 32, 117, 94, 48, 59]⟩ ⟨#[45, 40, 45, 40, 117, 94, 48, 41, 41, 59]⟩ true from Pair9.of (same_of_B hO.1.2))
      have A6 := Lib.hid (Pair9.of (same_of_B hO.2))
      clear hO hx' hz hlx hnx hdx hl0 hL hl1 hl2
      generalize r1 s = y1 at *
      generalize r2 s = y2 at *
      generalize r3 s = y3 at *
      generalize r4 s = y4 at *
      generalize r7 x' = y7 at *
      generalize r8 x' = y8 at *
      generalize rf s t = yf at *
      generalize rs s t = ys at *
      go_region_held3 (fun w' => Below w5.heap.size w5 w')
        (first | assumption | exact (Below.refl _ _).drew | exact keepB (by assumption) (by assumption))
        (first
          | (go_at_call 14; refine alive_c.mono ?_; rintro e w'' ⟨rfl, hk⟩)
          | (go_at_call 19; refine (same_g (by first | exact A1.out | exact A2.out | exact A3.out | exact A4.out | exact A5.out | exact A6.out)).mono ?_; rintro e w'' ⟨rfl, hk⟩))
      all_goals
        rename_i hH
        have K6 := Lib.hid (K5.out.trans (hH.mono K5.out.size))
        clear hH
        go_wp2_with fail
        go_ret
        exact ⟨rfl, X2.out.1.trans (K6.out.mono X2.out.1.size)⟩
theorem ranks_any (w : World) (x : Int) (hx : (Lit.int .u8 x).wf = true) (y : Int) (hy : (Lit.int .u8 y).wf = true) : Calls Tryd.prog 5 #[.int .u8 x, .int .u8 y] w fun e w' => e = .returned (.bool true) ∧ Below w.heap.size w w' := by
  simp [Lit.wf, IntKind.min, IntKind.max, IntKind.signed, IntKind.bits] at hx hy
  obtain ⟨x, rfl⟩ : ∃ k : Nat, x = (k : Int) := ⟨x.toNat, by omega⟩
  obtain ⟨y, rfl⟩ : ∃ k : Nat, y = (k : Int) := ⟨y.toNat, by omega⟩
  exact ranks_law w x y (by omega) (by omega)
end Go.Proofs.YtiefpffccmdcoaaDoor
