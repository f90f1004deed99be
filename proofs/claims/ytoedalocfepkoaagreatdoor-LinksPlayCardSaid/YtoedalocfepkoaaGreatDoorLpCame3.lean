/- Links: Came. -/
import Derived.Test.YtoedalocfepkoaaGreatDoorLpCame2
namespace Go.Li
/-- The number that the first k of the four bytes tell. -/
def pre (b : List UInt8) : Nat → Nat
  | 0 => 0
  | k + 1 => pre b k * 256 + (b[k + 1]?.getD 0).toNat
theorem pre4 (b : List UInt8) : pre b 4 = num b := by simp only [pre, num, Nat.reduceAdd, Nat.zero_mul, Nat.zero_add]; omega
theorem pre_lt (b : List UInt8) (k : Nat) : pre b k < 256 ^ k := by
  induction k with
  | zero => exact Nat.one_pos
  | succ k ih =>
    have := (b[k + 1]?.getD 0).toNat_lt
    simp only [pre, Nat.pow_succ]
    omega
end Go.Li
namespace Go.Proofs.YtoedalocfepkoaaGreatDoor
open Go.RowKit Go.My

theorem or_step (a : Nat) (ha : a < 16777216) (x : UInt8) : bits BinOp.or IntKind.u32 ((a : Int) * 256 % 4294967296) (x.toNat : Int) = ((a * 256 + x.toNat : Nat) : Int) := by
  have hx := x.toNat_lt
  have e : (a : Int) * 256 % 4294967296 = ((a * 256 : Nat) : Int) := by omega
  rw [e, u32_or_nat _ _ (by omega) (by omega)]
  congr 1
  have := Nat.shiftLeft_add_eq_or_of_lt (i := 8) (b := x.toNat) (by omega) a
  rw [Nat.shiftLeft_eq] at this
  exact this.symm

theorem pre_lt3 (b : List UInt8) (k : Nat) (hk : k < 4) : Li.pre b k < 16777216 := by
  have := Li.pre_lt b k
  have h2 : 256 ^ k ≤ 256 ^ 3 := Nat.pow_le_pow_right (by decide) (by omega)
  have h3 : (256 : Nat) ^ 3 = 16777216 := by decide
  omega

/-- What Came says. -/
def CameSaid (w : World) (g : Tags) (t eb tl a0 : Nat) (r : List (List UInt8) × Nat × Li.St) (q : Nat) (e : Ending) (w' : World) : Prop :=
  ∃ ao cap g', e = .returned (.tuple #[.slice ao r.1.length cap, .int .i64 (r.2.1 : Int)]) ∧ Lists w' g' tl (tt t a0) (.slice ao r.1.length cap) r.1 ∧ EndIs w' g' t eb r.2.2 q ∧ Turn w g w' g' [t, t + 1, t + 2, tl]

theorem EndIs.mono {w : World} {g : Tags} {t eb : Nat} {s : Li.St} {q q' : Nat} (h : EndIs w g t eb s q) (hq : q ≤ q') : EndIs w g t eb s q' := by
  obtain ⟨wv, mb, f, h⟩ := h
  exact ⟨wv, mb, f, h.mono hq⟩

theorem EndIs.map {w : World} {g : Tags} {t eb : Nat} {s : Li.St} {q : Nat} (h : EndIs w g t eb s q) : ∃ mb, w.cell? ⟨eb, 3, none⟩ = some (.map (some mb)) := by
  obtain ⟨wv, mb, f, h⟩ := h
  exact ⟨mb, h.cell.2.2.2.1⟩

theorem said_form {w : World} {g : Tags} {t eb tl : Nat} {s : Li.St} {q : Nat} {b : List UInt8} (h : EndIs w g t eb s q) (hc : Li.came s b = ([], 4, s)) : CameSaid w g t eb tl s.awaited (Li.came s b) (q + 1) (.returned (.tuple #[.slice none 0 0, .int .i64 4])) w := by
  rw [hc]
  exact ⟨none, 0, g, rfl, Lists.nil _ _ _ _, h.mono (Nat.le_succ q), Turn.refl _ _ _⟩

theorem came_other {s : Li.St} {b : List UInt8} (h1 : ¬ (b.length < 5 ∨ 65541 < b.length)) (h2 : b[0]?.getD 0 ≠ 68) (h3 : ¬ (b[0]?.getD 0 = 65 ∧ b.length = 5)) : Li.came s b = ([], 4, s) := by
  unfold Li.came
  rw [if_neg h1, if_neg h2, if_neg h3]

theorem said_data {w w' : World} {g : Tags} {t eb tl : Nat} {s : Li.St} {q : Nat} {b : List UInt8} {e : Ending} (h1 : ¬ (b.length < 5 ∨ 65541 < b.length)) (h2 : b[0]?.getD 0 = 68) (h : TookSaid w g t eb tl s.awaited (Li.take s (Li.num b) (b.drop 5)) (q + 1) e w') :
    ∃ ao cap, e = .returned (.slice ao (Li.take s (Li.num b) (b.drop 5)).1.length cap) ∧ CameSaid w g t eb tl s.awaited (Li.came s b) (q + 1) (.returned (.tuple #[.slice ao (Li.take s (Li.num b) (b.drop 5)).1.length cap, .int .i64 0])) w' := by
  have e : Li.came s b = ((Li.take s (Li.num b) (b.drop 5)).1, 0, (Li.take s (Li.num b) (b.drop 5)).2) := by unfold Li.came; rw [if_neg h1, if_pos h2]
  obtain ⟨ao, cap, g', h1, h2, h3, h4⟩ := h
  refine ⟨ao, cap, h1, ?_⟩
  rw [e]
  exact ⟨ao, cap, g', rfl, h2, h3, h4⟩

theorem said_known {w w' : World} {g g' : Tags} {t eb tl : Nat} {s : Li.St} {q : Nat} {b : List UInt8} (h1 : ¬ (b.length < 5 ∨ 65541 < b.length)) (h2 : b[0]?.getD 0 = 65) (h3 : b.length = 5) (hT : Turn w g w' g' [t, t + 1, t + 2]) (h : EndIs w' g' t eb (Li.known s (Li.num b)) q) :
    CameSaid w g t eb tl s.awaited (Li.came s b) (q + 1) (.returned (.tuple #[.slice none 0 0, .int .i64 0])) w' := by
  have e : Li.came s b = ([], 0, Li.known s (Li.num b)) := by unfold Li.came; rw [if_neg h1, if_neg (by rw [h2]; decide), if_pos ⟨h2, h3⟩]
  rw [e]
  exact ⟨none, 0, g', rfl, Lists.nil _ _ _ _, h.mono (Nat.le_succ q), hT.mono (by simp)⟩

set_option maxHeartbeats 1000000 in
theorem came_out {w : World} {g : Tags} {t eb : Nat} {s : Li.St} {q : Nat} (tl : Nat) (hE : EndIs w g t eb s q) {tv : Nat} {v : Value} {b : List UInt8} (hv : Bytes w g tv v b) (hb : b.length < 5 ∨ 65541 < b.length) :
    Calls Tryz.prog 14 #[.pointer (some ⟨eb, 0, none⟩), v] w (CameSaid w g t eb tl s.awaited (Li.came s b) (q + 1)) := by
  have HC := Lib.hid (said_form (tl := tl) hE (show Li.came s b = ([], 4, s) by unfold Li.came; rw [if_pos hb]))
  obtain ⟨mb, k3⟩ := hE.map
  obtain ⟨ao, cap, e, _, hm, _⟩ := BytesIn.open_ hv
  subst e
  have h2 : (b.length : Int) ≤ 9223372036854775807 := by unfold maxLen at hm; omega
  clear hE hv hm
  rcases hb with hb | hb
  · have h1 : (b.length : Int) < 5 := by omega
    clear hb
    go_enter Tryz.func14, Tryz.ntmps14
    go_wp2_with fail
    refine there_t k3 ?_
    go_wp2_with fail
    go_ret2
    exact HC.out
  · have h1 : (65541 : Int) < (b.length : Int) := by omega
    clear hb
    go_enter Tryz.func14, Tryz.ntmps14
    go_wp2_with fail
    refine there_t k3 ?_
    go_wp2_with fail
    go_ret2
    exact HC.out

def NumAt (b : List UInt8) (w : World) (gk : Nat) (vn vi : Value) (wr : World) : Prop := ∃ k : Nat, k ≤ 4 ∧ gk = 4 - k ∧ vi = .int .i64 (k : Int) ∧ vn = .int .u32 (Li.pre b k : Int) ∧ wr = w

set_option maxHeartbeats 2000000 in
theorem came_in {w : World} {g : Tags} {t eb : Nat} {s : Li.St} {q : Nat} (tl : Nat) (hE : EndIs w g t eb s q) {tv : Nat} {v : Value} {b : List UInt8} (hv : Bytes w g tv v b) (hb1 : 5 ≤ b.length) (hb2 : b.length ≤ 65541) (hq : q < 1000000000) (htv : tv < t) (htl : tl < t) :
    Calls Tryz.prog 14 #[.pointer (some ⟨eb, 0, none⟩), v] w (CameSaid w g t eb tl s.awaited (Li.came s b) (q + 1)) := by
  have hno : ¬ (b.length < 5 ∨ 65541 < b.length) := by omega
  have h1 : (5 : Int) ≤ (b.length : Int) := by omega
  have h2 : (b.length : Int) ≤ 65541 := by omega
  obtain ⟨mb, k3⟩ := hE.map
  obtain ⟨ao, cap, e, hc1, hm, _, _⟩ := BytesIn.open_ hv
  subst e
  obtain ⟨bb, off, e, _, hc⟩ := BytesIn.cells (h := hv) (by omega)
  subst e
  obtain ⟨ad, hsl, hs1, _⟩ := slice_lh (P := Tryz.prog) Tryz.underlying42 (by kernel_rfl) (some ⟨bb, off, none⟩) b.length cap 1 5 1 5 rfl rfl (by omega) (by omega)
  obtain rfl : ad = some ⟨bb, off + 1, none⟩ := by rw [hs1 (by omega), Option.map_some, add_none]
  obtain ⟨ad5, hsl5, hs5, hs6⟩ := slice_lk (P := Tryz.prog) Tryz.underlying42 (by kernel_rfl) .i64 (some ⟨bb, off, none⟩) b.length cap 5 5 rfl hb1
  obtain ⟨a5, rfl⟩ : ∃ a5, ad5 = some a5 := by
    rcases Nat.lt_or_ge 5 cap with h | h
    · exact ⟨_, by rw [hs5 h, Option.map_some]⟩
    · exact ⟨_, hs6 (by omega)⟩
  have hpc := Bytes.cut hv 5 b.length (cap - 5) hb1 (Nat.le_refl _) (ad := a5) ⟨by omega, by omega⟩ (fun h => by have := hs5 (by omega); rw [Option.map_some, add_none] at this; exact Option.some.inj this)
  rw [List.take_of_length_le (by rw [List.length_drop]; exact Nat.le_refl _)] at hpc
  have HP := Lib.hid hpc
  have HE := Lib.hid hE
  have HC := Lib.hid hc
  have HN := Lib.hid hno
  have c0 := hc 0 (by omega)
  rw [Nat.add_zero] at c0
  have hb0 : b[0]?.getD 0 = b[0] := by rw [List.getElem?_eq_getElem (by omega)]; rfl
  have HB0 := Lib.hid hb0
  clear hs1 hs5 hs6 hpc hE hc hno hv hb0
  go_enter Tryz.func14, Tryz.ntmps14
  go_wp2_with fail
  refine there_t k3 ?_
  go_wp2_with fail
  go_loopg [6, 23] 4 (fun gk vn vi wr => NumAt b w gk vn vi wr)
  case atStart => exact ⟨0, by omega, rfl, rfl, rfl, rfl⟩
  case round =>
    obtain ⟨k, hk, rfl, rfl, rfl, rfl⟩ := hrel
    by_cases hlt4 : k < 4
    · have hcell := HC.out (k + 1) (by omega)
      rw [show off + (k + 1) = off + 1 + k by omega] at hcell
      have hs := or_step (Li.pre b k) (pre_lt3 b k hlt4) b[k + 1]
      have hpre : Li.pre b (k + 1) = Li.pre b k * 256 + (b[k + 1]).toNat := by simp only [Li.pre]; rw [List.getElem?_eq_getElem (by omega)]; rfl
      rw [← hpre] at hs
      have HS := Lib.hid hs
      clear hs hpre c0
      have hx := (b[k + 1]).toNat_lt
      generalize b[k + 1] = x at *
      obtain ⟨p0, hp0⟩ : ∃ p0, p0 = Li.pre b k := ⟨_, rfl⟩
      rw [← hp0] at HS ⊢
      clear hp0
      have i1 : (k : Int) < 4 := by omega
      go_wp2_with fail
      go_roundg (4 - (k + 1))
      case measure => omega
      case rel => exact ⟨k + 1, by omega, rfl, by go_num, by rw [HS.out], rfl⟩
    · obtain rfl : k = 4 := by omega
      have hnum : (Li.pre b 4) = Li.num b := Li.pre4 b
      rw [hnum]
      obtain ⟨nn, hnn⟩ : ∃ nn, nn = Li.num b := ⟨_, rfl⟩
      have hnl := Li.num_lt b
      rw [← hnn] at hnl ⊢
      have HNN := Lib.hid hnn
      have HB : Hid ((b[0]).toNat = (b[0]?.getD 0).toNat) := Lib.hid (by rw [HB0.out])
      have hx0 := (b[0]).toNat_lt
      generalize (b[0]).toNat = x0 at *
      clear hnum hnn HC HB0
      by_cases hD : x0 = 68
      · have hD1 : (x0 : Int) = 68 := by omega
        have HD := Lib.hid (show b[0]?.getD 0 = 68 from UInt8.toNat_inj.1 (by rw [← HB.out, hD]; rfl))
        clear hD
        go_wp2_with fail
        refine (take_t tl HE.out nn hnl HP.out (by rw [List.length_drop]; omega) hq htv htl).mono ?_
        intro e w' hS
        rw [HNN.out] at hS
        obtain ⟨ao, co, rfl, hS2⟩ := said_data HN.out HD.out hS
        have HS := Lib.hid hS2
        clear hS hS2
        go_wp2_with fail
        go_ret2
        exact HS.out
      · by_cases hA : x0 = 65 ∧ b.length = 5
        · have hD1 : (x0 : Int) = 65 := by omega
          have hD2 : (b.length : Int) = 5 := by omega
          have HD := Lib.hid (show b[0]?.getD 0 = 65 from UInt8.toNat_inj.1 (by rw [← HB.out, hA.1]; rfl))
          have HL := Lib.hid hA.2
          clear hD hA
          go_wp2_with fail
          refine known_t HE.out nn hnl fun w' g' T1 E1 => ?_
          rw [HNN.out] at E1
          have HS := Lib.hid (said_known (tl := tl) HN.out HD.out HL.out T1 E1)
          clear T1 E1
          go_wp2_with fail
          go_ret2
          exact HS.out
        · have HS := Lib.hid (said_form (tl := tl) HE.out (came_other HN.out (fun h => hD (by rw [HB.out, h]; rfl)) (fun h => hA ⟨by rw [HB.out, h.1]; rfl, h.2⟩)))
          by_cases hA1 : x0 = 65
          · have hD1 : (x0 : Int) = 65 := by omega
            have hD2 : (5 : Int) < (b.length : Int) := by omega
            clear hD hA hA1
            go_wp2_with fail
            go_ret2
            exact HS.out
          · have hD1 : ((x0 : Int) == 68) = false := by simp; omega
            have hD2 : ((x0 : Int) == 65) = false := by simp; omega
            clear hD hA hA1
            go_wp2_with fail
            go_ret2
            exact HS.out

theorem came_t {w : World} {g : Tags} {t eb : Nat} {s : Li.St} {q : Nat} (tl : Nat) (hE : EndIs w g t eb s q) {tv : Nat} {v : Value} {b : List UInt8} (hv : Bytes w g tv v b) (hq : q < 1000000000) (htv : tv < t) (htl : tl < t) :
    Calls Tryz.prog 14 #[.pointer (some ⟨eb, 0, none⟩), v] w (CameSaid w g t eb tl s.awaited (Li.came s b) (q + 1)) := by
  by_cases h : b.length < 5 ∨ 65541 < b.length
  · exact came_out tl hE hv h
  · exact came_in tl hE hv (by omega) (by omega) hq htv htl
end Go.Proofs.YtoedalocfepkoaaGreatDoor
