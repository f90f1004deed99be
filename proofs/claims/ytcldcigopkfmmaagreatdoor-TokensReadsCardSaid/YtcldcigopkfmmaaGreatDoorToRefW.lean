/- Tokens: the reference's words and names; the walk of TokensNames. -/
import Derived.Test.YtcldcigopkfmmaaGreatDoorToSil
namespace Go.To
theorem word_zero (l : List UInt8) (h : l = [] ∨ ∃ c r, l = c :: r ∧ isL c = false) : word l = 0 := by
  rcases h with rfl | ⟨c, r, rfl, h⟩
  · rfl
  · unfold word; rw [if_pos]; unfold run; rw [if_neg (by simp [h])]
theorem word_one (c : UInt8) (r : List UInt8) (h : isL c = true) : word (c :: r) = 1 + run isW r := by
  have hw : isW c = true := by unfold isW; rw [h]; rfl
  unfold word
  rw [if_neg (by unfold run; rw [if_pos h]; omega)]
  conv => lhs; unfold run
  rw [if_pos hw]; omega
theorem run_cons (p : UInt8 → Bool) (c : UInt8) (r : List UInt8) : run p (c :: r) = if p c then run p r + 1 else 0 := rfl
end Go.To
namespace Go.Proofs.YtcldcigopkfmmaaGreatDoor
open Go.RowKit Go.My

theorem isL_of (c : UInt8) : (97 ≤ c.toNat ∧ c.toNat ≤ 122 → To.isL c = true) ∧ (65 ≤ c.toNat ∧ c.toNat ≤ 90 → To.isL c = true) ∧ (c.toNat < 65 → To.isL c = false) ∧ (90 < c.toNat ∧ c.toNat < 97 → To.isL c = false) ∧ (122 < c.toNat → To.isL c = false) := by
  unfold To.isL
  simp
  omega

set_option maxHeartbeats 1000000 in
theorem letter_t {w : World} (c : UInt8) {ci : Int} (hci : ci = (c.toNat : Int)) {Q : Ending → World → Prop} (h : Q (.returned (.bool (To.isL c))) w) : Calls Tryz.prog 69 #[.int .u8 ci] w Q := by
  subst hci
  have H := Lib.hid h
  obtain ⟨l1, l2, l3, l4, l5⟩ := isL_of c
  have hx := c.toNat_lt
  clear h
  by_cases h1 : c.toNat < 65
  · rw [l3 h1] at H
    generalize c.toNat = x at *
    have j1 : (x : Int) < 65 := by omega
    have j2 : (x : Int) < 97 := by omega
    clear l1 l2 l3 l4 l5 h1 hx
    go_enter Tryz.func69, Tryz.ntmps69
    go_wp2_with fail
    exact H.out
  by_cases h2 : c.toNat ≤ 90
  · rw [l2 ⟨by omega, h2⟩] at H
    generalize c.toNat = x at *
    have j1 : (65 : Int) ≤ (x : Int) := by omega
    have j2 : (x : Int) ≤ 90 := by omega
    have j3 : (x : Int) < 97 := by omega
    clear l1 l2 l3 l4 l5 h1 hx h2
    go_enter Tryz.func69, Tryz.ntmps69
    go_wp2_with fail
    exact H.out
  by_cases h3 : c.toNat < 97
  · rw [l4 ⟨by omega, h3⟩] at H
    generalize c.toNat = x at *
    have j1 : (90 : Int) < (x : Int) := by omega
    have j2 : (65 : Int) ≤ (x : Int) := by omega
    have j3 : (x : Int) < 97 := by omega
    have d1 : decide ((x : Int) ≤ 90) = false := by simp; omega
    clear l1 l2 l3 l4 l5 h1 hx h2 h3
    go_enter Tryz.func69, Tryz.ntmps69
    go_wp2_with fail
    exact H.out
  by_cases h4 : c.toNat ≤ 122
  · rw [l1 ⟨by omega, h4⟩] at H
    generalize c.toNat = x at *
    have j1 : (97 : Int) ≤ (x : Int) := by omega
    have j2 : (x : Int) ≤ 122 := by omega
    clear l1 l2 l3 l4 l5 h1 hx h2 h3 h4
    go_enter Tryz.func69, Tryz.ntmps69
    go_wp2_with fail
    exact H.out
  · rw [l5 (by omega)] at H
    generalize c.toNat = x at *
    have j1 : (122 : Int) < (x : Int) := by omega
    have j2 : (97 : Int) ≤ (x : Int) := by omega
    have j3 : (90 : Int) < (x : Int) := by omega
    have j4 : (65 : Int) ≤ (x : Int) := by omega
    have d1 : decide ((x : Int) ≤ 90) = false := by simp; omega
    have d2 : decide ((x : Int) ≤ 122) = false := by simp; omega
    clear l1 l2 l3 l4 l5 h1 hx h2 h3 h4
    go_enter Tryz.func69, Tryz.ntmps69
    go_wp2_with fail
    exact H.out

theorem isD_of (c : UInt8) : (48 ≤ c.toNat ∧ c.toNat ≤ 57 → To.isD c = true) ∧ (c.toNat < 48 → To.isD c = false) ∧ (57 < c.toNat → To.isD c = false) := by
  unfold To.isD
  simp
  omega

set_option maxHeartbeats 1000000 in
theorem digit_t {w : World} (c : UInt8) {ci : Int} (hci : ci = (c.toNat : Int)) {Q : Ending → World → Prop} (h : Q (.returned (.bool (To.isD c))) w) : Calls Tryz.prog 70 #[.int .u8 ci] w Q := by
  subst hci
  have H := Lib.hid h
  obtain ⟨l1, l2, l3⟩ := isD_of c
  have hx := c.toNat_lt
  clear h
  by_cases h1 : c.toNat < 48
  · rw [l2 h1] at H
    generalize c.toNat = x at *
    have j1 : (x : Int) < 48 := by omega
    clear l1 l2 l3 h1 hx
    go_enter Tryz.func70, Tryz.ntmps70
    go_wp2_with fail
    exact H.out
  by_cases h2 : c.toNat ≤ 57
  · rw [l1 ⟨by omega, h2⟩] at H
    generalize c.toNat = x at *
    have j1 : (48 : Int) ≤ (x : Int) := by omega
    have j2 : (x : Int) ≤ 57 := by omega
    clear l1 l2 l3 h1 hx h2
    go_enter Tryz.func70, Tryz.ntmps70
    go_wp2_with fail
    exact H.out
  · rw [l3 (by omega)] at H
    generalize c.toNat = x at *
    have j1 : (48 : Int) ≤ (x : Int) := by omega
    have j2 : (57 : Int) < (x : Int) := by omega
    have d1 : decide ((x : Int) ≤ 57) = false := by simp; omega
    clear l1 l2 l3 h1 hx h2
    go_enter Tryz.func70, Tryz.ntmps70
    go_wp2_with fail
    exact H.out

def WordAt (w : World) (l : List UInt8) (gk : Nat) (vn : Value) (wr : World) : Prop :=
  ∃ n : Nat, n ≤ l.length ∧ gk = l.length - n ∧ vn = .int .i64 (n : Int) ∧ (n = 0 ∨ To.word l = n + To.run To.isW (l.drop n)) ∧ w = wr

theorem word_step {l : List UInt8} {n : Nat} {c : UInt8} {r : List UInt8} (h : n = 0 ∨ To.word l = n + To.run To.isW (l.drop n)) (hd : l.drop n = c :: r) (hc : To.isL c = true ∨ (0 < n ∧ To.isW c = true)) : To.word l = (n + 1) + To.run To.isW (l.drop (n + 1)) := by
  have hr : l.drop (n + 1) = r := by rw [← List.drop_drop, hd]; rfl
  rw [hr]
  rcases Nat.eq_zero_or_pos n with h0 | h0
  · subst h0
    rcases hc with hc | hc
    · rw [List.drop_zero] at hd; rw [hd, To.word_one c r hc]
    · omega
  · have hw : To.isW c = true := by
      rcases hc with hc | hc
      · unfold To.isW; rw [hc]; rfl
      · exact hc.2
    rcases h with h | h
    · omega
    · rw [h, hd, To.run_cons, if_pos hw]; omega
theorem word_done {l : List UInt8} {n : Nat} (h : n = 0 ∨ To.word l = n + To.run To.isW (l.drop n)) (hd : l.drop n = [] ∨ ∃ c r, l.drop n = c :: r ∧ To.isL c = false ∧ (n = 0 ∨ To.isW c = false)) : To.word l = n := by
  rcases Nat.eq_zero_or_pos n with h0 | h0
  · subst h0
    rw [List.drop_zero] at hd
    refine To.word_zero l ?_
    rcases hd with hd | ⟨c, r, h1, h2, _⟩
    · exact .inl hd
    · exact .inr ⟨c, r, h1, h2⟩
  · rcases h with h | h
    · omega
    · rw [h]
      rcases hd with hd | ⟨c, r, h1, h2, h3⟩
      · rw [hd]; rfl
      · rw [h1, To.run_cons, if_neg (by rcases h3 with h3 | h3; omega; simp [h3])]; rfl

set_option maxHeartbeats 4000000 in
theorem refword_t {w : World} (l : List UInt8) (hl : l.length ≤ 9223372036854775807) {Q : Ending → World → Prop} (h : Q (.returned (.int .i64 (To.word l : Nat))) w) :
    Calls Tryz.prog 16 #[.string (bs l)] w Q := by
  have H := Lib.hid h
  have hs0 := bs_size l
  have hl1 : (l.length : Int) ≤ 9223372036854775807 := by omega
  clear h
  go_enter Tryz.func16, Tryz.ntmps16
  go_wp2_with fail
  go_loopg [3] l.length (fun gk vn wr => WordAt w l gk vn wr)
  case atStart => exact ⟨0, Nat.zero_le _, rfl, rfl, .inl rfl, rfl⟩
  case round =>
    obtain ⟨n, hn, rfl, rfl, hw, rfl⟩ := hrel
    have HW := Lib.hid hw
    have n0 : (0 : Int) ≤ (n : Int) := by omega
    clear hw
    by_cases hlt : n < l.length
    · have hei : (n : Int) < (l.length : Int) := by omega
      have hix := ix_s l .i64 n (z := (n : Int)) rfl hlt
      have hd := List.drop_eq_getElem_cons hlt
      generalize l[n] = c at *
      have HD := Lib.hid hd
      clear hd
      cases hL : To.isL c with
      | true =>
        have X := Lib.hid (word_step HW.out HD.out (.inl hL))
        have HL := Lib.hid hL
        clear hL
        go_wp2_with fail
        refine letter_t c rfl ?_
        rw [HL.out]
        go_wp2_with fail
        go_roundg (l.length - (n + 1))
        case measure => omega
        case rel => exact ⟨n + 1, hlt, rfl, by go_num, .inr X.out, rfl⟩
      | false =>
        by_cases hz : n = 0
        · have X := Lib.hid (word_done HW.out (.inr ⟨c, _, HD.out, hL, .inl hz⟩))
          have HL := Lib.hid hL
          have hz1 : (n : Int) ≤ 0 := by omega
          clear hL hz
          go_wp2_with fail
          refine letter_t c rfl ?_
          rw [HL.out]
          have h2 := Lib.hid H.out
          rw [X.out] at h2
          go_wp2_with fail
          exact h2.out
        · have hz1 : (0 : Int) < (n : Int) := by omega
          have hz2 : 0 < n := by omega
          clear hz
          cases hD : To.isD c with
          | true =>
            have X := Lib.hid (word_step HW.out HD.out (.inr ⟨hz2, by unfold To.isW; rw [hL, hD]; rfl⟩))
            have HL := Lib.hid (And.intro hL hD)
            clear hL hD
            go_wp2_with fail
            refine letter_t c rfl ?_
            rw [HL.out.1]
            go_wp2_with fail
            refine digit_t c rfl ?_
            rw [HL.out.2]
            go_wp2_with fail
            go_roundg (l.length - (n + 1))
            case measure => omega
            case rel => exact ⟨n + 1, hlt, rfl, by go_num, .inr X.out, rfl⟩
          | false =>
            by_cases h95 : c.toNat = 95
            · have X := Lib.hid (word_step HW.out HD.out (.inr ⟨hz2, by unfold To.isW; rw [hL, hD, h95]; rfl⟩))
              have HL := Lib.hid (And.intro hL hD)
              have h951 : (c.toNat : Int) = 95 := by omega
              clear hL hD h95
              go_wp2_with fail
              refine letter_t c h951.symm ?_
              rw [HL.out.1]
              go_wp2_with fail
              refine digit_t c h951.symm ?_
              rw [HL.out.2]
              go_wp2_with fail
              go_roundg (l.length - (n + 1))
              case measure => omega
              case rel => exact ⟨n + 1, hlt, rfl, by go_num, .inr X.out, rfl⟩
            · have X := Lib.hid (word_done HW.out (.inr ⟨c, _, HD.out, hL, .inr (by unfold To.isW; rw [hL, hD]; simp [h95])⟩))
              have HL := Lib.hid (And.intro hL hD)
              have h951 : ((c.toNat : Int) == 95) = false := by simp; omega
              clear hL hD h95
              go_wp2_with fail
              refine letter_t c rfl ?_
              rw [HL.out.1]
              go_wp2_with fail
              refine digit_t c rfl ?_
              rw [HL.out.2]
              have h2 := Lib.hid H.out
              rw [X.out] at h2
              go_wp2_with fail
              exact h2.out
    · obtain rfl : n = l.length := by omega
      have X := Lib.hid (word_done HW.out (.inl (List.drop_length)))
      have h2 := Lib.hid H.out
      rw [X.out] at h2
      go_wp2_with fail
      exact h2.out
end Go.Proofs.YtcldcigopkfmmaaGreatDoor
