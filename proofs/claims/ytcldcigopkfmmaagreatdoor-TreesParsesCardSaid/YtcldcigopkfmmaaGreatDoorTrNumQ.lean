/- Tokens, as the document has them: numbers, what says nothing. -/
import Derived.Test.YtcldcigopkfmmaaGreatDoorTrD2
namespace Go.To
theorem sil_true_cons (c : UInt8) (l : List UInt8) : sil true (c :: l) = if c.toNat = 10 then sil false l + 1 else sil true l + 1 := rfl
theorem sil_false_cons (c : UInt8) (l : List UInt8) : sil false (c :: l) = if isB c then sil false l + 1 else if c.toNat = 35 then sil true l + 1 else 0 := rfl
end Go.To
namespace Go.Proofs.YtcldcigopkfmmaaGreatDoor
open Go.RowKit Go.My

def NumberAt (w : World) (l : List UInt8) (gk : Nat) (vn : Value) (wr : World) : Prop :=
  ∃ n : Nat, n ≤ l.length ∧ gk = l.length - n ∧ vn = .int .i64 (n : Int) ∧ To.number l = n + To.run To.isD (l.drop n) ∧ w = wr

set_option maxHeartbeats 4000000 in
theorem refnumber_t {w : World} (l : List UInt8) (hl : l.length ≤ 9223372036854775807) {Q : Ending → World → Prop} (h : Q (.returned (.int .i64 (To.number l : Nat))) w) :
    Calls Tryz.prog 17 #[.string (bs l)] w Q := by
  have H := Lib.hid h
  have hs0 := bs_size l
  have hl1 : (l.length : Int) ≤ 9223372036854775807 := by omega
  clear h
  go_enter Tryz.func17, Tryz.ntmps17
  go_wp2_with fail
  go_loopg [3] l.length (fun gk vn wr => NumberAt w l gk vn wr)
  case atStart => exact ⟨0, Nat.zero_le _, rfl, rfl, by rw [List.drop_zero, Nat.zero_add]; rfl, rfl⟩
  case round =>
    obtain ⟨n, hn, rfl, rfl, hw, rfl⟩ := hrel
    have HW := Lib.hid hw
    have n0 : (0 : Int) ≤ (n : Int) := by omega
    clear hw
    by_cases hlt : n < l.length
    · have hei : (n : Int) < (l.length : Int) := by omega
      have hix := ix_s l .i64 n (z := (n : Int)) rfl hlt
      have hd := List.drop_eq_getElem_cons hlt
      generalize l[n] = c at *
      have HD := Lib.hid hd
      clear hd
      cases hL : To.isD c with
      | true =>
        have X := Lib.hid (show To.number l = (n + 1) + To.run To.isD (l.drop (n + 1)) by rw [HW.out, HD.out, To.run_cons, if_pos hL]; omega)
        have HL := Lib.hid hL
        clear hL
        go_wp2_with fail
        refine digit_t c rfl ?_
        rw [HL.out]
        go_wp2_with fail
        go_roundg (l.length - (n + 1))
        case measure => omega
        case rel => exact ⟨n + 1, hlt, rfl, by go_num, X.out, rfl⟩
      | false =>
        have X := Lib.hid (show To.number l = n by rw [HW.out, HD.out, To.run_cons, if_neg (by simp [hL])]; rfl)
        have HL := Lib.hid hL
        clear hL
        go_wp2_with fail
        refine digit_t c rfl ?_
        rw [HL.out]
        have h2 := Lib.hid H.out
        rw [X.out] at h2
        go_wp2_with fail
        exact h2.out
    · have hie : n = l.length := by omega
      have hei : (l.length : Int) ≤ (n : Int) := by omega
      have X := Lib.hid (show To.number l = n by rw [HW.out, hie, List.drop_length]; rfl)
      have h2 := Lib.hid H.out
      rw [X.out] at h2
      clear hlt hie hn
      go_wp2_with fail
      exact h2.out

def SkipAt (w : World) (l : List UInt8) (r : Nat) (gk : Nat) (vn : Value) (wr : World) : Prop :=
  ∃ a : Nat, a ≤ l.length ∧ gk = l.length - a ∧ vn = .int .i64 (a : Int) ∧ r = a + To.sil false (l.drop a) ∧ w = wr
def SkipIn (w : World) (l : List UInt8) (r a0 : Nat) (gk : Nat) (vn : Value) (wr : World) : Prop :=
  ∃ a : Nat, a ≤ l.length ∧ gk = l.length - a ∧ vn = .int .i64 (a : Int) ∧ r = a + To.sil true (l.drop a) ∧ a0 ≤ a ∧ w = wr

set_option maxRecDepth 100000 in
set_option maxHeartbeats 4000000 in
theorem refskip_t {w : World} (l : List UInt8) (at0 : Nat) (hat : at0 ≤ l.length) (hl : l.length ≤ 9223372036854775807) {Q : Ending → World → Prop} (h : Q (.returned (.int .i64 ((at0 + To.sil false (l.drop at0) : Nat) : Int))) w) :
    Calls Tryz.prog 15 #[.string (bs l), .int .i64 (at0 : Int)] w Q := by
  obtain ⟨r, hr⟩ : ∃ r, r = at0 + To.sil false (l.drop at0) := ⟨_, rfl⟩
  rw [← hr] at h
  have H := Lib.hid h
  have HR := Lib.hid hr
  have hs0 := bs_size l
  have hl1 : (l.length : Int) ≤ 9223372036854775807 := by omega
  have a0 : (0 : Int) ≤ (at0 : Int) := by omega
  clear h hr
  go_enter Tryz.func15, Tryz.ntmps15
  go_wp2_with fail
  go_loopg [1] (l.length - at0) (fun gk vn wr => SkipAt w l r gk vn wr)
  case atStart => exact ⟨at0, hat, rfl, rfl, HR.out, rfl⟩
  case round =>
    obtain ⟨a, ha, rfl, rfl, hw, rfl⟩ := hrel
    have HW := Lib.hid hw
    have n0 : (0 : Int) ≤ (a : Int) := by omega
    clear hw a0 hat
    by_cases hlt : a < l.length
    · have hei : (a : Int) < (l.length : Int) := by omega
      have hix := ix_s l .i64 a (z := (a : Int)) rfl hlt
      have hd := List.drop_eq_getElem_cons hlt
      obtain ⟨c, hc⟩ : ∃ c, c = l[a] := ⟨_, rfl⟩
      rw [← hc] at hix hd
      have HD := Lib.hid hd
      have hx := c.toNat_lt
      have HC := Lib.hid (show To.isB c = (c.toNat == 32 || c.toNat == 9 || c.toNat == 10 || c.toNat == 13) from rfl)
      clear hd
      by_cases h35 : c.toNat = 35
      · have HX := Lib.hid (show r = a + To.sil true (l.drop a) by
          rw [HW.out, HD.out, To.sil_false_cons, if_neg (by rw [HC.out, h35]; decide), if_pos h35, To.sil_true_cons, if_neg (by omega)])
        have h35i : (c.toNat : Int) = 35 := by omega
        have HCC := Lib.hid (And.intro hc h35)
        clear hc h35 HC
        go_wp2_with fail
        go_loopg [1] (l.length - a) (fun gk vn wr => SkipIn w l r a gk vn wr)
        case atStart => exact ⟨a, ha, rfl, rfl, HX.out, Nat.le_refl _, rfl⟩
        case round =>
          obtain ⟨b, hb, rfl, rfl, hw2, hab, rfl⟩ := hrel
          have HW2 := Lib.hid hw2
          have b0 : (0 : Int) ≤ (b : Int) := by omega
          clear hw2 h35i hix
          by_cases hlt2 : b < l.length
          · have hei2 : (b : Int) < (l.length : Int) := by omega
            have hix := ix_s l .i64 b (z := (b : Int)) rfl hlt2
            have hd := List.drop_eq_getElem_cons hlt2
            obtain ⟨d, hdd⟩ : ∃ d, d = l[b] := ⟨_, rfl⟩
            rw [← hdd] at hix hd
            have HD2 := Lib.hid hd
            have hx2 := d.toNat_lt
            clear hd
            by_cases h10 : d.toNat = 10
            · have h10i : (d.toNat : Int) = 10 := by omega
              have HBB := Lib.hid (show a < b by
                rcases Nat.lt_or_ge a b with h | h
                · exact h
                · obtain rfl : a = b := by omega
                  have := HCC.out; rw [hdd, ← this.1] at h10; omega)
              have HN := Lib.hid (show r = b + To.sil false (l.drop b) by
                rw [HW2.out, HD2.out, To.sil_true_cons, if_pos h10, To.sil_false_cons, if_pos (show To.isB d = true by unfold To.isB; rw [h10]; decide)])
              clear h10 hdd
              go_wp2_with fail
              go_roundg (l.length - b)
              case measure => have := HBB.out; omega
              case rel => exact ⟨b, hb, rfl, rfl, HN.out, rfl⟩
            · have h10i : ((d.toNat : Int) != 10) = true := by simp; omega
              have HN := Lib.hid (show r = (b + 1) + To.sil true (l.drop (b + 1)) by rw [HW2.out, HD2.out, To.sil_true_cons, if_neg h10]; omega)
              clear h10 hdd
              go_wp2_with fail
              go_roundg (l.length - (b + 1))
              case measure => omega
              case rel => exact ⟨b + 1, hlt2, rfl, by go_num, HN.out, by omega, rfl⟩
          · have hbe : b = l.length := by omega
            have hei2 : (l.length : Int) ≤ (b : Int) := by omega
            have HN := Lib.hid (show r = b + To.sil false (l.drop b) by rw [HW2.out, hbe, List.drop_length]; rfl)
            clear hlt2
            go_wp2_with fail
            go_roundg (l.length - b)
            case measure => omega
            case rel => exact ⟨b, hb, rfl, rfl, HN.out, rfl⟩
      · have h35i : ((c.toNat : Int) == 35) = false := by simp; omega
        cases hB : To.isB c with
        | true =>
          have HX := Lib.hid (show r = (a + 1) + To.sil false (l.drop (a + 1)) by rw [HW.out, HD.out, To.sil_false_cons, if_pos hB]; omega)
          have hk : c.toNat = 32 ∨ c.toNat = 9 ∨ c.toNat = 10 ∨ c.toNat = 13 := by rw [HC.out] at hB; simp at hB; omega
          clear hB hc h35
          generalize c.toNat = x at *
          rcases hk with rfl | rfl | rfl | rfl
          all_goals
            go_wp2_with fail
            go_roundg (l.length - (a + 1))
            case measure => omega
            case rel => exact ⟨a + 1, hlt, rfl, by go_num, HX.out, rfl⟩
        | false =>
          have HX := Lib.hid (show r = a by rw [HW.out, HD.out, To.sil_false_cons, if_neg (by simp [hB]), if_neg h35]; rfl)
          rw [HC.out] at hB
          simp at hB
          have g1 : ((c.toNat : Int) == 32) = false := by simp; omega
          have g2 : ((c.toNat : Int) == 9) = false := by simp; omega
          have g3 : ((c.toNat : Int) == 10) = false := by simp; omega
          have g4 : ((c.toNat : Int) == 13) = false := by simp; omega
          have h2 := Lib.hid H.out
          rw [HX.out] at h2
          clear hB hc h35
          go_wp2_with fail
          exact h2.out
    · have hie : a = l.length := by omega
      have hei : (l.length : Int) ≤ (a : Int) := by omega
      have HX := Lib.hid (show r = a by rw [HW.out, hie, List.drop_length]; rfl)
      have h2 := Lib.hid H.out
      rw [HX.out] at h2
      clear hlt hie ha
      go_wp2_with fail
      exact h2.out
end Go.Proofs.YtcldcigopkfmmaaGreatDoor
