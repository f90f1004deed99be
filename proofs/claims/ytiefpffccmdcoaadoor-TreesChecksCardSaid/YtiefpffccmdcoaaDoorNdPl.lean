/- Trees: digits without a needless nought, as the document has it. -/
import Derived.Test.YtiefpffccmdcoaaDoorToRef
import Derived.Test.YtiefpffccmdcoaaDoorNdPlain
namespace Go.Proofs.YtiefpffccmdcoaaDoor
open Go.RowKit Go.My

theorem bs_tlp (l : List UInt8) : (bs l).toList = l := by rw [ByteArray.toList_eq, bs_list]

theorem plain_two (s : List UInt8) (hpos : 0 < s.length) (h1 : ¬ s.length = 1) (hall : s.all To.isD = true) : Nd.plain s = ((s[0]).toNat != 48) := by
  obtain ⟨c, d, r, rfl⟩ : ∃ c d r, s = c :: d :: r := by
    cases s with
    | nil => exact absurd hpos (Nat.lt_irrefl _)
    | cons c r =>
      cases r with
      | nil => exact absurd rfl h1
      | cons d r => exact ⟨c, d, r, rfl⟩
  unfold Nd.plain
  rw [hall, Bool.true_and, List.getElem_cons_zero]

def PlAt (s : List UInt8) (w : World) (gk : Nat) (v3 : Value) (wr : World) : Prop :=
  ∃ i : Nat, i ≤ s.length ∧ gk = s.length - i ∧ v3 = .int .i64 (i : Int) ∧ (s.drop i).all To.isD = s.all To.isD ∧ wr = w

set_option maxRecDepth 100000 in
set_option maxHeartbeats 4000000 in
theorem rplain_t {w : World} (s : List UInt8) (hs : s.length ≤ 9223372036854775807) {Q : Ending → World → Prop} (h : Q (.returned (.bool (Nd.plain s))) w) :
    Calls Tryd.prog 83 #[.string (bs s)] w Q := by
  have H := Lib.hid h
  have hs1 := bs_size s
  have s0 : (0 : Int) ≤ (s.length : Int) := by omega
  have s1 : (s.length : Int) ≤ 9223372036854775807 := by omega
  clear h
  go_enter Tryd.func83, Tryd.ntmps83
  go_wp2_with fail
  go_loopg [3] s.length (fun gk v3 wr => PlAt s w gk v3 wr)
  case atStart => exact ⟨0, Nat.zero_le _, rfl, rfl, rfl, rfl⟩
  case round =>
    obtain ⟨i, hi, rfl, rfl, hd, rfl⟩ := hrel
    have i0 : (0 : Int) ≤ (i : Int) := by omega
    by_cases hlt : i < s.length
    · have i1 : (i : Int) < (s.length : Int) := by omega
      have hix := ix_s s .i64 i (z := (i : Int)) rfl hlt
      have hdr := List.drop_eq_getElem_cons hlt
      generalize s[i] = c at *
      rw [hdr, List.all_cons] at hd
      have HD := Lib.hid hd
      clear hd hdr
      go_wp2_with fail
      refine digit_t c rfl ?_
      cases hc : To.isD c with
      | true =>
        have HC := Lib.hid hc
        clear hc
        go_wp2_with fail
        go_roundg (s.length - (i + 1))
        case measure => omega
        case rel => exact ⟨i + 1, hlt, rfl, by go_num, by have := HD.out; rw [HC.out, Bool.true_and] at this; exact this, rfl⟩
      | false =>
        have HC := Lib.hid hc
        clear hc
        have hp : Nd.plain s = false := by unfold Nd.plain; rw [← HD.out, HC.out]; rfl
        rw [hp] at H
        clear hp
        go_wp2_with fail
        exact H.out
    · obtain rfl : i = s.length := by omega
      have hall : s.all To.isD = true := by rw [← hd, List.drop_length]; rfl
      have e1 := bs_tlp s
      clear hlt hd hi
      by_cases hn : s = []
      · subst hn
        have hp : Nd.plain [] = false := rfl
        rw [hp] at H
        clear hp hall
        go_wp2_with fail
        exact H.out
      · have he : s.isEmpty = false := by cases s with | nil => exact absurd rfl hn | cons _ _ => rfl
        have hpos : 0 < s.length := List.length_pos_iff.2 hn
        have hpi : (0 : Int) < (s.length : Int) := by omega
        by_cases h1 : s.length = 1
        · have hp : Nd.plain s = true := by
            unfold Nd.plain; rw [hall]
            match s, h1 with
            | [_], _ => rfl
          rw [hp] at H
          obtain ⟨c, rfl⟩ : ∃ c, s = [c] := by match s, h1 with | [c], _ => exact ⟨c, rfl⟩
          have hl1 := Lib.hid h1
          clear hp hall h1 hn
          go_wp2_with fail
          exact H.out
        · have h1' : ((s.length : Int) == 1) = false := by simp; omega
          have hix := ix_s s .i64 0 (z := (0 : Int)) rfl hpos
          have hp : Nd.plain s = ((s[0]).toNat != 48) := plain_two s hpos h1 hall
          rw [hp] at H
          generalize s[0] = c at *
          by_cases hc : c.toNat = 48
          · have hcf : ((c.toNat : Int) != 48) = false := by simp [hc]
            have hcb : (c.toNat != 48) = false := by simp [hc]
            rw [hcb] at H
            clear hp hall h1 hn hc hcb
            go_wp2_with fail
            exact H.out
          · have hcf : ((c.toNat : Int) != 48) = true := by simp; omega
            have hcb : (c.toNat != 48) = true := by simp [hc]
            rw [hcb] at H
            clear hp hall h1 hn hc hcb
            go_wp2_with fail
            exact H.out
end Go.Proofs.YtiefpffccmdcoaaDoor
