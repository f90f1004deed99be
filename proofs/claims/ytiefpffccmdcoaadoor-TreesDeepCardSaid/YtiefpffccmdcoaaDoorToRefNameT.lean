/- Tokens: the reference's Name; the walk of TokensNames. -/
import Derived.Test.YtiefpffccmdcoaaDoorTrB2
namespace Go.Proofs.YtiefpffccmdcoaaDoor
open Go.RowKit Go.My

theorem bs_tl (l : List UInt8) : (bs l).toList = l := by rw [ByteArray.toList_eq, bs_list]

set_option maxHeartbeats 4000000 in
theorem refname_t {w : World} (l : List UInt8) (hl : l.length ≤ 9223372036854775807) {Q : Ending → World → Prop} (h : Q (.returned (.bool (To.name l))) w) :
    Calls Tryd.prog 29 #[.string (bs l)] w Q := by
  have H := Lib.hid h
  clear h
  by_cases h1 : l = []
  · subst h1
    have e : To.name [] = false := by decide
    rw [e] at H
    have hbl := bs_tl []
    clear e
    go_enter Tryd.func29, Tryd.ntmps29
    go_wp2_with fail
    exact H.out
  have g0 := h1
  clear h1
  by_cases h1 : l = [102, 110]
  · subst h1
    have e : To.name [102, 110] = false := by decide
    rw [e] at H
    have hbl := bs_tl [102, 110]
    clear e
    go_enter Tryd.func29, Tryd.ntmps29
    go_wp2_with fail
    exact H.out
  have g1 := h1
  clear h1
  by_cases h1 : l = [105, 102]
  · subst h1
    have e : To.name [105, 102] = false := by decide
    rw [e] at H
    have hbl := bs_tl [105, 102]
    clear e
    go_enter Tryd.func29, Tryd.ntmps29
    go_wp2_with fail
    exact H.out
  have g2 := h1
  clear h1
  by_cases h1 : l = [101, 108, 115, 101]
  · subst h1
    have e : To.name [101, 108, 115, 101] = false := by decide
    rw [e] at H
    have hbl := bs_tl [101, 108, 115, 101]
    clear e
    go_enter Tryd.func29, Tryd.ntmps29
    go_wp2_with fail
    exact H.out
  have g3 := h1
  clear h1
  by_cases h1 : l = [119, 104, 105, 108, 101]
  · subst h1
    have e : To.name [119, 104, 105, 108, 101] = false := by decide
    rw [e] at H
    have hbl := bs_tl [119, 104, 105, 108, 101]
    clear e
    go_enter Tryd.func29, Tryd.ntmps29
    go_wp2_with fail
    exact H.out
  have g4 := h1
  clear h1
  by_cases h1 : l = [114, 101, 116, 117, 114, 110]
  · subst h1
    have e : To.name [114, 101, 116, 117, 114, 110] = false := by decide
    rw [e] at H
    have hbl := bs_tl [114, 101, 116, 117, 114, 110]
    clear e
    go_enter Tryd.func29, Tryd.ntmps29
    go_wp2_with fail
    exact H.out
  have g5 := h1
  clear h1
  by_cases h1 : l = [116, 101, 108, 108]
  · subst h1
    have e : To.name [116, 101, 108, 108] = false := by decide
    rw [e] at H
    have hbl := bs_tl [116, 101, 108, 108]
    clear e
    go_enter Tryd.func29, Tryd.ntmps29
    go_wp2_with fail
    exact H.out
  have g6 := h1
  clear h1
  by_cases h1 : l = [110, 111, 116]
  · subst h1
    have e : To.name [110, 111, 116] = false := by decide
    rw [e] at H
    have hbl := bs_tl [110, 111, 116]
    clear e
    go_enter Tryd.func29, Tryd.ntmps29
    go_wp2_with fail
    exact H.out
  have g7 := h1
  clear h1
  obtain ⟨x, hx⟩ : ∃ x, x = To.word l := ⟨_, rfl⟩
  have hcon : To.own.contains l = false := by
    simp only [To.own, List.contains_cons, List.contains_nil, Bool.or_false, Bool.or_eq_false_iff, beq_eq_false_iff_ne]
    exact ⟨g1, g2, g3, g4, g5, g6, g7⟩
  have hemp : l.isEmpty = false := by cases l with | nil => exact absurd rfl g0 | cons _ _ => rfl
  have e : To.name l = decide ((x : Int) = (l.length : Int)) := by
    unfold To.name
    rw [hcon, hemp, ← hx, Bool.eq_iff_iff]; simp; omega
  rw [e] at H
  have b0 : (bs l).toList.isEmpty = false := by rw [bs_tl]; exact hemp
  have b1 : ((bs l).toList == [102, 110]) = false := by rw [bs_tl]; simpa using g1
  have b2 : ((bs l).toList == [105, 102]) = false := by rw [bs_tl]; simpa using g2
  have b3 : ((bs l).toList == [101, 108, 115, 101]) = false := by rw [bs_tl]; simpa using g3
  have b4 : ((bs l).toList == [119, 104, 105, 108, 101]) = false := by rw [bs_tl]; simpa using g4
  have b5 : ((bs l).toList == [114, 101, 116, 117, 114, 110]) = false := by rw [bs_tl]; simpa using g5
  have b6 : ((bs l).toList == [116, 101, 108, 108]) = false := by rw [bs_tl]; simpa using g6
  have b7 : ((bs l).toList == [110, 111, 116]) = false := by rw [bs_tl]; simpa using g7
  have hsz := bs_size l
  have HN := Lib.hid hx
  clear e hx hcon hemp g0 g1 g2 g3 g4 g5 g6 g7
  go_enter Tryd.func29, Tryd.ntmps29
  go_wp2_with fail
  refine refword_t l hl ?_
  rw [← HN.out]
  go_wp2_with fail
  exact H.out
end Go.Proofs.YtiefpffccmdcoaaDoor
