/- FramesSize: how much there is in lists of bytes. -/
import Derived.Test.YtolkphbnneoloaaDoorRows
import Derived.Test.YtolkphbnneoloaaDoorArgs
import Derived.Test.YtolkphbnneoloaaDoorSame
namespace Go.Proofs.YtolkphbnneoloaaDoor
open Go.RowKit Go.My

/-- How much there is in lists of bytes. -/
def total (ls : List (List UInt8)) : Nat := ls.length + (ls.map List.length).sum

def SizeSaid (w : World) (ls : List (List UInt8)) (e : Ending) (w' : World) : Prop := ∃ n : Nat, e = .returned (.int .i64 n) ∧ (n ≤ 1048576 → n = total ls) ∧ n ≤ total ls ∧ w = w'

/-- After k of them. -/
def SizeAt (ls : List (List UInt8)) (w : World) (gk : Nat) (vn vi : Value) (wr : World) : Prop :=
  ∃ k n : Nat, k ≤ ls.length ∧ gk = ls.length - k ∧ vi = .int .i64 k ∧ vn = .int .i64 n ∧ n = ls.length + ((ls.take k).map List.length).sum ∧ n ≤ 400000000000000 ∧ wr = w

theorem sum_take (ls : List (List UInt8)) (k : Nat) (h : k < ls.length) : ((ls.take (k + 1)).map List.length).sum = ((ls.take k).map List.length).sum + (ls[k]).length := by
  rw [List.take_succ_eq_append_getElem h, List.map_append, List.sum_append]; simp

theorem sum_take_le (ls : List (List UInt8)) (k : Nat) : ((ls.take k).map List.length).sum ≤ (ls.map List.length).sum := by
  conv => rhs; rw [← List.take_append_drop k ls, List.map_append, List.sum_append]
  omega

theorem size_end (w : World) (ls : List (List UInt8)) (n k : Nat) (hk : k = ls.length ∨ 1048576 < n) (hn : n = ls.length + ((ls.take k).map List.length).sum) : SizeSaid w ls (.returned (.int .i64 (n : Int))) w := by
  refine ⟨n, rfl, fun h => ?_, by rw [hn]; have := sum_take_le ls k; unfold total; omega, rfl⟩
  rcases hk with hk | hk
  · rw [hn, hk, List.take_length]; rfl
  · omega

set_option maxHeartbeats 1000000 in
theorem size_said (w : World) (S : Nat → Prop) (v : Value) (ls : List (List UInt8)) (h : FramesIn w S v ls) (hr : ∀ l ∈ ls, l.length ≤ 140737488351232) (hr2 : ls.length ≤ 140737488351232) :
    Calls Tryd.prog 12 #[v] w (SizeSaid w ls) := by
  obtain ⟨ao, cap, rfl, hc1, hc2, _, hb⟩ := h.open_
  have HB := Lib.hid hb
  have HR := Lib.hid hr
  clear hb h hc2 hr
  have hm2 : (ls.length : Int) ≤ 140737488351232 := by omega
  go_enter Tryd.func12, Tryd.ntmps12
  go_wp2
  go_loopg [3, 4] (ls.length) (fun gk vn vi wr => SizeAt ls w gk vn vi wr)
  case atStart => exact ⟨0, ls.length, Nat.zero_le _, rfl, rfl, rfl, by simp, by omega, rfl⟩
  case round =>
    obtain ⟨k, n, hk, rfl, rfl, rfl, hn, hn2, rfl⟩ := hrel
    have HN := Lib.hid hn
    clear hn
    have i0 : (0 : Int) ≤ (k : Int) := by omega
    have n0 : (0 : Int) ≤ (n : Int) := by omega
    have n2 : (n : Int) ≤ 400000000000000 := by omega
    by_cases hlt : k < ls.length
    · by_cases hs : (n : Int) ≤ 1048576
      · have i1 : (k : Int) < (ls.length : Int) := by omega
        obtain ⟨b, off, rfl, _, hc⟩ := HB.out (by omega)
        obtain ⟨u, c1, hu⟩ := hc k hlt
        have HU := Lib.hid hu
        have hl := HR.out (ls[k]) (List.getElem_mem hlt)
        clear hc hu
        go_wp2_with fail
        refine (framesSize_calls _ _ _ _ HU.out).mono ?_
        rintro e w' ⟨rfl, rfl⟩
        go_wp2_with fail
        go_roundg (ls.length - (k + 1))
        case measure => omega
        case rel => exact ⟨k + 1, n + (ls[k]).length, by omega, rfl, by go_num, by go_num, by rw [sum_take _ _ hlt, ← Nat.add_assoc, ← HN.out], by omega, rfl⟩
      · have i1 : (k : Int) < (ls.length : Int) := by omega
        have hs' : 1048577 ≤ (n : Int) := by omega
        clear hs
        go_wp2_with fail
        go_ret
        exact size_end _ _ _ _ (.inr (by omega)) HN.out
    · obtain rfl : k = ls.length := by omega
      go_wp2_with fail
      go_ret
      exact size_end _ _ _ _ (.inl rfl) HN.out

theorem len_le_total (ls : List (List UInt8)) (l : List UInt8) (h : l ∈ ls) : l.length ≤ total ls := by
  induction ls with
  | nil => cases h
  | cons x ls ih =>
    have e : total (x :: ls) = total ls + x.length + 1 := by unfold total; simp; omega
    rw [e]
    rcases List.mem_cons.1 h with rfl | h
    · omega
    · have := ih h; omega

end Go.Proofs.YtolkphbnneoloaaDoor
