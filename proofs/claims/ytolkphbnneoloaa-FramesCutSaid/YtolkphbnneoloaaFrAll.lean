/- Frames: FramesSize, put. -/
import Derived.Test.YtolkphbnneoloaaFrTag
import Derived.Test.YtolkphbnneoloaaArgs
import Derived.Test.YtolkphbnneoloaaFrPlain2
namespace Go.Proofs.Ytolkphbnneoloaa
open Go.RowKit Go.My

/-- How much there is in lists of bytes. -/
def total (ls : List (List UInt8)) : Nat := ls.length + (ls.map List.length).sum

def SizeSaid (w : World) (ls : List (List UInt8)) (e : Ending) (w' : World) : Prop := ∃ n : Nat, e = .returned (.int .i64 n) ∧ (n ≤ 1048576 → n = total ls) ∧ n ≤ total ls ∧ w = w'

/-- After k of them. -/
def SizeAt (ls : List (List UInt8)) (w : World) (gk : Nat) (vn vi : Value) (wr : World) : Prop :=
  ∃ k n : Nat, k ≤ ls.length ∧ gk = ls.length - k ∧ vi = .int .i64 k ∧ vn = .int .i64 n ∧ n = ls.length + ((ls.take k).map List.length).sum ∧ n ≤ 400000000000000 ∧ wr = w

theorem sum_take (ls : List (List UInt8)) (k : Nat) (h : k < ls.length) : ((ls.take (k + 1)).map List.length).sum = ((ls.take k).map List.length).sum + (ls[k]).length := by
  rw [List.take_succ_eq_append_getElem h, List.map_append, List.sum_append]; simp

theorem sum_take_le (ls : List (List UInt8)) (k : Nat) : ((ls.take k).map List.length).sum ≤ (ls.map List.length).sum := by
  conv => rhs; rw [← List.take_append_drop k ls, List.map_append, List.sum_append]
  omega

theorem size_end (w : World) (ls : List (List UInt8)) (n k : Nat) (hk : k = ls.length ∨ 1048576 < n) (hn : n = ls.length + ((ls.take k).map List.length).sum) : SizeSaid w ls (.returned (.int .i64 (n : Int))) w := by
  refine ⟨n, rfl, fun h => ?_, by rw [hn]; have := sum_take_le ls k; unfold total; omega, rfl⟩
  rcases hk with hk | hk
  · rw [hn, hk, List.take_length]; rfl
  · omega

set_option maxHeartbeats 1000000 in
theorem size_said (w : World) (S : Nat → Prop) (v : Value) (ls : List (List UInt8)) (h : FramesIn w S v ls) (hr : ∀ l ∈ ls, l.length ≤ 140737488351232) (hr2 : ls.length ≤ 140737488351232) :
    Calls Try.prog 12 #[v] w (SizeSaid w ls) := by
  obtain ⟨ao, cap, rfl, hc1, hc2, _, hb⟩ := h.open_
  have HB := Lib.hid hb
  have HR := Lib.hid hr
  clear hb h hc2 hr
  have hm2 : (ls.length : Int) ≤ 140737488351232 := by omega
  go_enter Try.func12, Try.ntmps12
  go_wp2
  go_loopg [3, 4] (ls.length) (fun gk vn vi wr => SizeAt ls w gk vn vi wr)
  case atStart => exact ⟨0, ls.length, Nat.zero_le _, rfl, rfl, rfl, by simp, by omega, rfl⟩
  case round =>
    obtain ⟨k, n, hk, rfl, rfl, rfl, hn, hn2, rfl⟩ := hrel
    have HN := Lib.hid hn
    clear hn
    have i0 : (0 : Int) ≤ (k : Int) := by omega
    have n0 : (0 : Int) ≤ (n : Int) := by omega
    have n2 : (n : Int) ≤ 400000000000000 := by omega
    by_cases hlt : k < ls.length
    · by_cases hs : (n : Int) ≤ 1048576
      · have i1 : (k : Int) < (ls.length : Int) := by omega
        obtain ⟨b, off, rfl, _, hc⟩ := HB.out (by omega)
        obtain ⟨u, c1, hu⟩ := hc k hlt
        have HU := Lib.hid hu
        have hl := HR.out (ls[k]) (List.getElem_mem hlt)
        clear hc hu
        go_wp2_with fail
        refine (framesSize_calls _ _ _ _ HU.out).mono ?_
        rintro e w' ⟨rfl, rfl⟩
        go_wp2_with fail
        go_roundg (ls.length - (k + 1))
        case measure => omega
        case rel => exact ⟨k + 1, n + (ls[k]).length, by omega, rfl, by go_num, by go_num, by rw [sum_take _ _ hlt, ← Nat.add_assoc, ← HN.out], by omega, rfl⟩
      · have i1 : (k : Int) < (ls.length : Int) := by omega
        have hs' : 1048577 ≤ (n : Int) := by omega
        clear hs
        go_wp2_with fail
        go_ret
        exact size_end _ _ _ _ (.inr (by omega)) HN.out
    · obtain rfl : k = ls.length := by omega
      go_wp2_with fail
      go_ret
      exact size_end _ _ _ _ (.inl rfl) HN.out

theorem len_le_total (ls : List (List UInt8)) (l : List UInt8) (h : l ∈ ls) : l.length ≤ total ls := by
  induction ls with
  | nil => cases h
  | cons x ls ih =>
    have e : total (x :: ls) = total ls + x.length + 1 := by unfold total; simp; omega
    rw [e]
    rcases List.mem_cons.1 h with rfl | h
    · omega
    · have := ih h; omega

theorem frames_take (ls : List (List UInt8)) (k : Nat) (h : k < ls.length) : Fr.frames (ls.take (k + 1)) = Fr.frames (ls.take k) ++ Fr.frame (ls[k]) := by
  unfold Fr.frames; rw [List.take_succ_eq_append_getElem h, List.map_append, List.flatten_append]; simp only [List.map_cons, List.map_nil, List.flatten_cons, List.flatten_nil, List.append_nil]

theorem frames_len (ls : List (List UInt8)) : (Fr.frames ls).length = 4 * ls.length + (ls.map List.length).sum := by
  induction ls with
  | nil => rfl
  | cons l ls ih =>
    have e : Fr.frames (l :: ls) = Fr.frame l ++ Fr.frames ls := by simp [Fr.frames]
    rw [e, List.length_append, Fr.length_frame, ih]
    simp only [List.length_cons, List.map_cons, List.sum_cons]
    omega

theorem frames_take_len (ls : List (List UInt8)) (k : Nat) : (Fr.frames (ls.take k)).length ≤ 4 * total ls := by
  rw [frames_len]
  have h1 := sum_take_le ls k
  have h2 : (ls.take k).length ≤ ls.length := by rw [List.length_take]; omega
  unfold total
  omega

/-- After k of them. -/
def PutAt (ls : List (List UInt8)) (w : World) (g : Tags) (t : Nat) (gk : Nat) (vo vi : Value) (wr : World) : Prop :=
  ∃ k ao n cap gr, k ≤ ls.length ∧ gk = ls.length - k ∧ vi = .int .i64 (k : Int) ∧ vo = .slice ao n cap ∧ n = (Fr.frames (ls.take k)).length ∧ Owns wr gr t 5 1 (.slice ao n cap) n ((Fr.frames (ls.take k)).map byteCell) ∧ Turn w g wr gr [t]

def PutsSaid (w : World) (g : Tags) (t : Nat) (ls : List (List UInt8)) (e : Ending) (w' : World) : Prop :=
  ∃ ao n cap g', e = .returned (.tuple #[.slice ao n cap, .bool true]) ∧ n = (Fr.frames ls).length ∧ Owns w' g' t 5 1 (.slice ao n cap) n ((Fr.frames ls).map byteCell) ∧ Turn w g w' g' [t]

theorem puts_end {w : World} {g : Tags} {t : Nat} {ls : List (List UInt8)} {wr : World} {ao : Option Addr} {n cap : Nat} {gr : Tags} {k : Nat} (hk : k = ls.length) (hn : n = (Fr.frames (ls.take k)).length) (ho : Owns wr gr t 5 1 (.slice ao n cap) n ((Fr.frames (ls.take k)).map byteCell)) (hT : Turn w g wr gr [t]) :
    PutsSaid w g t ls (.returned (.tuple #[.slice ao n cap, .bool true])) wr := by
  subst hk
  rw [List.take_length] at hn ho
  exact ⟨ao, n, cap, gr, rfl, hn, ho, hT⟩

set_option maxHeartbeats 1000000 in
theorem puts_said (w : World) (g : Tags) (t tv : Nat) (v : Value) (ls : List (List UInt8)) (h : Frames w g tv v ls) (ht : tv ≠ t) (hr : ∀ l ∈ ls, l.length ≤ 65536) (hr2 : total ls ≤ 1000000) :
    Calls Try.prog 13 #[v] w (PutsSaid w g t ls) := by
  obtain ⟨ao, cap, rfl, hc1, hc2, _, _⟩ := FramesIn.open_ h
  have HF := Lib.hid h
  have HR := Lib.hid hr
  have hz : ls.length ≤ 1000000 := by unfold total at hr2; omega
  clear h hc2 hr
  have hm2 : (ls.length : Int) ≤ 1000000 := by omega
  go_enter Try.func13, Try.ntmps13
  go_wp2
  go_loopg [4, 5] (ls.length) (fun gk vo vi wr => PutAt ls w g t gk vo vi wr)
  case atStart => exact ⟨0, none, 0, 0, g, Nat.zero_le _, rfl, rfl, rfl, by simp [Fr.frames], Owns.nil _ _ _ _ _, Turn.refl _ _ _⟩
  case round =>
    obtain ⟨k, a0, n, c0, gr, hk, rfl, rfl, rfl, hn, ho, hT⟩ := hrel
    have HN := Lib.hid (And.intro hn (And.intro ho hT))
    clear hn ho hT
    have i0 : (0 : Int) ≤ (k : Int) := by omega
    by_cases hlt : k < ls.length
    · have i1 : (k : Int) < (ls.length : Int) := by omega
      have HF1 := Lib.hid (HF.out.turn HN.out.2.2 (by simpa using ht))
      obtain ⟨b, off, rfl, _, hc⟩ := FramesIn.cells HF1.out (by omega)
      obtain ⟨u, c1, hu⟩ := hc k hlt
      have HU := Lib.hid hu
      have hl := HR.out (ls[k]) (List.getElem_mem hlt)
      have hq := frames_take_len ls k
      rw [← HN.out.1] at hq
      clear hc hu
      go_wp2_with fail
      refine put_t t HU.out hl fun gp w1 g1 T1 B1 => ?_
      have X1 := Lib.hid (And.intro (HN.out.2.1.turn T1 (by simp)) (And.intro (HN.out.2.2.trans T1 (V := [t]) (by simp) (by simp)) (frame_src B1)))
      clear T1 B1
      go_wp2_with (refine wpList_append_t _ rfl (.tmp 24) (.tmp 25) rfl bytesElem (g := g1) (tg := t) rfl X1.out.1 rfl X1.out.2.2 (byteCells_one _) (by unfold maxLen; omega) (by omega) ?_; intro a2 c2 w2 g2 O2 T2; rw [← List.map_append, ← frames_take ls k hlt] at O2; have X2 := Lib.hid (And.intro O2 (X1.out.2.1.trans T2 (V := [t]) (by simp) (by simp))); clear O2 T2)
      go_roundg (ls.length - (k + 1))
      case measure => omega
      case rel => exact ⟨k + 1, a2, n + ((ls[k]).length + 4), c2, g2, by omega, rfl, by go_num, rfl, by rw [frames_take ls k hlt, List.length_append, Fr.length_frame, ← HN.out.1], X2.out.1, X2.out.2⟩
    · obtain rfl : k = ls.length := by omega
      go_wp2_with fail
      go_ret2
      exact puts_end rfl HN.out.1 HN.out.2.1 HN.out.2.2
end Go.Proofs.Ytolkphbnneoloaa
