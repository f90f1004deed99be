/- Frames, plainly: what a reader tells of bytes that came. No program in sight. -/
namespace Go.Fr

/-- The number that four bytes tell. -/
def num4 (b : List UInt8) : Nat := (b[0]?.getD 0).toNat * 16777216 + (b[1]?.getD 0).toNat * 65536 + (b[2]?.getD 0).toNat * 256 + (b[3]?.getD 0).toNat

/-- The number that the first k bytes tell. -/
def pre (b : List UInt8) : Nat → Nat
  | 0 => 0
  | k + 1 => pre b k * 256 + (b[k]?.getD 0).toNat

theorem pre4 (b : List UInt8) : pre b 4 = num4 b := by
  simp only [pre, num4]; omega

theorem pre_lt (b : List UInt8) (k : Nat) : pre b k < 256 ^ k := by
  induction k with
  | zero => exact Nat.one_pos
  | succ k ih =>
    have := (b[k]?.getD 0).toNat_lt
    simp only [pre, Nat.pow_succ]
    omega

/-- n as four bytes. -/
def be4 (n : Nat) : List UInt8 := [UInt8.ofNat (n / 16777216), UInt8.ofNat (n / 65536), UInt8.ofNat (n / 256), UInt8.ofNat n]

/-- The frame of bytes. -/
def frame (l : List UInt8) : List UInt8 := be4 l.length ++ l

/-- How many bytes there may be. -/
def most : Nat := 65536

/-- The frames that are whole, what is left, and whether it is broken. -/
def scan : Nat → List UInt8 → List (List UInt8) × List UInt8 × Bool
  | 0, b => ([], b, false)
  | k + 1, b =>
    if b.length < 4 then ([], b, false)
    else if most < num4 b then ([], [], true)
    else if b.length < 4 + num4 b then ([], b, false)
    else ((b.drop 4).take (num4 b) :: (scan k (b.drop (4 + num4 b))).1, (scan k (b.drop (4 + num4 b))).2)

def all (b : List UInt8) : List (List UInt8) × List UInt8 × Bool := scan b.length b

theorem scan_enough : ∀ (k : Nat) (b : List UInt8), b.length ≤ k → scan k b = all b := by
  intro k
  induction k using Nat.strongRecOn with
  | _ k ih =>
    intro b hb
    unfold all
    cases k with
    | zero =>
      have : b.length = 0 := by omega
      rw [this]
    | succ k =>
      cases hl : b.length with
      | zero => simp [scan, hl]
      | succ m =>
        simp only [scan]
        by_cases h1 : b.length < 4
        · rw [if_pos h1, if_pos h1]
        rw [if_neg h1, if_neg h1]
        by_cases h2 : most < num4 b
        · rw [if_pos h2, if_pos h2]
        rw [if_neg h2, if_neg h2]
        by_cases h3 : b.length < 4 + num4 b
        · rw [if_pos h3, if_pos h3]
        rw [if_neg h3, if_neg h3]
        have hd : (b.drop (4 + num4 b)).length ≤ m := by simp; omega
        rw [ih k (by omega) _ (by omega)]
        by_cases hkm : m = k
        · rw [hkm, ih k (by omega) _ (by omega)]
        · rw [ih m (by omega) _ hd]

theorem all_eq (b : List UInt8) : all b = if b.length < 4 then ([], b, false) else if most < num4 b then ([], [], true) else if b.length < 4 + num4 b then ([], b, false)
    else ((b.drop 4).take (num4 b) :: (all (b.drop (4 + num4 b))).1, (all (b.drop (4 + num4 b))).2) := by
  by_cases h0 : b.length = 0
  · have : b = [] := List.eq_nil_of_length_eq_zero h0
    subst this; rfl
  · rw [← scan_enough (b.length + 1) b (by omega)]
    simp only [scan]
    rw [scan_enough b.length (b.drop (4 + num4 b)) (by simp)]

theorem getD_append_left (a c : List UInt8) (i : Nat) (h : i < a.length) : ((a ++ c)[i]?.getD 0) = a[i]?.getD 0 := by
  rw [List.getElem?_append_left h]

theorem num4_append (a c : List UInt8) (h : 4 ≤ a.length) : num4 (a ++ c) = num4 a := by
  unfold num4
  rw [getD_append_left a c 0 (by omega), getD_append_left a c 1 (by omega), getD_append_left a c 2 (by omega), getD_append_left a c 3 (by omega)]

theorem all_short (b : List UInt8) (h : b.length < 4) : all b = ([], b, false) := by rw [all_eq, if_pos h]
theorem all_great (b : List UInt8) (h : 4 ≤ b.length) (h2 : most < num4 b) : all b = ([], [], true) := by rw [all_eq, if_neg (Nat.not_lt.2 h), if_pos h2]
theorem all_part (b : List UInt8) (h : 4 ≤ b.length) (h2 : num4 b ≤ most) (h3 : b.length < 4 + num4 b) : all b = ([], b, false) := by
  rw [all_eq, if_neg (Nat.not_lt.2 h), if_neg (Nat.not_lt.2 h2), if_pos h3]
theorem all_whole (b : List UInt8) (h : 4 ≤ b.length) (h2 : num4 b ≤ most) (h3 : 4 + num4 b ≤ b.length) :
    all b = ((b.drop 4).take (num4 b) :: (all (b.drop (4 + num4 b))).1, (all (b.drop (4 + num4 b))).2) := by
  rw [all_eq, if_neg (Nat.not_lt.2 h), if_neg (Nat.not_lt.2 h2), if_neg (Nat.not_lt.2 h3)]

theorem length_piece (b : List UInt8) (h3 : 4 + num4 b ≤ b.length) : ((b.drop 4).take (num4 b)).length = num4 b := by
  rw [List.length_take, List.length_drop]; omega
theorem length_rest (b : List UInt8) (h3 : 4 + num4 b ≤ b.length) : (b.drop (4 + num4 b)).length + 4 ≤ b.length := by
  rw [List.length_drop]; omega

/-- What came later tells what is left with it. -/
theorem all_append : ∀ (n : Nat) (a c : List UInt8), a.length ≤ n →
    all (a ++ c) = if (all a).2.2 then ((all a).1, [], true) else ((all a).1 ++ (all ((all a).2.1 ++ c)).1, (all ((all a).2.1 ++ c)).2) := by
  intro n
  induction n with
  | zero =>
    intro a c h
    have : a = [] := List.eq_nil_of_length_eq_zero (by omega)
    subst this
    simp [all_short []]
  | succ n ih =>
    intro a c h
    by_cases h1 : a.length < 4
    · rw [all_short a h1]; simp
    have h1' : 4 ≤ a.length := by omega
    have hl : 4 ≤ (a ++ c).length := by simp; omega
    have hn := num4_append a c h1'
    by_cases h2 : most < num4 a
    · rw [all_great a h1' h2, all_great (a ++ c) hl (by rw [hn]; exact h2)]; simp
    have h2' : num4 a ≤ most := Nat.not_lt.1 h2
    by_cases h3 : a.length < 4 + num4 a
    · rw [all_part a h1' h2' h3]; simp
    · have h3' : 4 + num4 a ≤ a.length := Nat.not_lt.1 h3
      have hw := all_whole (a ++ c) hl (by rw [hn]; exact h2') (by rw [hn, List.length_append]; omega)
      rw [hn, List.drop_append_of_le_length (by omega), List.drop_append_of_le_length h3', List.take_append_of_le_length (by simp; omega),
        ih (a.drop (4 + num4 a)) c (by simp; omega)] at hw
      rw [hw, all_whole a h1' h2' h3']
      generalize all (a.drop (4 + num4 a)) = r
      obtain ⟨r1, r2, r3⟩ := r
      cases r3 <;> simp

theorem num4_be4 (n : Nat) (h : n ≤ most) (l : List UInt8) : num4 (be4 n ++ l) = n := by
  unfold most at h
  simp [num4, be4]
  omega

theorem length_frame (l : List UInt8) : (frame l).length = l.length + 4 := by simp [frame, be4]

/-- Behind a whole frame. -/
theorem all_frame (l c : List UInt8) (h : l.length ≤ most) : all (frame l ++ c) = (l :: (all c).1, (all c).2) := by
  have hn : num4 (frame l ++ c) = l.length := by unfold frame; rw [List.append_assoc]; exact num4_be4 _ h _
  rw [all_eq, if_neg (by simp [length_frame]; omega), if_neg (by rw [hn]; omega), if_neg (by rw [hn]; simp [length_frame]; omega), hn]
  have e1 : (frame l ++ c).drop 4 = l ++ c := by simp [frame, be4]
  have e2 : (frame l ++ c).drop (4 + l.length) = c := by rw [← List.drop_drop, e1]; simp
  rw [e1, e2]; simp

/-- All frames, one behind the other. -/
def frames (ls : List (List UInt8)) : List UInt8 := (ls.map frame).flatten

theorem all_frames (ls : List (List UInt8)) (h : ∀ l ∈ ls, l.length ≤ most) : all (frames ls) = (ls, [], false) := by
  induction ls with
  | nil => simp [frames, all_eq []]
  | cons l ls ih =>
    have : frames (l :: ls) = frame l ++ frames ls := by simp [frames]
    rw [this, all_frame _ _ (h l (by simp)), ih (fun x hx => h x (by simp [hx]))]

/-- Cut off within the first frame: nothing is told. -/
theorem all_cut (l : List UInt8) (h : l.length ≤ most) (k : Nat) (hk : k < l.length + 4) : all ((frame l).take k) = ([], (frame l).take k, false) := by
  have hlen : ((frame l).take k).length = k := by rw [List.length_take, length_frame]; omega
  rw [all_eq]
  by_cases h1 : k < 4
  · rw [if_pos (by rw [hlen]; exact h1)]
  · have hn : num4 ((frame l).take k) = l.length := by
      have := num4_append ((frame l).take k) ((frame l).drop k) (by rw [hlen]; omega)
      rw [List.take_append_drop] at this
      rw [← this]; exact num4_be4 _ h _
    rw [if_neg (by rw [hlen]; exact h1), if_neg (by rw [hn]; omega), if_pos (by rw [hn, hlen]; omega)]

end Go.Fr
