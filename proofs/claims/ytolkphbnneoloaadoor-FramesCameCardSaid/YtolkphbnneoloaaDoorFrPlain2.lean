/- Frames, plainly: pieces. No program in sight. -/
import Derived.Test.YtolkphbnneoloaaDoorFrPlain
namespace Go.Fr

theorem take_more (B : List UInt8) {i j : Nat} (h : i ≤ j) : B.take j = B.take i ++ (B.drop i).take (j - i) := by
  have e : j = i + (j - i) := by omega
  conv => lhs; rw [e, List.take_add]

/-- One piece more. -/
theorem all_next (B : List UInt8) {i j : Nat} (h : i ≤ j) (hb : (all (B.take i)).2.2 = false) :
    all (B.take j) = ((all (B.take i)).1 ++ (all ((all (B.take i)).2.1 ++ (B.drop i).take (j - i))).1, (all ((all (B.take i)).2.1 ++ (B.drop i).take (j - i))).2) := by
  rw [take_more B h, all_append _ _ _ (Nat.le_refl _), hb]; simp

theorem all_stays (B : List UInt8) {i j : Nat} (h : i ≤ j) (hb : (all (B.take i)).2.2 = true) : all (B.take j) = ((all (B.take i)).1, [], true) := by
  rw [take_more B h, all_append _ _ _ (Nat.le_refl _), hb]; simp

/-- What is broken at a place is broken at the end. -/
theorem whole_before (B : List UInt8) (i : Nat) (h : (all B).2.2 = false) : (all (B.take i)).2.2 = false := by
  cases hb : (all (B.take i)).2.2 with
  | false => rfl
  | true =>
    rcases Nat.le_total i B.length with hi | hi
    · have := all_stays B hi hb
      rw [List.take_length] at this
      rw [this] at h; cases h
    · rw [List.take_of_length_le hi] at hb; rw [hb] at h; cases h

/-- What is left, and how many are told. -/
theorem all_sizes : ∀ (n : Nat) (b : List UInt8), b.length ≤ n → (all b).2.1.length ≤ b.length ∧ 4 * (all b).1.length ≤ b.length := by
  intro n
  induction n with
  | zero => intro b hb; rw [all_short b (by omega)]; simp
  | succ n ih =>
    intro b hb
    by_cases h1 : b.length < 4
    · rw [all_short b h1]; simp
    by_cases h2 : most < num4 b
    · rw [all_great b (by omega) h2]; simp
    by_cases h3 : b.length < 4 + num4 b
    · rw [all_part b (by omega) (by omega) h3]; simp
    · rw [all_whole b (by omega) (by omega) (by omega)]
      have h := ih (b.drop (4 + num4 b)) (by rw [List.length_drop]; omega)
      rw [List.length_drop] at h
      generalize all (b.drop (4 + num4 b)) = r at h
      obtain ⟨r1, r2, r3⟩ := r
      simp only [List.length_cons] at h ⊢
      generalize num4 b = m at *
      generalize b.length = k at *
      generalize r2.length = k2 at *
      generalize r1.length = k1 at *
      omega

/-- One piece of what is never broken. -/
theorem piece (B : List UInt8) (hB : (all B).2.2 = false) (k z : Nat) (h : k ≤ z) :
    ∃ fs rest, all ((all (B.take k)).2.1 ++ (B.drop k).take (z - k)) = (fs, rest, false) ∧ all (B.take z) = ((all (B.take k)).1 ++ fs, rest, false) := by
  have h1 := all_next B h (whole_before B k hB)
  have h2 := whole_before B z hB
  generalize all ((all (B.take k)).2.1 ++ (B.drop k).take (z - k)) = r at h1 ⊢
  obtain ⟨fs, rest, b⟩ := r
  rw [h1] at h2
  simp only at h2
  subst h2
  exact ⟨fs, rest, rfl, h1⟩

/-- Where it is broken nothing is left. -/
theorem broken_left (b : List UInt8) (h : (all b).2.2 = true) : (all b).2.1 = [] := by
  have := all_append _ b [] (Nat.le_refl _)
  rw [List.append_nil, h, if_pos rfl] at this
  generalize all b = r at *
  obtain ⟨r1, r2, r3⟩ := r
  simp only [Prod.mk.injEq] at this
  exact this.2.1

end Go.Fr
