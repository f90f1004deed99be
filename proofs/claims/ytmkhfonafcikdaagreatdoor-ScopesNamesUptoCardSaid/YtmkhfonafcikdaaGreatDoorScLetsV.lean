/- What statements set, plainly, as the document goes through them. -/
import Derived.Test.YtmkhfonafcikdaaGreatDoorScOwnV
namespace Go.Nd
/-- As the document goes: not into expressions. -/
def letsR : List Tx → Ns → List Tx
  | names, .nil => names
  | names, .cons k t _ b e r => letsR (letsR (letsR (if k = 8 then addN names t else names) b) e) r
theorem letL_append (a b : List Nd) : letL (a ++ b) = letL a ++ letL b := by unfold letL; rw [List.filter_append, List.map_append]
theorem flat_nil_of_len {x : Ns} (h : x.len = 0) : x.flat = [] := by
  cases x with
  | nil => rfl
  | cons k t l b e r => exact absurd h (by show (_ :: r.items).length ≠ 0; simp)
theorem exprs_lets : ∀ xs : Ns, exprs xs = true → letL xs.flat = [] := by
  intro xs
  induction xs with
  | nil => intro _; rfl
  | cons k t l b e r ihl _ _ ihr =>
    intro h
    have h0 : (b.len == 0 && e.len == 0 && exprs l && head k t l && exprs r) = true := h
    simp only [Bool.and_eq_true, beq_iff_eq] at h0
    obtain ⟨⟨⟨⟨h1, h2⟩, h3⟩, h4⟩, h5⟩ := h0
    show letL (⟨k, t, l, b, e⟩ :: (l.flat ++ (b.flat ++ (e.flat ++ r.flat)))) = []
    have hk : k ≠ 8 := by
      rintro rfl
      unfold head at h4
      simp at h4
    rw [letL_cons, if_neg hk, flat_nil_of_len h1, flat_nil_of_len h2, List.nil_append, List.nil_append, letL_append, ihl h3, ihr h5]
    rfl
theorem letsR_is : ∀ (xs : Ns) (inner : Bool) (names : List Tx), stmts inner xs = true → letsR names xs = addAll names (lets xs) := by
  intro xs
  induction xs with
  | nil => intro _ names _; rfl
  | cons k t l b e r _ ihb ihe ihr =>
    intro inner names h
    have h0 : ((l.len == 1 && exprs l && stmts inner b && stmts inner e && form inner k t b e) && stmts inner r) = true := h
    simp only [Bool.and_eq_true] at h0
    obtain ⟨⟨⟨⟨⟨_, h1⟩, h2⟩, h3⟩, _⟩, h4⟩ := h0
    show letsR (letsR (letsR (if k = 8 then addN names t else names) b) e) r = addAll names (letL (⟨k, t, l, b, e⟩ :: (l.flat ++ (b.flat ++ (e.flat ++ r.flat)))))
    rw [letL_cons, letL_append, letL_append, letL_append, exprs_lets l h1, List.nil_append, ihb inner _ h2, ihe inner _ h3, ihr inner _ h4, lets_flat, lets_flat, lets_flat]
    by_cases hk : k = 8
    · rw [if_pos hk, if_pos hk, addAll_cons, addAll_append, addAll_append]
    · rw [if_neg hk, if_neg hk, addAll_append, addAll_append]
end Go.Nd
