/- Tokens: where they stand. No program in sight. -/
import Derived.Test.YtmohejemgpnclaaDoorToPlain
namespace Go.To

theorem sil_true_pos (l : List UInt8) (h : sil true l = 0) : l = [] := by
  cases l with
  | nil => rfl
  | cons c l => unfold sil at h; split at h <;> omega

theorem sil_t (c : UInt8) (l : List UInt8) : sil true (c :: l) = if c.toNat = 10 then sil false l + 1 else sil true l + 1 := by rw [sil]

/-- Behind what says nothing there is nothing more of it. -/
theorem sil_drop : ∀ (l : List UInt8) (b : Bool), sil false (l.drop (sil b l)) = 0 := by
  intro l
  induction l with
  | nil => intro b; simp [sil]
  | cons c l ih =>
    intro b
    cases b with
    | true =>
      by_cases h0 : c.toNat = 10
      · rw [sil_t, if_pos h0, List.drop_succ_cons]; exact ih false
      · rw [sil_t, if_neg h0, List.drop_succ_cons]; exact ih true
    | false =>
      by_cases h1 : isB c = true
      · rw [sil, if_pos h1, List.drop_succ_cons]; exact ih false
      · by_cases h2 : c.toNat = 35
        · rw [sil, if_neg h1, if_pos h2, List.drop_succ_cons]; exact ih true
        · rw [sil, if_neg h1, if_neg h2, List.drop_zero, sil, if_neg h1, if_neg h2]

theorem sil_zero (c : UInt8) (l : List UInt8) (h : sil false (c :: l) = 0) : isB c = false ∧ c.toNat ≠ 35 := by
  by_cases h1 : isB c = true
  · rw [sil, if_pos h1] at h; omega
  · by_cases h2 : c.toNat = 35
    · rw [sil, if_neg h1, if_pos h2] at h; omega
    · exact ⟨by simpa using h1, h2⟩

theorem scan_bad (s : List UInt8) : ∀ (f p q : Nat) (l : List UInt8), l = s.drop p → sil false l = 0 → (scan f p l).2 = some q → ∃ c r, s.drop q = c :: r ∧ isB c = false ∧ c.toNat ≠ 35 ∧ q < s.length := by
  intro f
  induction f with
  | zero => intro p q l _ _ h; simp [scan] at h
  | succ f ih =>
    intro p q l hl hz h
    rw [scan] at h
    by_cases h0 : l = []
    · rw [if_pos h0] at h; simp at h
    · rw [if_neg h0] at h
      by_cases h1 : (tok l).1 = 0
      · rw [if_pos h1] at h
        simp at h
        subst h
        cases l with
        | nil => exact absurd rfl h0
        | cons c r =>
          refine ⟨c, r, hl.symm, (sil_zero c r hz).1, (sil_zero c r hz).2, ?_⟩
          rcases Nat.lt_or_ge p s.length with h | h
          · exact h
          · rw [List.drop_eq_nil_of_le h] at hl; cases hl
      · rw [if_neg h1] at h
        refine ih _ q _ ?_ (sil_drop _ _) h
        rw [hl, List.drop_drop, List.drop_drop]; congr 1; omega

theorem all_bad (s : List UInt8) (q : Nat) (h : (all s).2 = some q) : ∃ c r, s.drop q = c :: r ∧ isB c = false ∧ c.toNat ≠ 35 ∧ q < s.length := by
  unfold all at h
  exact scan_bad s _ _ q _ rfl (sil_drop s false) h

/-- From a place behind a token on. -/
structure At (s : List UInt8) (A : List T) (i e : Nat) : Prop where
  le : e ≤ s.length
  n : i ≤ A.length
  rest : scan' (e + sil false (s.drop e)) (s.drop (e + sil false (s.drop e))) = (A.drop i, none)

theorem At.start (s : List UInt8) (h : (all s).2 = none) : At s (all s).1 0 0 :=
  ⟨Nat.zero_le _, Nat.zero_le _, by rw [List.drop_zero, Nat.zero_add, ← all_scan']; exact Prod.ext rfl h⟩

theorem At.last {s : List UInt8} {A : List T} {e : Nat} (h : At s A A.length e) : e + sil false (s.drop e) = s.length := by
  have hr := h.rest
  rw [List.drop_length] at hr
  obtain ⟨p, hp⟩ : ∃ p, p = e + sil false (s.drop e) := ⟨_, rfl⟩
  have hz := sil_le (s.drop e) false
  have hle := h.le
  rw [List.length_drop] at hz
  rw [← hp] at hr ⊢
  by_cases h1 : s.drop p = []
  · have := congrArg List.length h1
    rw [List.length_drop, List.length_nil] at this
    omega
  · by_cases h2 : (tok (s.drop p)).1 = 0
    · rw [scan'_bad _ _ h1 h2] at hr; simp at hr
    · rw [scan'_tok _ _ h1 h2] at hr; simp at hr

theorem At.next {s : List UInt8} {A : List T} {i e : Nat} (h : At s A i e) (hi : i < A.length) :
    ∃ n, (tok (s.drop A[i].pos)).1 ≠ 0 ∧ A[i].pos = e + sil false (s.drop e) ∧ A[i].kind = (tok (s.drop A[i].pos)).1 ∧ A[i].text = (s.drop A[i].pos).take n ∧ 0 < n ∧ A[i].pos + n ≤ s.length ∧ At s A (i + 1) (A[i].pos + n) := by
  have hr := h.rest
  have hz := sil_le (s.drop e) false
  have hle := h.le
  rw [List.length_drop] at hz
  obtain ⟨p, hp⟩ : ∃ p, p = e + sil false (s.drop e) := ⟨_, rfl⟩
  rw [← hp] at hr
  have hd := List.drop_eq_getElem_cons hi
  by_cases h1 : s.drop p = []
  · rw [h1, scan'_nil, hd] at hr; (simp at hr) <;> omega
  · by_cases h2 : (tok (s.drop p)).1 = 0
    · rw [scan'_bad _ _ h1 h2, hd] at hr; (simp at hr) <;> omega
    · rw [scan'_tok _ _ h1 h2, hd] at hr
      simp only [Prod.mk.injEq, List.cons.injEq] at hr
      obtain ⟨⟨hx, hrest⟩, hn⟩ := hr
      have hpos := tok_pos _ h2
      have htl := tok_le (s.drop p)
      rw [List.length_drop] at htl
      have e1 : A[i].pos = p := by rw [← hx]
      have hps : p < s.length := by
        rcases Nat.lt_or_ge p s.length with h | h
        · exact h
        · exact absurd (List.drop_eq_nil_of_le h) h1
      refine ⟨(tok (s.drop p)).2, by rw [e1]; exact h2, by rw [e1, hp], by rw [e1, ← hx], by rw [e1, ← hx], hpos, by rw [e1]; omega, ?_⟩
      rw [e1]
      refine ⟨by omega, hi, ?_⟩
      have e2 : (s.drop p).drop (tok (s.drop p)).2 = s.drop (p + (tok (s.drop p)).2) := List.drop_drop ..
      rw [e2] at hrest hn
      rw [List.drop_drop] at hrest hn
      exact Prod.ext hrest hn

/-- A step within what says nothing. -/
theorem sil_step (s : List UInt8) (k to : Nat) (c : Bool) (hk : k < s.length) (hlt : k < to) (h : sil c (s.drop k) = to - k) :
    sil ((c || s[k].toNat == 35) && s[k].toNat != 10) (s.drop (k + 1)) = to - (k + 1) ∧ ((c || s[k].toNat == 35) || isB s[k]) = true := by
  rw [List.drop_eq_getElem_cons hk] at h
  generalize s[k] = b at *
  cases c with
  | true =>
    rw [sil_t] at h
    by_cases h1 : b.toNat = 10
    · rw [if_pos h1] at h
      have e : ((true || b.toNat == 35) && b.toNat != 10) = false := by rw [h1]; rfl
      rw [e]; exact ⟨by omega, rfl⟩
    · rw [if_neg h1] at h
      have e : ((true || b.toNat == 35) && b.toNat != 10) = true := by simp [h1]
      rw [e]; exact ⟨by omega, rfl⟩
  | false =>
    rw [sil] at h
    by_cases h1 : isB b = true
    · rw [if_pos h1] at h
      have h2 : b.toNat ≠ 35 := by unfold isB at h1; simp at h1; omega
      have e : ((false || b.toNat == 35) && b.toNat != 10) = false := by simp [h2]
      rw [e]; exact ⟨by omega, by rw [h1, Bool.or_true]⟩
    · rw [if_neg h1] at h
      by_cases h2 : b.toNat = 35
      · rw [if_pos h2] at h
        have e : ((false || b.toNat == 35) && b.toNat != 10) = true := by rw [h2]; rfl
        rw [e]; exact ⟨by omega, by rw [h2]; rfl⟩
      · rw [if_neg h2] at h; omega
end Go.To
