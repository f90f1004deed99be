/- Tokens: a name is one token. No program in sight. -/
import Derived.Test.YtmohejemgpnclaaDoorToPlain
namespace Go.To

theorem read_ok (s : List UInt8) (h : s.length ≤ 65536) : read s = (match (all s).2 with | some p => ([], p, 4) | none => ((all s).1, 0, 0)) := by
  unfold read; rw [if_neg (by omega)]; cases (all s).2 <;> rfl

theorem run_all (p : UInt8 → Bool) (l : List UInt8) : l.take (run p l) = l.take (run p l) := rfl

theorem sil_letter (c : UInt8) (l : List UInt8) (h : isL c = true) : sil false (c :: l) = 0 := by
  have h1 : isB c = false := by
    unfold isL at h; unfold isB
    simp at h ⊢
    omega
  have h2 : c.toNat ≠ 35 := by unfold isL at h; simp at h; omega
  rw [sil, if_neg (by simp [h1]), if_neg h2]

theorem word_first (s : List UInt8) (h : 0 < word s) : ∃ c l, s = c :: l ∧ isL c = true := by
  cases s with
  | nil => simp [word, run] at h
  | cons c l =>
    refine ⟨c, l, rfl, ?_⟩
    cases hc : isL c with
    | true => rfl
    | false => simp [word, run, hc] at h

/-- A word, whole. -/
theorem all_word (s : List UInt8) (h0 : s ≠ []) (h : word s = s.length) : all s = ([⟨1, s, 0⟩], none) := by
  have hl : 0 < s.length := by cases s with | nil => exact absurd rfl h0 | cons _ _ => simp
  obtain ⟨c, l, e, hc⟩ := word_first s (by omega)
  have hs : sil false s = 0 := by rw [e]; exact sil_letter c l hc
  have ht : tok s = (1, s.length) := by unfold tok; rw [if_pos (by omega), h]
  rw [all_scan', hs, List.drop_zero, scan'_tok 0 s h0 (by rw [ht]; exact Nat.one_ne_zero), ht]
  simp only [List.take_length, List.drop_length]
  have e2 : sil false ([] : List UInt8) = 0 := rfl
  rw [e2]
  simp only [List.drop_nil, scan'_nil]

theorem all_one (s : List UInt8) (p : Nat) (h : all s = ([⟨1, s, p⟩], none)) : s ≠ [] ∧ word s = s.length := by
  rw [all_scan'] at h
  have hz := sil_le s false
  obtain ⟨z, hzz⟩ : ∃ z, z = sil false s := ⟨_, rfl⟩
  rw [← hzz] at h hz
  by_cases h1 : s.drop z = []
  · rw [h1, scan'_nil] at h; simp at h
  · by_cases h2 : (tok (s.drop z)).1 = 0
    · rw [scan'_bad _ _ h1 h2] at h; simp at h
    · rw [scan'_tok _ _ h1 h2] at h
      simp only [Prod.mk.injEq, List.cons.injEq, T.mk.injEq] at h
      obtain ⟨⟨⟨hk, ht, _⟩, _⟩, _⟩ := h
      have hlen := congrArg List.length ht
      rw [List.length_take, List.length_drop] at hlen
      have hne : s.drop z ≠ [] := h1
      have hlz : z < s.length := by
        rcases Nat.lt_or_ge z s.length with h | h
        · exact h
        · exact absurd (List.drop_eq_nil_of_le h) hne
      have hz0 : z = 0 := by omega
      subst hz0
      rw [List.drop_zero] at hk ht
      have htl := tok_le s
      have hn : (tok s).2 = s.length := by rw [List.drop_zero] at hlen; omega
      refine ⟨by intro e; subst e; simp at hlz, ?_⟩
      unfold tok at hk hn
      by_cases hw : 0 < word s
      · rw [if_pos hw] at hn; exact hn
      · rw [if_neg hw] at hk
        split at hk
        · exact absurd (show (2 : Nat) = 1 from hk) (by decide)
        · split at hk
          · exact absurd (show (3 : Nat) = 1 from hk) (by decide)
          · exact absurd (show (0 : Nat) = 1 from hk) (by decide)

/-- Is all that is read one word, the text itself? -/
def one (s : List UInt8) : Bool := match read s with
  | ([x], _, 0) => x.kind == 1 && x.text == s
  | _ => false

theorem one_name (s : List UInt8) (h : s.length ≤ 65536) : name s = (one s && !own.contains s) := by
  have key : one s = (!s.isEmpty && word s == s.length) := by
    by_cases hw : s ≠ [] ∧ word s = s.length
    · have ha := all_word s hw.1 hw.2
      have e1 : one s = true := by unfold one; rw [read_ok s h, ha]; simp
      rw [e1]
      have e2 : s.isEmpty = false := by simp [hw.1]
      simp [e2, hw.2]
    · have e1 : one s = false := by
        unfold one
        rw [read_ok s h]
        split
        · rename_i x y heq
          cases ha : (all s).2 with
          | some p => rw [ha] at heq; simp at heq
          | none =>
            rw [ha] at heq
            simp at heq
            cases hk : (x.kind == 1 && x.text == s) with
            | false => rfl
            | true =>
              exfalso
              simp at hk
              apply hw
              obtain ⟨xk, xt, xp⟩ := x
              simp at hk
              obtain ⟨rfl, rfl⟩ := hk
              exact all_one xt xp (Prod.ext heq.1 ha)
        · rfl
      rw [e1]
      by_cases h0 : s = []
      · subst h0; rfl
      · have : word s ≠ s.length := fun e => hw ⟨h0, e⟩
        simp [this]
  unfold name
  rw [key]
  cases own.contains s <;> cases s.isEmpty <;> simp
end Go.To
