/- Tokens: a text behind another one, in a new line. No program in sight. -/
import Derived.Test.YtmohejemgpnclaaDoorToPlPlain
namespace Go.To

/-- What a run does where a line's end stands behind. -/
theorem run_nl (p : UInt8 → Bool) (hp : p 10 = false) (l t : List UInt8) : run p (l ++ 10 :: t) = run p l := by
  induction l with
  | nil => simp [run, hp]
  | cons c l ih =>
    rw [List.cons_append, run, run, ih]

theorem word_nl (l t : List UInt8) : word (l ++ 10 :: t) = word l := by
  unfold word; rw [run_nl isL (by decide), run_nl isW (by decide)]
theorem number_nl (l t : List UInt8) : number (l ++ 10 :: t) = number l := run_nl isD (by decide) l t
theorem sign_nl (l t : List UInt8) (h : l ≠ []) : sign (l ++ 10 :: t) = sign l := by
  cases l with
  | nil => exact absurd rfl h
  | cons c l =>
    rw [List.cons_append, sign_cons, sign_cons]
    have e : ((l ++ 10 :: t).head? = some 61) ↔ (l.head? = some 61) := by
      cases l with
      | nil => simp
      | cons d l => simp
    simp only [e]
theorem tok_nl (l t : List UInt8) (h : l ≠ []) : tok (l ++ 10 :: t) = tok l := by
  unfold tok; rw [word_nl, number_nl, sign_nl l t h]

/-- What says nothing, a line's end standing behind. -/
theorem sil_nl (t : List UInt8) : ∀ (l : List UInt8) (b : Bool), sil b (l ++ 10 :: t) = if sil b l < l.length then sil b l else l.length + 1 + sil false t := by
  intro l
  induction l with
  | nil =>
    intro b
    have e10 : (10 : UInt8).toNat = 10 := rfl
    have eb : isB 10 = true := by decide
    cases b with
    | true => rw [List.nil_append, sil_t, if_pos e10]; simp [sil]; omega
    | false =>
      have e : sil false (10 :: t) = sil false t + 1 := by rw [sil, if_pos eb]
      rw [List.nil_append, e]; simp [sil]; omega
  | cons c l ih =>
    intro b
    have h1 := ih true
    have h2 := ih false
    have hl : (c :: l).length = l.length + 1 := rfl
    have key : ∀ b' : Bool, sil b (c :: l) = sil b' l + 1 → sil b (c :: (l ++ 10 :: t)) = sil b' (l ++ 10 :: t) + 1 →
        sil b (c :: l ++ 10 :: t) = if sil b (c :: l) < (c :: l).length then sil b (c :: l) else (c :: l).length + 1 + sil false t := by
      intro b' e1 e2
      have h3 := ih b'
      rw [List.cons_append, e2, e1, h3, hl]
      by_cases hc : sil b' l < l.length
      · rw [if_pos hc, if_pos (by omega)]
      · rw [if_neg hc, if_neg (by omega)]; omega
    cases b with
    | true =>
      by_cases hc : c.toNat = 10
      · exact key false (by rw [sil_t, if_pos hc]) (by rw [sil_t, if_pos hc])
      · exact key true (by rw [sil_t, if_neg hc]) (by rw [sil_t, if_neg hc])
    | false =>
      by_cases hb : isB c = true
      · exact key false (by rw [sil, if_pos hb]) (by rw [sil, if_pos hb])
      · by_cases hc : c.toNat = 35
        · exact key true (by rw [sil, if_neg hb, if_pos hc]) (by rw [sil, if_neg hb, if_pos hc])
        · have e1 : ∀ r, sil false (c :: r) = 0 := fun r => by rw [sil, if_neg hb, if_neg hc]
          rw [List.cons_append, e1, e1, hl, if_pos (by omega)]

/-- A token, put on. -/
def T.on (k : Nat) (x : T) : T := ⟨x.kind, x.text, x.pos + k⟩

theorem scan_on (k : Nat) : ∀ (f p : Nat) (l : List UInt8), scan f (p + k) l = ((scan f p l).1.map (T.on k), (scan f p l).2.map (· + k)) := by
  intro f
  induction f with
  | zero => intro p l; rfl
  | succ f ih =>
    intro p l
    rw [scan, scan]
    by_cases h0 : l = []
    · rw [if_pos h0, if_pos h0]; rfl
    · rw [if_neg h0, if_neg h0]
      by_cases h1 : (tok l).1 = 0
      · rw [if_pos h1, if_pos h1]; rfl
      · rw [if_neg h1, if_neg h1]
        have e : p + k + (tok l).2 + sil false (l.drop (tok l).2) = (p + (tok l).2 + sil false (l.drop (tok l).2)) + k := by omega
        rw [e, ih]
        rfl

theorem scan'_on (k p : Nat) (l : List UInt8) : scan' (p + k) l = ((scan' p l).1.map (T.on k), (scan' p l).2.map (· + k)) := scan_on k _ p l

/-- All tokens from a place on, at which there may be what says nothing. -/
def from_ (e : Nat) (r : List UInt8) : List T × Option Nat := scan' (e + sil false r) (r.drop (sil false r))
theorem all_from (s : List UInt8) : all s = from_ 0 s := by unfold from_; rw [Nat.zero_add, all_scan']
theorem from_on (k e : Nat) (r : List UInt8) : from_ (e + k) r = ((from_ e r).1.map (T.on k), (from_ e r).2.map (· + k)) := by
  unfold from_
  rw [← scan'_on]
  congr 1; omega

theorem from_nl (t : List UInt8) : ∀ (m : Nat) (r : List UInt8) (e : Nat), r.length ≤ m →
    from_ e (r ++ 10 :: t) = match (from_ e r).2 with
      | some q => ((from_ e r).1, some q)
      | none => ((from_ e r).1 ++ (all t).1.map (T.on (e + r.length + 1)), (all t).2.map (· + (e + r.length + 1))) := by
  intro m
  induction m with
  | zero =>
    intro r e hr
    have h0 : r = [] := List.eq_nil_of_length_eq_zero (by omega)
    subst h0
    have h1 : from_ e [] = ([], none) := rfl
    have h2 : from_ e (10 :: t) = from_ (e + 1) t := by
      have e10 : sil false (10 :: t) = sil false t + 1 := by rw [sil, if_pos (by decide)]
      unfold from_
      rw [e10, List.drop_succ_cons]; congr 1; omega
    rw [List.nil_append, h1, h2, all_from]
    have h3 := from_on (e + 1) 0 t
    rw [Nat.zero_add] at h3
    rw [h3]; rfl
  | succ m ih =>
    intro r e hr
    have hs := sil_nl t r false
    have hle := sil_le r false
    by_cases hz : sil false r < r.length
    · rw [if_pos hz] at hs
      obtain ⟨z, hzz⟩ : ∃ z, z = sil false r := ⟨_, rfl⟩
      have e1 : from_ e (r ++ 10 :: t) = scan' (e + z) (r.drop z ++ 10 :: t) := by
        unfold from_
        rw [hs, ← hzz, List.drop_append_of_le_length (by omega)]
      have e2 : from_ e r = scan' (e + z) (r.drop z) := by unfold from_; rw [hzz]
      have hne : r.drop z ≠ [] := by intro h; have := congrArg List.length h; rw [List.length_drop, List.length_nil] at this; omega
      have hne2 : r.drop z ++ 10 :: t ≠ [] := by simp
      obtain ⟨l, hl⟩ : ∃ l, l = r.drop z := ⟨_, rfl⟩
      have hll : l.length = r.length - z := by rw [hl, List.length_drop]
      rw [← hl] at e1 e2 hne hne2
      rw [e1, e2]
      have ht := tok_nl l t hne
      by_cases h1 : (tok l).1 = 0
      · rw [scan'_bad _ _ hne2 (by rw [ht]; exact h1), scan'_bad _ _ hne h1]
      · have htl := tok_le l
        have hpos := tok_pos l h1
        have hih := ih (l.drop (tok l).2) (e + z + (tok l).2) (by rw [List.length_drop]; omega)
        rw [scan'_tok _ _ hne2 (by rw [ht]; exact h1), scan'_tok _ _ hne h1, ht, List.drop_append_of_le_length htl, List.take_append_of_le_length htl]
        have f1 : scan' (e + z + (tok l).2 + sil false (l.drop (tok l).2 ++ 10 :: t)) ((l.drop (tok l).2 ++ 10 :: t).drop (sil false (l.drop (tok l).2 ++ 10 :: t))) = from_ (e + z + (tok l).2) (l.drop (tok l).2 ++ 10 :: t) := rfl
        have f2 : scan' (e + z + (tok l).2 + sil false (l.drop (tok l).2)) ((l.drop (tok l).2).drop (sil false (l.drop (tok l).2))) = from_ (e + z + (tok l).2) (l.drop (tok l).2) := rfl
        rw [f1, f2, hih]
        have hlen : e + z + (tok l).2 + (l.drop (tok l).2).length + 1 = e + r.length + 1 := by rw [List.length_drop]; omega
        rw [hlen]
        cases (from_ (e + z + (tok l).2) (l.drop (tok l).2)).2 with
        | some q => rfl
        | none => rfl
    · rw [if_neg hz] at hs
      have e1 : from_ e (r ++ 10 :: t) = from_ (e + r.length + 1) t := by
        unfold from_
        rw [hs]
        have e3 : (r ++ 10 :: t).drop (r.length + 1 + sil false t) = t.drop (sil false t) := by
          rw [List.drop_append]
          have : r.length + 1 + sil false t - r.length = sil false t + 1 := by omega
          rw [this, List.drop_succ_cons, List.drop_eq_nil_of_le (by omega), List.nil_append]
        rw [e3]; congr 1; omega
      have e2 : from_ e r = ([], none) := by
        unfold from_
        rw [List.drop_eq_nil_of_le (by omega)]; rfl
      rw [e1, e2, all_from]
      have h3 := from_on (e + r.length + 1) 0 t
      rw [Nat.zero_add] at h3
      rw [h3]; rfl

theorem all_nl (s t : List UInt8) : all (s ++ 10 :: t) = match (all s).2 with
      | some q => ((all s).1, some q)
      | none => ((all s).1 ++ (all t).1.map (T.on (s.length + 1)), (all t).2.map (· + (s.length + 1))) := by
  rw [all_from (s ++ 10 :: t), all_from s, from_nl t s.length s 0 (Nat.le_refl _), Nat.zero_add]
end Go.To
