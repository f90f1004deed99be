/- Tokens: the tokens of a text, with what says nothing between them. No program in sight. -/
import Derived.Test.YtmohejemgpnclaaDoorToAhPlain
namespace Go.To

theorem run_cons (p : UInt8 → Bool) (c : UInt8) (l : List UInt8) : run p (c :: l) = if p c then run p l + 1 else 0 := rfl

/-- What a run does where its bytes stand alone, a byte that is none behind them. -/
theorem run_take (p : UInt8 → Bool) (c : UInt8) (hc : p c = false) (r : List UInt8) : ∀ (l : List UInt8) (n : Nat), n ≤ run p l → run p (l.take n ++ c :: r) = n := by
  intro l
  induction l with
  | nil => intro n hn; have : n = 0 := Nat.le_zero.1 hn; subst this; simp [run_cons, hc]
  | cons d l ih =>
    intro n hn
    cases n with
    | zero => simp [run_cons, hc]
    | succ n =>
      rw [run_cons] at hn
      by_cases hd : p d = true
      · rw [if_pos hd] at hn
        rw [List.take_succ_cons, List.cons_append, run_cons, if_pos hd, ih n (by omega)]
      · rw [if_neg hd] at hn; omega

theorem isL_W (c : UInt8) (h : isL c = true) : isW c = true := by unfold isW; rw [h]; rfl
theorem run_pos (p : UInt8 → Bool) (c : UInt8) (l : List UInt8) : 0 < run p (c :: l) ↔ p c = true := by
  rw [run_cons]; split <;> simp_all

/-- A token, alone, what says nothing behind it. -/
structure Good (x : T) : Prop where
  kind : x.kind ≠ 0
  head : ∃ c r, x.text = c :: r ∧ isB c = false ∧ c.toNat ≠ 35
  alone : ∀ (c : UInt8) (r : List UInt8), isB c = true → tok (x.text ++ c :: r) = (x.kind, x.text.length)

theorem blank_not (c : UInt8) (h : isB c = true) : isL c = false ∧ isD c = false ∧ isW c = false ∧ isS c = false ∧ c ≠ 61 := by
  have hc : c.toNat = 32 ∨ c.toNat = 9 ∨ c.toNat = 10 ∨ c.toNat = 13 := by unfold isB at h; simp at h; omega
  have e : ∀ n, c.toNat = n → n < 256 → c = UInt8.ofNat n := fun n hn hlt => by
    apply UInt8.toNat_inj.1; rw [hn]; simp; omega
  rcases hc with h1 | h1 | h1 | h1
  all_goals (rw [e _ h1 (by omega)]; decide)

theorem tok_good (l : List UInt8) (p : Nat) (h : (tok l).1 ≠ 0) : Good ⟨(tok l).1, l.take (tok l).2, p⟩ := by
  cases l with
  | nil => exact absurd rfl h
  | cons c0 l0 =>
    have hw : 0 < word (c0 :: l0) ↔ isL c0 = true := by
      unfold word
      constructor
      · intro hp
        split at hp
        · omega
        · rename_i hn; exact (run_pos _ _ _).1 (Nat.pos_of_ne_zero hn)
      · intro hp
        have h1 := (run_pos isL c0 l0).2 hp
        rw [if_neg (by omega)]
        exact (run_pos isW c0 l0).2 (isL_W _ hp)
    by_cases h1 : 0 < word (c0 :: l0)
    · have hL := hw.1 h1
      have e : tok (c0 :: l0) = (1, word (c0 :: l0)) := by unfold tok; rw [if_pos h1]
      have ew : word (c0 :: l0) = run isW (c0 :: l0) := by
        unfold word; rw [if_neg]; have := (run_pos isL c0 l0).2 hL; omega
      rw [e]
      obtain ⟨n, hn⟩ : ∃ n, word (c0 :: l0) = n + 1 := ⟨word (c0 :: l0) - 1, by omega⟩
      refine ⟨by simp, ⟨c0, l0.take n, by rw [hn]; rfl, ?_, ?_⟩, ?_⟩
      · cases hb : isB c0 with
        | false => rfl
        | true => have := (blank_not c0 hb).1; rw [hL] at this; cases this
      · intro h35; unfold isL at hL; simp [h35] at hL
      · intro c r hb
        obtain ⟨b1, b2, b3, b4, b5⟩ := blank_not c hb
        have hr := run_take isW c b3 r (c0 :: l0) (word (c0 :: l0)) (by rw [ew]; exact Nat.le_refl _)
        have hl : ((c0 :: l0).take (word (c0 :: l0))).length = word (c0 :: l0) := by rw [List.length_take]; have := word_le (c0 :: l0); omega
        have hw2 : word ((c0 :: l0).take (word (c0 :: l0)) ++ c :: r) = word (c0 :: l0) := by
          have hne : run isL ((c0 :: l0).take (word (c0 :: l0)) ++ c :: r) ≠ 0 := by
            rw [hn, List.take_succ_cons, List.cons_append]
            have := (run_pos isL c0 (l0.take n ++ c :: r)).2 hL
            omega
          show (if run isL ((c0 :: l0).take (word (c0 :: l0)) ++ c :: r) = 0 then 0 else run isW ((c0 :: l0).take (word (c0 :: l0)) ++ c :: r)) = _
          rw [if_neg hne]; exact hr
        show tok ((c0 :: l0).take (word (c0 :: l0)) ++ c :: r) = (1, _)
        unfold tok
        rw [hw2, if_pos h1, hl]
    · have hL : isL c0 = false := by cases hh : isL c0 with | false => rfl | true => exact absurd (hw.2 hh) h1
      have hw0 : ∀ r, word (c0 :: r) = 0 := fun r => by unfold word; rw [if_pos]; rw [run_cons, hL]; rfl
      by_cases h2 : 0 < number (c0 :: l0)
      · have hD : isD c0 = true := (run_pos isD c0 l0).1 h2
        have e : tok (c0 :: l0) = (2, number (c0 :: l0)) := by unfold tok; rw [if_neg h1, if_pos h2]
        rw [e]
        obtain ⟨n, hn⟩ : ∃ n, number (c0 :: l0) = n + 1 := ⟨number (c0 :: l0) - 1, by omega⟩
        refine ⟨by simp, ⟨c0, l0.take n, by rw [hn]; rfl, ?_, ?_⟩, ?_⟩
        · cases hb : isB c0 with
          | false => rfl
          | true => have := (blank_not c0 hb).2.1; rw [hD] at this; cases this
        · intro h35; unfold isD at hD; simp [h35] at hD
        · intro c r hb
          obtain ⟨b1, b2, b3, b4, b5⟩ := blank_not c hb
          have hr := run_take isD c b2 r (c0 :: l0) (number (c0 :: l0)) (Nat.le_refl _)
          have hl : ((c0 :: l0).take (number (c0 :: l0))).length = number (c0 :: l0) := by rw [List.length_take]; have := run_le isD (c0 :: l0); unfold number; omega
          have hw2 : word ((c0 :: l0).take (number (c0 :: l0)) ++ c :: r) = 0 := by rw [hn, List.take_succ_cons, List.cons_append]; exact hw0 _
          have hn2 : number ((c0 :: l0).take (number (c0 :: l0)) ++ c :: r) = number (c0 :: l0) := hr
          show tok ((c0 :: l0).take (number (c0 :: l0)) ++ c :: r) = (2, _)
          unfold tok
          rw [hw2, hn2, if_neg (by omega), if_pos h2, hl]
      · have hD : isD c0 = false := by cases hh : isD c0 with | false => rfl | true => exact absurd ((run_pos isD c0 l0).2 hh) h2
        have hn0 : ∀ r, number (c0 :: r) = 0 := fun r => by unfold number; rw [run_cons, hD]; rfl
        by_cases h3 : 0 < sign (c0 :: l0)
        · have e : tok (c0 :: l0) = (3, sign (c0 :: l0)) := by unfold tok; rw [if_neg h1, if_neg h2, if_pos h3]
          rw [e]
          rw [sign_cons] at h3 ⊢
          by_cases hs : (c0.toNat = 61 ∨ c0.toNat = 33 ∨ c0.toNat = 60) ∧ l0.head? = some 61
          · rw [if_pos hs]
            obtain ⟨l1, rfl⟩ : ∃ l1, l0 = 61 :: l1 := by
              cases l0 with
              | nil => cases hs.2
              | cons d l1 => exact ⟨l1, by have := hs.2; simp at this; rw [this]⟩
            refine ⟨by simp, ⟨c0, [61], rfl, ?_, ?_⟩, ?_⟩
            · unfold isB; simp; omega
            · omega
            · intro c r hb
              show tok (c0 :: 61 :: c :: r) = (3, 2)
              have e1 : sign (c0 :: 61 :: c :: r) = 2 := by rw [sign_cons, if_pos ⟨hs.1, rfl⟩]
              unfold tok
              rw [hw0, hn0, e1]; rfl
          · rw [if_neg hs] at h3 ⊢
            have hS : isS c0 = true := by
              cases hh : isS c0 with
              | true => rfl
              | false => rw [hh] at h3; simp at h3
            rw [if_pos hS]
            refine ⟨by simp, ⟨c0, [], rfl, ?_, ?_⟩, ?_⟩
            · cases hb : isB c0 with
              | false => rfl
              | true => have := (blank_not c0 hb).2.2.2.1; rw [hS] at this; cases this
            · intro h35
              have : c0 = 35 := UInt8.toNat_inj.1 h35
              rw [this] at hS; revert hS; decide
            · intro c r hb
              obtain ⟨b1, b2, b3, b4, b5⟩ := blank_not c hb
              show tok (c0 :: c :: r) = (3, 1)
              have e1 : sign (c0 :: c :: r) = 1 := by
                rw [sign_cons, if_neg (by rintro ⟨_, h⟩; simp at h; exact b5 h), if_pos hS]
              unfold tok
              rw [hw0, hn0, e1]; rfl
        · exfalso; apply h; unfold tok; rw [if_neg h1, if_neg h2, if_neg h3]

theorem scan_good : ∀ (f p : Nat) (l : List UInt8) (x : T), x ∈ (scan f p l).1 → Good x := by
  intro f
  induction f with
  | zero => intro p l x h; cases h
  | succ f ih =>
    intro p l x h
    rw [scan] at h
    split at h
    · cases h
    · split at h
      · cases h
      · rename_i h1
        rcases List.mem_cons.1 h with rfl | h
        · exact tok_good l p h1
        · exact ih _ _ _ h
theorem all_good (s : List UInt8) (x : T) (h : x ∈ (all s).1) : Good x := scan_good _ _ _ _ h

/-- How many bytes tokens have, all together. -/
def bytes : List T → Nat
  | [] => 0
  | x :: xs => x.text.length + bytes xs
theorem scan_bytes : ∀ (f p : Nat) (l : List UInt8), bytes (scan f p l).1 ≤ l.length := by
  intro f
  induction f with
  | zero => intro p l; exact Nat.zero_le _
  | succ f ih =>
    intro p l
    rw [scan]
    split
    · exact Nat.zero_le _
    · split
      · exact Nat.zero_le _
      · have h := ih (p + (tok l).2 + sil false (l.drop (tok l).2)) ((l.drop (tok l).2).drop (sil false (l.drop (tok l).2)))
        have h2 := tok_le l
        simp only [bytes]
        rw [List.length_drop, List.length_drop] at h
        rw [List.length_take]
        omega
theorem all_bytes (s : List UInt8) : bytes (all s).1 ≤ s.length := by
  have := scan_bytes (s.length + 1) (sil false s) (s.drop (sil false s))
  rw [List.length_drop] at this
  exact Nat.le_trans this (Nat.sub_le _ _)

/-- The text of tokens, what says nothing behind each. -/
def txt (b : List UInt8) : List T → List UInt8
  | [] => []
  | x :: xs => x.text ++ (b ++ txt b xs)
theorem txt_snoc (b : List UInt8) (x : T) : ∀ xs, txt b (xs ++ [x]) = txt b xs ++ x.text ++ b := by
  intro xs
  induction xs with
  | nil => simp [txt]
  | cons y xs ih => rw [List.cons_append, txt, txt, ih]; simp [List.append_assoc]
theorem txt_len (b : List UInt8) : ∀ xs, (txt b xs).length = bytes xs + xs.length * b.length := by
  intro xs
  induction xs with
  | nil => simp [txt, bytes]
  | cons y xs ih => rw [txt, bytes, List.length_append, List.length_append, ih, List.length_cons, Nat.succ_mul]; omega
theorem bytes_take : ∀ (xs : List T) (i : Nat), bytes (xs.take i) ≤ bytes xs := by
  intro xs
  induction xs with
  | nil => intro i; simp [bytes]
  | cons y xs ih =>
    intro i
    cases i with
    | zero => exact Nat.zero_le _
    | succ i => rw [List.take_succ_cons, bytes, bytes]; have := ih i; omega

theorem bytes_mem : ∀ (xs : List T) (i : Nat) (hi : i < xs.length), (xs[i]).text.length ≤ bytes xs := by
  intro xs
  induction xs with
  | nil => intro i hi; exact absurd hi (Nat.not_lt_zero _)
  | cons y xs ih =>
    intro i hi
    cases i with
    | zero => simp [bytes]
    | succ i => have := ih i (by simpa using hi); simp only [List.getElem_cons_succ, bytes]; omega

theorem map_at {xs ys : List T} (h : ys.map (fun y => (y.kind, y.text)) = xs.map (fun y => (y.kind, y.text))) (i : Nat) (h1 : i < ys.length) (h2 : i < xs.length) : (ys[i]).kind = (xs[i]).kind ∧ (ys[i]).text = (xs[i]).text := by
  have h3 : (ys.map (fun y => (y.kind, y.text)))[i]? = (xs.map (fun y => (y.kind, y.text)))[i]? := by rw [h]
  rw [List.getElem?_map, List.getElem?_map, List.getElem?_eq_getElem h1, List.getElem?_eq_getElem h2] at h3
  simp at h3
  exact h3

/-- What says nothing, whatever stands behind it, and begins with a blank. -/
def Blank (b : List UInt8) : Prop := (∃ c r, b = c :: r ∧ isB c = true) ∧ ∀ r, sil false (b ++ r) = b.length + sil false r

theorem from_blank {b : List UInt8} (hb : Blank b) (e : Nat) (r : List UInt8) : from_ e (b ++ r) = from_ (e + b.length) r := by
  unfold from_
  rw [hb.2, List.drop_append, List.drop_eq_nil_of_le (by omega), List.nil_append]
  congr 1
  · omega
  · congr 1; omega

theorem sil_head (c : UInt8) (r : List UInt8) (h : isB c = false) (h2 : c.toNat ≠ 35) : sil false (c :: r) = 0 := by
  rw [sil, h]; simp [h2]

theorem from_txt {b : List UInt8} (hb : Blank b) : ∀ (xs : List T) (e : Nat), (∀ x ∈ xs, Good x) →
    ∃ ys, from_ e (txt b xs) = (ys, none) ∧ ys.map (fun y => (y.kind, y.text)) = xs.map (fun y => (y.kind, y.text)) := by
  intro xs
  induction xs with
  | nil => intro e _; exact ⟨[], rfl, rfl⟩
  | cons x xs ih =>
    intro e hg
    have hx := hg x (List.mem_cons_self ..)
    obtain ⟨ys, h1, h2⟩ := ih (e + x.text.length + b.length) (fun y hy => hg y (List.mem_cons_of_mem _ hy))
    obtain ⟨c, r, hc, hB, h35⟩ := hx.head
    obtain ⟨d, q, hd, hdB⟩ := hb.1
    have ht : tok (txt b (x :: xs)) = (x.kind, x.text.length) := by
      rw [txt, hd, List.cons_append]; exact hx.alone d _ hdB
    have hs : sil false (txt b (x :: xs)) = 0 := by rw [txt, hc, List.cons_append]; exact sil_head _ _ hB h35
    have hne : txt b (x :: xs) ≠ [] := by rw [txt, hc]; simp
    have hf : from_ e (txt b (x :: xs)) = scan' e (txt b (x :: xs)) := by unfold from_; rw [hs]; rfl
    have htk : (txt b (x :: xs)).take x.text.length = x.text := by rw [txt]; exact List.take_left' rfl
    have hdr : (txt b (x :: xs)).drop x.text.length = b ++ txt b xs := by rw [txt]; exact List.drop_left' rfl
    rw [hf, scan'_tok _ _ hne (by rw [ht]; exact hx.kind), ht]
    simp only [htk, hdr]
    have hf2 : scan' (e + x.text.length + sil false (b ++ txt b xs)) ((b ++ txt b xs).drop (sil false (b ++ txt b xs))) = from_ (e + x.text.length) (b ++ txt b xs) := rfl
    rw [hf2, from_blank hb, h1]
    exact ⟨_, rfl, by rw [List.map_cons, List.map_cons, h2]⟩

def blanks (k : Nat) : List UInt8 := if k = 0 then [32] else if k = 1 then [10] else if k = 2 then [9, 13, 10] else [32, 35, 32, 61, 32, 120, 10]
theorem blanks_are (k : Nat) : Blank (blanks k) := by
  unfold blanks
  split
  · exact ⟨⟨32, [], rfl, by decide⟩, fun r => by simp [sil, isB]; omega⟩
  · split
    · exact ⟨⟨10, [], rfl, by decide⟩, fun r => by simp [sil, isB]; omega⟩
    · split
      · exact ⟨⟨9, _, rfl, by decide⟩, fun r => by simp [sil, isB]; omega⟩
      · exact ⟨⟨32, _, rfl, by decide⟩, fun r => by simp [sil, isB]; omega⟩
theorem blanks_len (k : Nat) : 1 ≤ (blanks k).length ∧ (blanks k).length ≤ 7 := by
  unfold blanks
  split
  · decide
  · split
    · decide
    · split <;> decide

/-- All tokens of that text. -/
theorem all_txt {b : List UInt8} (hb : Blank b) (xs : List T) (hg : ∀ x ∈ xs, Good x) : ∃ ys, all (b ++ txt b xs) = (ys, none) ∧ ys.map (fun y => (y.kind, y.text)) = xs.map (fun y => (y.kind, y.text)) := by
  rw [all_from, from_blank hb]
  exact from_txt hb xs _ hg

theorem scan_count : ∀ (f p : Nat) (l : List UInt8), (scan f p l).1.length ≤ l.length := by
  intro f
  induction f with
  | zero => intro p l; exact Nat.zero_le _
  | succ f ih =>
    intro p l
    rw [scan]
    split
    · exact Nat.zero_le _
    · split
      · exact Nat.zero_le _
      · rename_i h0 h1
        have hp := tok_pos l h1
        have hl : 0 < l.length := by cases l with | nil => exact absurd rfl h0 | cons _ _ => simp
        have := ih (p + (tok l).2 + sil false (l.drop (tok l).2)) ((l.drop (tok l).2).drop (sil false (l.drop (tok l).2)))
        rw [List.length_drop, List.length_drop] at this
        rw [List.length_cons]
        omega
theorem again_read {b : List UInt8} (hb : Blank b) (h7 : b.length ≤ 7) (s : List UInt8) (hs : s.length ≤ 3000) :
    ∃ ys, read (b ++ txt b (all s).1) = (ys, 0, 0) ∧ ys.map (fun y => (y.kind, y.text)) = (all s).1.map (fun y => (y.kind, y.text)) := by
  obtain ⟨ys, h1, h2⟩ := all_txt hb (all s).1 (fun x hx => all_good s x hx)
  refine ⟨ys, ?_, h2⟩
  have hl : (b ++ txt b (all s).1).length ≤ 65536 := by
    have := all_bytes s
    have h3 := scan_count (s.length + 1) (sil false s) (s.drop (sil false s))
    rw [List.length_drop] at h3
    have h4 : (all s).1.length ≤ 3000 := by unfold all; omega
    rw [List.length_append, txt_len]
    have h5 : (all s).1.length * b.length ≤ 3000 * 7 := Nat.mul_le_mul h4 h7
    omega
  unfold read
  rw [if_neg (by omega), h1]
end Go.To
