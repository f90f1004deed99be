/- Tokens, plainly. No program in sight. -/
namespace Go.To

def isL (c : UInt8) : Bool := (97 ≤ c.toNat && c.toNat ≤ 122) || (65 ≤ c.toNat && c.toNat ≤ 90)
def isD (c : UInt8) : Bool := 48 ≤ c.toNat && c.toNat ≤ 57
def isW (c : UInt8) : Bool := isL c || isD c || c.toNat == 95
def isB (c : UInt8) : Bool := c.toNat == 32 || c.toNat == 9 || c.toNat == 10 || c.toNat == 13

/-- The signs of one byte. -/
def isS (c : UInt8) : Bool := [43, 45, 42, 47, 94, 40, 41, 91, 93, 44, 59, 123, 125, 61, 60].contains c.toNat

/-- How many bytes at the beginning are some of these. -/
def run (p : UInt8 → Bool) : List UInt8 → Nat
  | [] => 0
  | c :: l => if p c then run p l + 1 else 0

def word (l : List UInt8) : Nat := if run isL l = 0 then 0 else run isW l
def number (l : List UInt8) : Nat := run isD l
def sign : List UInt8 → Nat
  | [] => 0
  | c :: l => if (c.toNat = 61 ∨ c.toNat = 33 ∨ c.toNat = 60) ∧ l.head? = some 61 then 2 else if isS c then 1 else 0

/-- How many bytes at the beginning say nothing (inside: of a comment). -/
def sil : Bool → List UInt8 → Nat
  | _, [] => 0
  | true, c :: l => if c.toNat = 10 then sil false l + 1 else sil true l + 1
  | false, c :: l => if isB c then sil false l + 1 else if c.toNat = 35 then sil true l + 1 else 0

/-- The kind of the token that stands at the beginning, how long it is; kind 0: none does. -/
def tok (l : List UInt8) : Nat × Nat := if 0 < word l then (1, word l) else if 0 < number l then (2, number l) else if 0 < sign l then (3, sign l) else (0, 0)

structure T where
  kind : Nat
  text : List UInt8
  pos : Nat
deriving DecidableEq

/-- All tokens of what is left, from a place on at which none is silent; the place where there is none. -/
def scan : Nat → Nat → List UInt8 → List T × Option Nat
  | 0, _, _ => ([], none)
  | f + 1, p, l =>
    if l = [] then ([], none)
    else if (tok l).1 = 0 then ([], some p)
    else (⟨(tok l).1, l.take (tok l).2, p⟩ :: (scan f (p + (tok l).2 + sil false (l.drop (tok l).2)) ((l.drop (tok l).2).drop (sil false (l.drop (tok l).2)))).1,
      (scan f (p + (tok l).2 + sil false (l.drop (tok l).2)) ((l.drop (tok l).2).drop (sil false (l.drop (tok l).2)))).2)

def all (s : List UInt8) : List T × Option Nat := scan (s.length + 1) (sil false s) (s.drop (sil false s))

/-- The tokens; the place; the error's number. -/
def read (s : List UInt8) : List T × Nat × Nat :=
  if 65536 < s.length then ([], 0, 3) else
  match (all s).2 with
  | some p => ([], p, 4)
  | none => ((all s).1, 0, 0)

def own : List (List UInt8) := [[102, 110], [105, 102], [101, 108, 115, 101], [119, 104, 105, 108, 101], [114, 101, 116, 117, 114, 110], [116, 101, 108, 108], [110, 111, 116]]

def name (s : List UInt8) : Bool := !own.contains s && !s.isEmpty && word s == s.length

theorem run_le (p : UInt8 → Bool) (l : List UInt8) : run p l ≤ l.length := by
  induction l with
  | nil => exact Nat.le_refl _
  | cons c l ih => unfold run; split <;> simp <;> omega
theorem word_le (l : List UInt8) : word l ≤ l.length := by unfold word; split; exact Nat.zero_le _; exact run_le _ _
theorem sign_cons (c : UInt8) (l : List UInt8) : sign (c :: l) = if (c.toNat = 61 ∨ c.toNat = 33 ∨ c.toNat = 60) ∧ l.head? = some 61 then 2 else if isS c then 1 else 0 := rfl
theorem sign_le (l : List UInt8) : sign l ≤ l.length := by
  cases l with
  | nil => exact Nat.le_refl _
  | cons c l =>
    rw [sign_cons]
    by_cases h : (c.toNat = 61 ∨ c.toNat = 33 ∨ c.toNat = 60) ∧ l.head? = some 61
    · rw [if_pos h]
      cases l with
      | nil => cases h.2
      | cons d l => simp
    · rw [if_neg h]
      by_cases h2 : isS c = true
      · rw [if_pos h2]; simp
      · rw [if_neg h2]; simp
theorem tok_le (l : List UInt8) : (tok l).2 ≤ l.length := by
  unfold tok
  split
  · exact word_le l
  · split
    · exact run_le _ _
    · split
      · exact sign_le l
      · exact Nat.zero_le _
theorem tok_pos (l : List UInt8) (h : (tok l).1 ≠ 0) : 0 < (tok l).2 := by
  unfold tok at h ⊢
  split
  · assumption
  · split
    · assumption
    · split
      · assumption
      · rename_i h1 h2 h3; simp [h1, h2, h3] at h
theorem tok_kind (l : List UInt8) : (tok l).1 ≤ 3 := by
  unfold tok
  split
  · exact (by decide : 1 ≤ 3)
  · split
    · exact (by decide : 2 ≤ 3)
    · split
      · exact (by decide : 3 ≤ 3)
      · exact (by decide : 0 ≤ 3)
theorem sil_le : ∀ (l : List UInt8) (b : Bool), sil b l ≤ l.length := by
  intro l
  induction l with
  | nil => intro b; unfold sil; exact Nat.zero_le _
  | cons c l ih =>
    intro b
    have h1 := ih true
    have h2 := ih false
    cases b
    · unfold sil; split
      · simp; omega
      · split <;> simp; omega
    · unfold sil; split <;> simp <;> omega

/-- The same, whatever more steps there are. -/
theorem scan_fuel : ∀ (f : Nat) (p : Nat) (l : List UInt8), l.length < f → ∀ k, scan (f + k) p l = scan f p l := by
  intro f
  induction f with
  | zero => intro p l h; exact absurd h (Nat.not_lt_zero _)
  | succ f ih =>
    intro p l h k
    rw [Nat.succ_add, scan, scan]
    split
    · rfl
    · split
      · rfl
      · rename_i h0 h1
        have hp := tok_pos l h1
        have hl : 0 < l.length := by cases l with | nil => exact absurd rfl h0 | cons _ _ => simp
        have hle : ((l.drop (tok l).2).drop (sil false (l.drop (tok l).2))).length < f := by rw [List.length_drop, List.length_drop]; omega
        rw [ih _ _ hle k]

/-- With just as many steps as there are bytes, and one. -/
def scan' (p : Nat) (l : List UInt8) : List T × Option Nat := scan (l.length + 1) p l

theorem scan'_nil (p : Nat) : scan' p [] = ([], none) := rfl
theorem scan'_bad (p : Nat) (l : List UInt8) (h : l ≠ []) (h0 : (tok l).1 = 0) : scan' p l = ([], some p) := by
  unfold scan'; rw [scan, if_neg h, if_pos h0]
theorem scan'_tok (p : Nat) (l : List UInt8) (h : l ≠ []) (h0 : (tok l).1 ≠ 0) :
    scan' p l = (⟨(tok l).1, l.take (tok l).2, p⟩ :: (scan' (p + (tok l).2 + sil false (l.drop (tok l).2)) ((l.drop (tok l).2).drop (sil false (l.drop (tok l).2)))).1,
      (scan' (p + (tok l).2 + sil false (l.drop (tok l).2)) ((l.drop (tok l).2).drop (sil false (l.drop (tok l).2)))).2) := by
  have hp := tok_pos l h0
  have hl : 0 < l.length := by cases l with | nil => exact absurd rfl h | cons _ _ => simp
  have e : ∀ q (r : List UInt8), r.length < l.length → scan l.length q r = scan' q r := by
    intro q r hr
    unfold scan'
    have := scan_fuel (r.length + 1) q r (Nat.lt_succ_self _) (l.length - (r.length + 1))
    rw [← this]; congr 1; omega
  have hle : ((l.drop (tok l).2).drop (sil false (l.drop (tok l).2))).length < l.length := by rw [List.length_drop, List.length_drop]; omega
  have e1 : scan' p l = scan (l.length + 1) p l := rfl
  rw [e1, scan, if_neg h, if_neg h0, e _ _ hle]

theorem all_scan' (s : List UInt8) : all s = scan' (sil false s) (s.drop (sil false s)) := by
  unfold all scan'
  have h : (s.drop (sil false s)).length + 1 ≤ s.length + 1 := by rw [List.length_drop]; omega
  have := scan_fuel ((s.drop (sil false s)).length + 1) (sil false s) (s.drop (sil false s)) (Nat.lt_succ_self _) (s.length - (s.drop (sil false s)).length)
  rw [← this]; congr 1; rw [List.length_drop]; have := sil_le s false; omega
end Go.To
