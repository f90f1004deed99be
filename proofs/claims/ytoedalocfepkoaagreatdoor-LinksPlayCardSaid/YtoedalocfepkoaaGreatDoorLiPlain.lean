/- Links, plainly: an end. No program in sight. -/
namespace Go.Li

def M : Nat := 4294967296

structure St where
  waits : List (List UInt8)
  first : Nat
  awaited : Nat
  early : Nat → Option (List UInt8)
  came : Bool

/-- How far n lies behind a. -/
def far (n a : Nat) : Nat := (n + M - a) % M

def be4 (n : Nat) : List UInt8 := [UInt8.ofNat (n / 16777216), UInt8.ofNat (n / 65536), UInt8.ofNat (n / 256), UInt8.ofNat n]

def packet (kind : UInt8) (n : Nat) (more : List UInt8) : List UInt8 := kind :: be4 n ++ more

def fresh : St := ⟨[], 0, 0, fun _ => none, false⟩

/-- The data packets, from the i-th on. -/
def datas (first : Nat) : Nat → List (List UInt8) → List (List UInt8)
  | _, [] => []
  | i, b :: l => packet 68 ((first + i) % M) b :: datas first (i + 1) l

def packets (s : St) : List (List UInt8) := datas s.first 0 s.waits ++ (if s.came then [packet 65 s.awaited []] else [])

def known (s : St) (n : Nat) : St := if far n s.first ≤ s.waits.length then { s with waits := s.waits.drop (far n s.first), first := n } else s

/-- Without what is at a key. -/
def without (f : Nat → Option (List UInt8)) (n : Nat) : Nat → Option (List UInt8) := fun i => if i = n then none else f i
def withAt (f : Nat → Option (List UInt8)) (n : Nat) (b : List UInt8) : Nat → Option (List UInt8) := fun i => if i = n then some b else f i

/-- All that are awaited, one behind the other, k at most. -/
def drain : Nat → St → List (List UInt8) × St
  | 0, s => ([], s)
  | k + 1, s => match s.early s.awaited with
    | none => ([], s)
    | some b => (b :: (drain k { s with early := without s.early s.awaited, awaited := (s.awaited + 1) % M }).1, (drain k { s with early := without s.early s.awaited, awaited := (s.awaited + 1) % M }).2)

/-- A message is laid by, if it is to be. -/
def laid (s : St) (n : Nat) (b : List UInt8) : St :=
  { s with came := true, early := if s.early n = none ∧ far n s.awaited < 16 then withAt s.early n b else s.early }

def take (s : St) (n : Nat) (b : List UInt8) : List (List UInt8) × St := drain 16 (laid s n b)

/-- The number in a packet. -/
def num (b : List UInt8) : Nat := (b[1]?.getD 0).toNat * 16777216 + (b[2]?.getD 0).toNat * 65536 + (b[3]?.getD 0).toNat * 256 + (b[4]?.getD 0).toNat

/-- What is told, the error's number, the end behind it. -/
def came (s : St) (b : List UInt8) : List (List UInt8) × Nat × St :=
  if b.length < 5 ∨ 65541 < b.length then ([], 4, s)
  else if b[0]?.getD 0 = 68 then ((take s (num b) (b.drop 5)).1, 0, (take s (num b) (b.drop 5)).2)
  else if b[0]?.getD 0 = 65 ∧ b.length = 5 then ([], 0, known s (num b))
  else ([], 4, s)

/-- All keys are within k of what is awaited. -/
def Win (k : Nat) (s : St) : Prop := s.awaited < M ∧ s.first < M ∧ ∀ n, s.early n ≠ none → n < M ∧ far n s.awaited < k

theorem num_lt (b : List UInt8) : num b < M := by
  have h1 := (b[1]?.getD 0).toNat_lt
  have h2 := (b[2]?.getD 0).toNat_lt
  have h3 := (b[3]?.getD 0).toNat_lt
  have h4 := (b[4]?.getD 0).toNat_lt
  unfold num M
  omega

theorem win_fresh (k : Nat) : Win k fresh := ⟨by decide, by decide, fun n h => absurd rfl h⟩

theorem far_self (a : Nat) (h : a < M) : far a a = 0 := by
  unfold far M at *; omega

theorem far_step {n a k : Nat} (hn : n < M) (ha : a < M) (hne : n ≠ a) (h : far n a < k + 1) : far n ((a + 1) % M) < k := by
  unfold far M at *
  omega

/-- One round of the drain. -/
theorem win_next {k : Nat} {s : St} (h : Win (k + 1) s) : Win k { s with early := without s.early s.awaited, awaited := (s.awaited + 1) % M } := by
  obtain ⟨h1, h2, h3⟩ := h
  refine ⟨Nat.mod_lt _ (by decide), h2, fun n hn => ?_⟩
  simp only [without] at hn
  by_cases e : n = s.awaited
  · rw [if_pos e] at hn; exact absurd rfl hn
  · rw [if_neg e] at hn
    exact ⟨(h3 n hn).1, far_step (h3 n hn).1 h1 e (h3 n hn).2⟩

theorem win_none {s : St} (h : Win 0 s) (n : Nat) : s.early n = none := by
  cases e : s.early n with
  | none => rfl
  | some b => exact absurd (h.2.2 n (by rw [e]; simp)).2 (Nat.not_lt_zero _)

theorem win_laid {s : St} (h : Win 16 s) (n : Nat) (hn : n < M) (b : List UInt8) : Win 16 (laid s n b) := by
  refine ⟨h.1, h.2.1, fun i hi => ?_⟩
  simp only [laid] at hi ⊢
  by_cases e : s.early n = none ∧ far n s.awaited < 16
  · rw [if_pos e] at hi
    simp only [withAt] at hi
    by_cases e2 : i = n
    · rw [e2]; exact ⟨hn, e.2⟩
    · rw [if_neg e2] at hi; exact h.2.2 i hi
  · rw [if_neg e] at hi; exact h.2.2 i hi

theorem win_mono {k j : Nat} {s : St} (h : Win k s) (hk : k ≤ j) : Win j s := ⟨h.1, h.2.1, fun n hn => ⟨(h.2.2 n hn).1, Nat.lt_of_lt_of_le (h.2.2 n hn).2 hk⟩⟩

theorem win_drain : ∀ (k : Nat) (s : St), Win k s → Win k (drain k s).2 := by
  intro k
  induction k with
  | zero => intro s h; exact h
  | succ k ih =>
    intro s h
    unfold drain
    cases e : s.early s.awaited with
    | none => exact h
    | some b => exact win_mono (ih _ (win_next h)) (by omega)

theorem win_take {s : St} (h : Win 16 s) (n : Nat) (hn : n < M) (b : List UInt8) : Win 16 (take s n b).2 := win_drain 16 _ (win_laid h n hn b)

theorem win_known {s : St} (h : Win 16 s) (n : Nat) (hn : n < M) : Win 16 (known s n) := by
  unfold known
  split
  · exact ⟨h.1, hn, h.2.2⟩
  · exact h

theorem win_came {s : St} (h : Win 16 s) (b : List UInt8) : Win 16 (came s b).2.2 := by
  unfold came
  split
  · exact h
  · split
    · exact win_take h _ (num_lt b) _
    · split
      · exact win_known h _ (num_lt b)
      · exact h

/-- What stands at the end of a drain is not there. -/
theorem drain_end : ∀ (k : Nat) (s : St), Win k s → (drain k s).2.early (drain k s).2.awaited = none := by
  intro k
  induction k with
  | zero => intro s h; exact win_none h _
  | succ k ih =>
    intro s h
    unfold drain
    cases e : s.early s.awaited with
    | none => exact e
    | some b => exact ih _ (win_next h)

theorem length_packet (k : UInt8) (n : Nat) (m : List UInt8) : (packet k n m).length = 5 + m.length := by simp [packet, be4]; omega

theorem num_packet (k : UInt8) (n : Nat) (hn : n < M) (m : List UInt8) : num (packet k n m) = n := by
  unfold M at hn
  simp [num, packet, be4]
  omega

end Go.Li
