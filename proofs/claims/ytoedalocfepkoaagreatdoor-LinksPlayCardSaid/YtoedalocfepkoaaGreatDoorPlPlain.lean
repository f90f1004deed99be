/- Links, plainly: how much is told at a time. No program in sight. -/
import Derived.Test.YtoedalocfepkoaaGreatDoorLpPlain
namespace Go.Li

theorem drain_length : ∀ (k : Nat) (s : St), (drain k s).1.length ≤ k := by
  intro k
  induction k with
  | zero => intro s; exact Nat.le_refl _
  | succ k ih =>
    intro s
    unfold drain
    split
    · exact Nat.zero_le _
    · simp only [List.length_cons]; have := ih { s with early := without s.early s.awaited, awaited := (s.awaited + 1) % M }; omega

theorem drain_awaited : ∀ (k : Nat) (s : St), s.awaited < M → (drain k s).2.awaited = (s.awaited + (drain k s).1.length) % M := by
  intro k
  induction k with
  | zero => intro s h; simp [drain]; exact (Nat.mod_eq_of_lt h).symm
  | succ k ih =>
    intro s h
    unfold drain
    split
    · simp; exact (Nat.mod_eq_of_lt h).symm
    · have := ih { s with early := without s.early s.awaited, awaited := (s.awaited + 1) % M } (Nat.mod_lt _ (by decide))
      simp only [this, List.length_cons]
      unfold M; omega

theorem drain_small : ∀ (k : Nat) (s : St) (n : Nat), (∀ i b, s.early i = some b → b.length ≤ n) → ∀ f ∈ (drain k s).1, f.length ≤ n := by
  intro k
  induction k with
  | zero => intro s n h f hf; cases hf
  | succ k ih =>
    intro s n h f hf
    unfold drain at hf
    split at hf
    · cases hf
    · rename_i b hb
      rcases List.mem_cons.1 hf with rfl | hf
      · exact h _ _ hb
      · refine ih _ n ?_ f hf
        intro i b hi
        simp only [without] at hi
        by_cases e : i = s.awaited
        · rw [if_pos e] at hi; cases hi
        · rw [if_neg e] at hi; exact h i b hi

theorem laid_small {s : St} {n : Nat} {b : List UInt8} {m : Nat} (h : ∀ i b, s.early i = some b → b.length ≤ m) (hb : b.length ≤ m) : ∀ i c, (laid s n b).early i = some c → c.length ≤ m := by
  intro i c hc
  unfold laid at hc
  simp only at hc
  split at hc
  · simp only [withAt] at hc
    by_cases e : i = n
    · rw [if_pos e] at hc; cases hc; exact hb
    · rw [if_neg e] at hc; exact h i c hc
  · exact h i c hc

def Told3 (a : Nat) (r : List (List UInt8) × Nat × St) : Prop := r.1.length ≤ 16 ∧ (∀ f ∈ r.1, f.length ≤ 65536) ∧ r.2.2.awaited = (a + r.1.length) % M
theorem told_none (a e : Nat) (s : St) (ha : s.awaited = a) (hw : a < M) : Told3 a ([], e, s) := by
  refine ⟨Nat.zero_le _, fun f hf => (by cases hf), ?_⟩
  rw [ha, List.length_nil, Nat.add_zero, Nat.mod_eq_of_lt hw]
theorem told_drain (a e : Nat) (s : St) (ha : s.awaited = a) (hw : a < M) (h : ∀ i b, s.early i = some b → b.length ≤ 65536) : Told3 a ((drain 16 s).1, e, (drain 16 s).2) := by
  have h1 := drain_length 16 s
  have h2 := drain_small 16 s 65536 h
  have h3 := drain_awaited 16 s (by rw [ha]; exact hw)
  rw [ha] at h3
  generalize drain 16 s = r at *
  exact ⟨h1, h2, h3⟩
/-- Of what is told: how many, how long, what is awaited behind it. -/
theorem came_told {s : St} {b : List UInt8} (hw : s.awaited < M) (h : ∀ i b, s.early i = some b → b.length ≤ 65536) : Told3 s.awaited (came s b) := by
  unfold came
  split
  · exact told_none _ _ _ rfl hw
  · rename_i h1
    split
    · have hd : (b.drop 5).length ≤ 65536 := by rw [List.length_drop]; omega
      generalize b.drop 5 = c at *
      have := told_drain s.awaited 0 (laid s (num b) c) rfl hw (laid_small h hd)
      unfold take
      exact this
    · split
      · refine told_none _ _ _ ?_ hw
        unfold known; split <;> rfl
      · exact told_none _ _ _ rfl hw

theorem datas_mem {first : Nat} : ∀ (l : List (List UInt8)) (i : Nat) (f : List UInt8), f ∈ datas first i l → ∃ b ∈ l, f.length = 5 + b.length := by
  intro l
  induction l with
  | nil => intro i f hf; cases hf
  | cons b l ih =>
    intro i f hf
    unfold datas at hf
    rcases List.mem_cons.1 hf with rfl | hf
    · exact ⟨b, List.mem_cons_self .., length_packet _ _ _⟩
    · obtain ⟨c, hc, e⟩ := ih _ f hf
      exact ⟨c, List.mem_cons_of_mem _ hc, e⟩
theorem datas_len (first : Nat) : ∀ (l : List (List UInt8)) (i : Nat), (datas first i l).length = l.length := by
  intro l
  induction l with
  | nil => intro i; rfl
  | cons x l ih => intro i; simp [datas, ih]
theorem packets_told {s : St} (hf : s.waits.length ≤ 16) (h : ∀ b ∈ s.waits, b.length ≤ 65536) : (packets s).length ≤ 17 ∧ ∀ f ∈ packets s, f.length ≤ 65541 := by
  unfold packets
  have hl := datas_len s.first s.waits 0
  constructor
  · rw [List.length_append, hl]; split <;> simp <;> omega
  · intro f hfm
    rcases List.mem_append.1 hfm with hm | hm
    · obtain ⟨b, hb, e⟩ := datas_mem _ _ _ hm
      have := h b hb; omega
    · split at hm
      · rw [List.mem_singleton.1 hm, length_packet]; simp
      · cases hm
end Go.Li
