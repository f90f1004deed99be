/- Links: messages that come in any order, plainly. No program in sight. -/
import Derived.Test.YtoedalocfepkoaaLiPlain
namespace Go.Li
def msg (n : Nat) : List UInt8 := [UInt8.ofNat (100 + n)]

/-- Of sixteen messages those of C came, the first a of them are told. -/
def ord (C : Nat → Bool) (a : Nat) (c : Bool) : St := ⟨[], 0, a, fun n => if n < 16 ∧ a ≤ n ∧ C n = true then some (msg n) else none, c⟩

structure OrdInv (C : Nat → Bool) (a : Nat) : Prop where
  le : a ≤ 16
  all : ∀ j, j < a → C j = true
  stop : a < 16 → C a = false

theorem ord_next (C : Nat → Bool) (a : Nat) (c : Bool) (h : a < 16) : ({ ord C a c with early := without (ord C a c).early (ord C a c).awaited, awaited := ((ord C a c).awaited + 1) % M } : St) = ord C (a + 1) c := by
  have e : without (ord C a c).early (ord C a c).awaited = (ord C (a + 1) c).early := by
    funext n
    show (if n = a then none else if n < 16 ∧ a ≤ n ∧ C n = true then some (msg n) else none) = if n < 16 ∧ a + 1 ≤ n ∧ C n = true then some (msg n) else none
    by_cases h1 : n = a
    · subst h1; rw [if_pos rfl, if_neg (by omega)]
    · rw [if_neg h1]
      by_cases h2 : n < 16 ∧ a ≤ n ∧ C n = true
      · rw [if_pos h2, if_pos ⟨h2.1, by omega, h2.2.2⟩]
      · rw [if_neg h2, if_neg (fun h3 => h2 ⟨h3.1, by omega, h3.2.2⟩)]
  rw [e]
  have e2 : ((ord C a c).awaited + 1) % M = a + 1 := by show (a + 1) % M = a + 1; exact Nat.mod_eq_of_lt (by unfold M; omega)
  rw [e2]; rfl

/-- What is told: those from a on, so many. -/
def msgs (a d : Nat) : List (List UInt8) := (List.range' a d).map msg

theorem drain_ord (C : Nat → Bool) (c : Bool) : ∀ (m a : Nat), a ≤ 16 → 16 ≤ a + m → (∀ j, j < a → C j = true) →
    ∃ d, drain m (ord C a c) = (msgs a d, ord C (a + d) c) ∧ OrdInv C (a + d) := by
  intro m
  induction m with
  | zero =>
    intro a h1 h2 h3
    exact ⟨0, rfl, h1, h3, fun h => absurd h (by omega)⟩
  | succ m ih =>
    intro a h1 h2 h3
    by_cases h : a < 16 ∧ C a = true
    · obtain ⟨d, hd, hI⟩ := ih (a + 1) (by omega) (by omega) (fun j hj => by
        by_cases e : j = a
        · rw [e]; exact h.2
        · exact h3 j (by omega))
      refine ⟨d + 1, ?_, by rw [show a + (d + 1) = a + 1 + d by omega]; exact hI⟩
      have he : (ord C a c).early (ord C a c).awaited = some (msg a) := if_pos ⟨h.1, Nat.le_refl _, h.2⟩
      rw [drain, he]
      show (msg a :: (drain m _).1, (drain m _).2) = _
      rw [ord_next C a c h.1, hd]
      show (msg a :: msgs (a + 1) d, ord C (a + 1 + d) c) = _
      rw [show a + (d + 1) = a + 1 + d by omega]; rfl
    · have he : (ord C a c).early (ord C a c).awaited = none := if_neg (fun h' => h ⟨h'.1, h'.2.2⟩)
      refine ⟨0, by rw [drain, he]; rfl, h1, h3, fun h' => ?_⟩
      cases e : C a with
      | false => rfl
      | true => exact absurd ⟨h', e⟩ h

def mark (C : Nat → Bool) (k : Nat) : Nat → Bool := fun j => if j = k then true else C j

theorem laid_ord (C : Nat → Bool) (a k : Nat) (hI : OrdInv C a) (hk : k < 16) : laid (ord C a false) k (msg k) = ord (mark C k) a true := by
  have e : (laid (ord C a false) k (msg k)).early = (ord (mark C k) a true).early := by
    have h1 := hI.le
    funext n
    show (if (ord C a false).early k = none ∧ far k a < 16 then withAt (ord C a false).early k (msg k) else (ord C a false).early) n = if n < 16 ∧ a ≤ n ∧ mark C k n = true then some (msg n) else none
    show (if (if k < 16 ∧ a ≤ k ∧ C k = true then some (msg k) else none) = none ∧ far k a < 16 then (fun i => if i = k then some (msg k) else (if i < 16 ∧ a ≤ i ∧ C i = true then some (msg i) else none)) else (fun i => if i < 16 ∧ a ≤ i ∧ C i = true then some (msg i) else none)) n = if n < 16 ∧ a ≤ n ∧ mark C k n = true then some (msg n) else none
    by_cases hka : k < a
    · have hf : ¬ far k a < 16 := by unfold far M; omega
      rw [if_neg (fun h => hf h.2)]
      by_cases hn : n = k
      · subst hn; rw [if_neg (by omega), if_neg (by omega)]
      · simp only [mark, if_neg hn]
    · have hf : far k a < 16 := by unfold far M; omega
      cases hC : C k with
      | true =>
        rw [if_neg (fun h => by rw [if_pos ⟨hk, by omega, rfl⟩] at h; cases h.1)]
        by_cases hn : n = k
        · subst hn
          show (if n < 16 ∧ a ≤ n ∧ C n = true then some (msg n) else none) = _
          rw [if_pos ⟨hk, by omega, hC⟩, if_pos ⟨hk, by omega, by simp [mark]⟩]
        · simp only [mark, if_neg hn]
      | false =>
        rw [if_pos ⟨if_neg (fun h => by cases h.2.2), hf⟩]
        show (if n = k then some (msg k) else if n < 16 ∧ a ≤ n ∧ C n = true then some (msg n) else none) = _
        by_cases hn : n = k
        · subst hn; rw [if_pos rfl, if_pos ⟨hk, by omega, by simp [mark]⟩]
        · rw [if_neg hn]; simp only [mark, if_neg hn]
  calc laid (ord C a false) k (msg k) = ⟨[], 0, a, (laid (ord C a false) k (msg k)).early, true⟩ := rfl
    _ = _ := by rw [e]; rfl

theorem came_ord (C : Nat → Bool) (a k : Nat) (hI : OrdInv C a) (hk : k < 16) :
    ∃ d, came (ord C a false) (packet 68 k (msg k)) = (msgs a d, 0, ord (mark C k) (a + d) true) ∧ OrdInv (mark C k) (a + d) := by
  have hI2 : ∀ j, j < a → mark C k j = true := fun j hj => by unfold mark; split; rfl; exact hI.all j hj
  obtain ⟨d, hd, hI'⟩ := drain_ord (mark C k) true 16 a hI.le (by omega) hI2
  refine ⟨d, ?_, hI'⟩
  have h1 : (packet 68 k (msg k)).length = 6 := by rw [length_packet]; rfl
  have h2 : (packet 68 k (msg k))[0]?.getD 0 = 68 := rfl
  have h3 : (packet 68 k (msg k)).drop 5 = msg k := rfl
  have hn : num (packet 68 k (msg k)) = k := num_packet 68 k (by unfold M; omega) _
  unfold came
  rw [if_neg (by omega), if_pos h2, hn, h3]
  unfold take
  rw [laid_ord C a k hI hk, hd]

theorem packets_ord (C : Nat → Bool) (a : Nat) : packets (ord C a true) = [packet 65 a []] := rfl
theorem ord_came (C : Nat → Bool) (a : Nat) : ({ ord C a true with came := false } : St) = ord C a false := rfl
theorem ord_fresh : fresh = ord (fun _ => false) 0 false := by
  unfold fresh ord
  congr 1
  funext n
  rw [if_neg (by simp)]
theorem inv_fresh : OrdInv (fun _ => false) 0 := ⟨Nat.zero_le _, fun j h => absurd h (Nat.not_lt_zero _), fun _ => rfl⟩
theorem msgs_length (a d : Nat) : (msgs a d).length = d := by simp [msgs]
theorem msgs_get (a d j : Nat) (h : j < d) : (msgs a d)[j]'(by rw [msgs_length]; exact h) = msg (a + j) := by simp [msgs]
end Go.Li
