/- Links: packets that come one after the other; both ends, plainly. No program in sight. -/
import Derived.Test.YtoedalocfepkoaaLiPlain
namespace Go.Li

/-- Packets come: what is told, whether each may be, the end behind them. -/
def feed : St → List (List UInt8) → List (List UInt8) × Bool × St
  | s, [] => ([], true, s)
  | s, p :: ps => ((came s p).1 ++ (feed (came s p).2.2 ps).1, (came s p).2.1 == 0 && (feed (came s p).2.2 ps).2.1, (feed (came s p).2.2 ps).2.2)

theorem feed_append : ∀ (p q : List (List UInt8)) (s : St), feed s (p ++ q) = ((feed s p).1 ++ (feed (feed s p).2.2 q).1, (feed s p).2.1 && (feed (feed s p).2.2 q).2.1, (feed (feed s p).2.2 q).2.2) := by
  intro p
  induction p with
  | nil => intro q s; simp [feed]
  | cons x p ih => intro q s; simp only [List.cons_append, feed, ih, List.append_assoc, Bool.and_assoc]

theorem feed_step {s e : St} {ps r : List (List UInt8)} {k : Nat} (h : feed s (ps.drop k) = (r, true, e)) (hk : k < ps.length) :
    ∃ fs s' r', came s ps[k] = (fs, 0, s') ∧ r = fs ++ r' ∧ feed s' (ps.drop (k + 1)) = (r', true, e) := by
  rw [List.drop_eq_getElem_cons hk, feed] at h
  simp only [Prod.mk.injEq, Bool.and_eq_true, beq_iff_eq] at h
  obtain ⟨h1, ⟨h2, h3⟩, h4⟩ := h
  refine ⟨(came s ps[k]).1, (came s ps[k]).2.2, (feed (came s ps[k]).2.2 (ps.drop (k + 1))).1, ?_, h1.symm, ?_⟩
  · rw [← h2]
  · rw [← h3, ← h4]

theorem feed_done {s e : St} {ps r : List (List UInt8)} (h : feed s (ps.drop ps.length) = (r, true, e)) : r = [] ∧ s = e := by
  rw [List.drop_length, feed] at h
  simp only [Prod.mk.injEq, true_and] at h
  exact ⟨h.1.symm, h.2⟩

def quiet (s : St) : St := { s with came := false }

/-- So many rounds are still to come, and all ends as it shall. -/
def Good (l m : List (List UInt8)) : Nat → St → St → List (List UInt8) → List (List UInt8) → Prop
  | 0, a, b, one, two => one = l ∧ two = m ∧ a.waits = [] ∧ b.waits = [] ∧ packets a = []
  | n + 1, a, b, one, two => ∃ d1 b1 d2 a1, feed b (packets a) = (d1, true, b1) ∧ feed (quiet a) (packets b1) = (d2, true, a1) ∧ (one ++ d1).length ≤ 1000 ∧ (two ++ d2).length ≤ 1000 ∧ (packets a).length ≤ 1000 ∧ (packets b1).length ≤ 1000 ∧ Good l m n a1 (quiet b1) (one ++ d1) (two ++ d2)

/-- An end with nothing that came too early. -/
def still (wt : List (List UInt8)) (f n : Nat) (c : Bool) : St := ⟨wt, f, n, fun _ => none, c⟩

theorem still_take (wt : List (List UInt8)) (f n : Nat) (c : Bool) (hn : n < 1000) (b : List UInt8) : take (still wt f n c) n b = ([b], still wt f (n + 1) true) := by
  have hl : laid (still wt f n c) n b = ⟨wt, f, n, withAt (fun _ => none) n b, true⟩ := by
    unfold laid
    rw [if_pos ⟨rfl, by show far n n < 16; rw [far_self n (by unfold M; omega)]; decide⟩]
    rfl
  have hw : without (withAt (fun _ => none) n b) n = fun _ => none := by
    funext i
    unfold without withAt
    by_cases h : i = n
    · rw [if_pos h]
    · rw [if_neg h, if_neg h]
  have hm : (n + 1) % M = n + 1 := Nat.mod_eq_of_lt (by unfold M; omega)
  unfold take
  rw [hl, show (16 : Nat) = 14 + 1 + 1 from rfl, drain]
  have e1 : (⟨wt, f, n, withAt (fun _ => none) n b, true⟩ : St).early (⟨wt, f, n, withAt (fun _ => none) n b, true⟩ : St).awaited = some b := if_pos rfl
  rw [e1]
  show (b :: (drain (14 + 1) ⟨wt, f, (n + 1) % M, without (withAt (fun _ => none) n b) n, true⟩).1, (drain (14 + 1) ⟨wt, f, (n + 1) % M, without (withAt (fun _ => none) n b) n, true⟩).2) = _
  rw [hw, hm, drain]
  rfl

theorem still_came (wt : List (List UInt8)) (f n : Nat) (c : Bool) (hn : n < 1000) (b : List UInt8) (hb : b.length ≤ 65536) : came (still wt f n c) (packet 68 n b) = ([b], 0, still wt f (n + 1) true) := by
  have h1 : (packet 68 n b).length = 5 + b.length := length_packet _ _ _
  have h2 : (packet 68 n b)[0]?.getD 0 = 68 := rfl
  have h3 : (packet 68 n b).drop 5 = b := rfl
  unfold came
  rw [if_neg (by omega), if_pos h2, num_packet 68 n (by unfold M; omega), h3, still_take wt f n c hn b]

theorem came_ack (s : St) (n : Nat) (hn : n < M) : came s (packet 65 n []) = ([], 0, known s n) := by
  have h1 : (packet 65 n []).length = 5 := by rw [length_packet]; rfl
  have h2 : (packet 65 n [])[0]?.getD 0 = 65 := rfl
  unfold came
  rw [if_neg (by omega), if_neg (by rw [h2]; decide), if_pos ⟨h2, h1⟩, num_packet 65 n hn]

/-- All messages come, in order. -/
theorem still_feed (wt : List (List UInt8)) (f : Nat) : ∀ (l : List (List UInt8)) (i : Nat) (c : Bool), i + l.length < 1000 → (∀ b ∈ l, b.length ≤ 65536) →
    feed (still wt f i c) (datas 0 i l) = (l, true, still wt f (i + l.length) (c || !l.isEmpty)) := by
  intro l
  induction l with
  | nil => intro i c _ _; simp [datas, feed]
  | cons b l ih =>
    intro i c h hb
    rw [List.length_cons] at h
    have hm : (0 + i) % M = i := by rw [Nat.zero_add]; exact Nat.mod_eq_of_lt (by unfold M; omega)
    rw [datas, hm, feed, still_came wt f i c (by omega) b (hb b (by simp)), ih (i + 1) true (by omega) (fun x hx => hb x (by simp [hx])), show i + 1 + l.length = i + (b :: l).length by rw [List.length_cons]; omega]
    simp

theorem known_all (wt : List (List UInt8)) (n : Nat) (c : Bool) (h : wt.length < 1000) : known (still wt 0 n c) wt.length = still [] wt.length n c := by
  unfold known
  have hf : far wt.length (still wt 0 n c).first = wt.length := by show far wt.length 0 = _; unfold far M; omega
  rw [hf, if_pos (show wt.length ≤ (still wt 0 n c).waits.length from Nat.le_refl _)]
  show (⟨wt.drop wt.length, wt.length, n, _, c⟩ : St) = _
  rw [List.drop_length]; rfl

theorem datas_len' (f : Nat) : ∀ (l : List (List UInt8)) (i : Nat), (datas f i l).length = l.length := by
  intro l
  induction l with
  | nil => intro i; rfl
  | cons b l ih => intro i; rw [datas, List.length_cons, ih, List.length_cons]

/-- The whole of it. -/
theorem both_good (l m : List (List UInt8)) (hl : l.length ≤ 16) (hm : m.length ≤ 16) (hlb : ∀ b ∈ l, b.length ≤ 65536) (hmb : ∀ b ∈ m, b.length ≤ 65536) : Good l m 3 (still l 0 0 false) (still m 0 0 false) [] [] := by
  have M1 : l.length < M := by unfold M; omega
  have M2 : m.length < M := by unfold M; omega
  -- the first round
  have p1 : packets (still l 0 0 false) = datas 0 0 l := by simp [packets, still]
  have f1 : feed (still m 0 0 false) (datas 0 0 l) = (l, true, still m 0 l.length (!l.isEmpty)) := by
    have := still_feed m 0 l 0 false (by omega) hlb
    simpa using this
  have q1 : packets (still m 0 l.length (!l.isEmpty)) = datas 0 0 m ++ (if (!l.isEmpty) then [packet 65 l.length []] else []) := rfl
  have f2 : feed (still l 0 0 false) (datas 0 0 m) = (m, true, still l 0 m.length (!m.isEmpty)) := by
    have := still_feed l 0 m 0 false (by omega) hmb
    simpa using this
  have k1 : known (still l 0 m.length (!m.isEmpty)) l.length = still [] l.length m.length (!m.isEmpty) := known_all l m.length _ (by omega)
  have f3 : feed (still l 0 0 false) (datas 0 0 m ++ (if (!l.isEmpty) then [packet 65 l.length []] else [])) = (m, true, still [] l.length m.length (!m.isEmpty)) := by
    rw [feed_append, f2]
    cases l with
    | nil => simp [feed, still]
    | cons x l => simp only [List.isEmpty_cons, Bool.not_false, if_true, feed, came_ack _ _ M1, k1]; simp
  have p2 : packets (still [] l.length m.length (!m.isEmpty)) = (if (!m.isEmpty) then [packet 65 m.length []] else []) := by simp [packets, still, datas]
  have k2 : known (still m 0 l.length false) m.length = still [] m.length l.length false := known_all m l.length _ (by omega)
  have f4 : feed (still m 0 l.length false) (if (!m.isEmpty) then [packet 65 m.length []] else []) = ([], true, still [] m.length l.length false) := by
    cases m with
    | nil => simp [feed, still]
    | cons x m => simp only [List.isEmpty_cons, Bool.not_false, if_true, feed, came_ack _ _ M2, k2]; simp
  have p3 : packets (still [] m.length l.length false) = [] := by simp [packets, still, datas]
  have p4 : packets (still [] l.length m.length false) = [] := by simp [packets, still, datas]
  refine ⟨l, still m 0 l.length (!l.isEmpty), m, still [] l.length m.length (!m.isEmpty), by rw [p1]; exact f1, by rw [q1]; exact f3, by simp; omega, by simp; omega, by rw [p1, datas_len']; omega, ?_, ?_⟩
  · rw [q1, List.length_append, datas_len']; split <;> simp <;> omega
  refine ⟨[], still [] m.length l.length false, [], still [] l.length m.length false, by rw [p2]; exact f4, by rw [p3]; rfl, by simp; omega, by simp; omega, by rw [p2]; split <;> simp, by rw [p3]; simp, ?_⟩
  refine ⟨[], still [] m.length l.length false, [], still [] l.length m.length false, by rw [p4]; rfl, by show feed _ (packets (still [] m.length l.length false)) = _; rw [p3]; rfl, by simp; omega, by simp; omega, by rw [p4]; simp, by show (packets (still [] m.length l.length false)).length ≤ _; rw [p3]; simp, ?_⟩
  exact ⟨by simp, by simp, rfl, rfl, p4⟩
end Go.Li
