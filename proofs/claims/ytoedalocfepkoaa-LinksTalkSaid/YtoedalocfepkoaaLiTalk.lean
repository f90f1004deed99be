/- Links: the protocol, plainly: whatever becomes of packets. No program in sight. -/
import Derived.Test.YtoedalocfepkoaaLiFeed
namespace Go.Li

/-- What becomes of packets. -/
def wire : List (List UInt8) → List UInt8 → List (List UInt8) × List (List UInt8) × List UInt8
  | [], w => ([], [], w)
  | p :: ps, [] => (p :: (wire ps []).1, (wire ps []).2.1, (wire ps []).2.2)
  | p :: ps, x :: w =>
    if x.toNat % 6 = 0 then wire ps w
    else if x.toNat % 6 = 1 then (p :: p :: (wire ps w).1, (wire ps w).2.1, (wire ps w).2.2)
    else if x.toNat % 6 = 2 then ((wire ps w).1, p :: (wire ps w).2.1, (wire ps w).2.2)
    else (p :: (wire ps w).1, (wire ps w).2.1, (wire ps w).2.2)

theorem wire_mem : ∀ (ps : List (List UInt8)) (w : List UInt8) (p : List UInt8), (p ∈ (wire ps w).1 → p ∈ ps) ∧ (p ∈ (wire ps w).2.1 → p ∈ ps) := by
  intro ps
  induction ps with
  | nil => intro w p; simp [wire]
  | cons y ps ih =>
    intro w p
    cases w with
    | nil =>
      have h := ih [] p
      simp only [wire, List.mem_cons]
      exact ⟨fun h' => h'.elim .inl (fun h' => .inr (h.1 h')), fun h' => .inr (h.2 h')⟩
    | cons x w =>
      have h := ih w p
      unfold wire
      split
      · exact ⟨fun h' => List.mem_cons_of_mem _ (h.1 h'), fun h' => List.mem_cons_of_mem _ (h.2 h')⟩
      · split
        · simp only [List.mem_cons]
          exact ⟨fun h' => h'.elim .inl (fun h' => h'.elim .inl (fun h' => .inr (h.1 h'))), fun h' => .inr (h.2 h')⟩
        · split
          · simp only [List.mem_cons]
            exact ⟨fun h' => .inr (h.1 h'), fun h' => h'.elim .inl (fun h' => .inr (h.2 h'))⟩
          · simp only [List.mem_cons]
            exact ⟨fun h' => h'.elim .inl (fun h' => .inr (h.1 h')), fun h' => .inr (h.2 h')⟩

theorem wire_size : ∀ (ps : List (List UInt8)) (w : List UInt8), (wire ps w).1.length ≤ 2 * ps.length ∧ (wire ps w).2.1.length ≤ ps.length ∧ (wire ps w).2.2 = w.drop ps.length := by
  intro ps
  induction ps with
  | nil => intro w; simp [wire]
  | cons y ps ih =>
    intro w
    cases w with
    | nil =>
      obtain ⟨h1, h2, h3⟩ := ih []
      simp only [wire, List.length_cons]
      exact ⟨by omega, by omega, by rw [h3]; simp⟩
    | cons x w =>
      obtain ⟨h1, h2, h3⟩ := ih w
      unfold wire
      simp only [List.length_cons, List.drop_succ_cons]
      split
      · exact ⟨by omega, by omega, h3⟩
      · split
        · simp only [List.length_cons]; exact ⟨by omega, by omega, h3⟩
        · split
          · simp only [List.length_cons]; exact ⟨by omega, by omega, h3⟩
          · simp only [List.length_cons]; exact ⟨by omega, by omega, h3⟩

theorem wire_free : ∀ (ps : List (List UInt8)), wire ps [] = (ps, [], []) := by
  intro ps
  induction ps with
  | nil => rfl
  | cons y ps ih => rw [wire, ih]

/-- An end that is told things. -/
def rcv (A : Nat) (E : Nat → Option (List UInt8)) (c : Bool) : St := ⟨[], 0, A, E, c⟩

/-- What is laid by are messages that were sent, and are not told. -/
def Laid (L : List (List UInt8)) (next A : Nat) (E : Nat → Option (List UInt8)) : Prop := ∀ n x, E n = some x → A ≤ n ∧ n < next ∧ L[n]? = some x

def Has (A : Nat) (E : Nat → Option (List UInt8)) (j : Nat) : Prop := j < A ∨ E j ≠ none

theorem drain_rcv (L : List (List UInt8)) (next : Nat) (hL : next ≤ L.length) (h60 : L.length ≤ 60) : ∀ (m A : Nat) (E : Nat → Option (List UInt8)) (c : Bool), Laid L next A E → A ≤ next → next ≤ A + m →
    ∃ A' E', drain m (rcv A E c) = ((L.take A').drop A, rcv A' E' c) ∧ A ≤ A' ∧ A' ≤ next ∧ Laid L next A' E' ∧ E' A' = none ∧ ∀ j, j < A' ∨ E' j = E j := by
  intro m
  induction m with
  | zero =>
    intro A E c h1 h2 h3
    have hn : E A = none := by
      cases e : E A with
      | none => rfl
      | some x => exact absurd (h1 A x e).2.1 (by omega)
    exact ⟨A, E, by simp [drain], Nat.le_refl _, h2, h1, hn, fun j => .inr rfl⟩
  | succ m ih =>
    intro A E c h1 h2 h3
    cases e : E A with
    | none => exact ⟨A, E, by rw [drain]; show (match E A with | none => _ | some b => _) = _; rw [e]; simp, Nat.le_refl _, h2, h1, e, fun j => .inr rfl⟩
    | some x =>
      obtain ⟨_, hlt, hx⟩ := h1 A x e
      have hM : (A + 1) % M = A + 1 := Nat.mod_eq_of_lt (by unfold M; omega)
      obtain ⟨A', E', hd, q1, q2, q3, q4, q5⟩ := ih (A + 1) (without E A) c (fun n y hy => by
        unfold without at hy
        by_cases h : n = A
        · rw [if_pos h] at hy; cases hy
        · rw [if_neg h] at hy; have := h1 n y hy; exact ⟨by omega, this.2⟩) hlt (by omega)
      refine ⟨A', E', ?_, by omega, q2, q3, q4, fun j => ?_⟩
      · rw [drain]
        show (match E A with | none => _ | some b => _) = _
        rw [e]
        show (x :: (drain m ⟨[], 0, (A + 1) % M, without E A, c⟩).1, (drain m ⟨[], 0, (A + 1) % M, without E A, c⟩).2) = _
        rw [hM]
        have hd' : drain m ⟨[], 0, A + 1, without E A, c⟩ = ((L.take A').drop (A + 1), rcv A' E' c) := hd
        rw [hd']
        have hA : A < (L.take A').length := by rw [List.length_take]; omega
        have hg : (L.take A')[A] = x := by
          rw [List.getElem_take]
          rw [List.getElem?_eq_getElem (by omega)] at hx
          exact Option.some.inj hx
        rw [List.drop_eq_getElem_cons hA, hg]
      · rcases q5 j with h | h
        · exact .inl h
        · by_cases hj : j = A
          · exact .inl (by omega)
          · right; rw [h]; unfold without; rw [if_neg hj]

structure CameTo (L : List (List UInt8)) (next A A' : Nat) (E E' : Nat → Option (List UInt8)) : Prop where
  le : A ≤ A'
  top : A' ≤ next
  laid : Laid L next A' E'
  stop : E' A' = none
  has : ∀ j, Has A E j → Has A' E' j

theorem came_rcv (L : List (List UInt8)) (next : Nat) (hL : next ≤ L.length) (h60 : L.length ≤ 60) (hs : ∀ x ∈ L, x.length ≤ 65536) (A : Nat) (E : Nat → Option (List UInt8)) (c : Bool) (h1 : Laid L next A E) (h2 : A ≤ next) (h3 : next ≤ A + 16)
    (n : Nat) (x : List UInt8) (hn : n < next) (hx : L[n]? = some x) :
    ∃ A' E', came (rcv A E c) (packet 68 n x) = ((L.take A').drop A, 0, rcv A' E' true) ∧ CameTo L next A A' E E' ∧ Has A' E' n := by
  have hxl : x.length ≤ 65536 := hs x (List.mem_of_getElem? hx)
  have l1 : (packet 68 n x).length = 5 + x.length := length_packet _ _ _
  have l2 : (packet 68 n x)[0]?.getD 0 = 68 := rfl
  have l3 : (packet 68 n x).drop 5 = x := rfl
  obtain ⟨E1, hE1⟩ : ∃ E1, E1 = (if E n = none ∧ far n A < 16 then withAt E n x else E) := ⟨_, rfl⟩
  have hlaid : laid (rcv A E c) n x = rcv A E1 true := by rw [hE1]; rfl
  have hfar : far n A < 16 → A ≤ n := by intro h; unfold far M at h; omega
  have hfar2 : A ≤ n → far n A < 16 := by intro h; unfold far M; omega
  have hE1L : Laid L next A E1 := by
    intro k y hy
    rw [hE1] at hy
    split at hy
    · rename_i hc
      unfold withAt at hy
      by_cases hk : k = n
      · rw [if_pos hk] at hy; cases hy; rw [hk]; exact ⟨hfar hc.2, hn, hx⟩
      · rw [if_neg hk] at hy; exact h1 k y hy
    · exact h1 k y hy
  have hmono : ∀ j, E j ≠ none → E1 j ≠ none := by
    intro j hj
    rw [hE1]
    split
    · unfold withAt; split
      · simp
      · exact hj
    · exact hj
  have hgot : n < A ∨ E1 n ≠ none := by
    by_cases hA : n < A
    · exact .inl hA
    · right
      by_cases hc : E n = none
      · rw [hE1, if_pos ⟨hc, hfar2 (by omega)⟩]; unfold withAt; rw [if_pos rfl]; simp
      · exact hmono n hc
  obtain ⟨A', E', hd, q1, q2, q3, q4, q5⟩ := drain_rcv L next hL h60 16 A E1 true hE1L h2 (by omega)
  have hhas : ∀ j, (j < A ∨ E1 j ≠ none) → Has A' E' j := by
    intro j hj
    rcases hj with hj | hj
    · exact .inl (by omega)
    · rcases q5 j with h | h
      · exact .inl h
      · exact .inr (by rw [h]; exact hj)
  refine ⟨A', E', ?_, ⟨q1, q2, q3, q4, fun j hj => hhas j (hj.elim .inl (fun h => .inr (hmono j h)))⟩, hhas n hgot⟩
  unfold came
  rw [if_neg (by omega), if_pos l2, num_packet 68 n (by unfold M; omega), l3]
  unfold take
  rw [hlaid, hd]

theorem cut_cut (L : List (List UInt8)) (a b c : Nat) (h1 : a ≤ b) (h2 : b ≤ c) (h3 : c ≤ L.length) : (L.take b).drop a ++ (L.take c).drop b = (L.take c).drop a := by
  have e : L.take b = (L.take c).take b := by rw [List.take_take, Nat.min_eq_left h2]
  rw [e]
  have h4 : b ≤ (L.take c).length := by rw [List.length_take]; omega
  conv => rhs; rw [← List.take_append_drop b (L.take c)]
  rw [List.drop_append_of_le_length (by rw [List.length_take]; omega)]

/-- Data packets. -/
def IsData (L : List (List UInt8)) (next : Nat) (p : List UInt8) : Prop := ∃ n x, n < next ∧ L[n]? = some x ∧ p = packet 68 n x

theorem feed_rcv (L : List (List UInt8)) (next : Nat) (hL : next ≤ L.length) (h60 : L.length ≤ 60) (hs : ∀ x ∈ L, x.length ≤ 65536) : ∀ (ps : List (List UInt8)) (A : Nat) (E : Nat → Option (List UInt8)) (c : Bool), Laid L next A E → E A = none → A ≤ next → next ≤ A + 16 → (∀ p ∈ ps, IsData L next p) →
    ∃ A' E', feed (rcv A E c) ps = ((L.take A').drop A, true, rcv A' E' (c || !ps.isEmpty)) ∧ CameTo L next A A' E E' ∧ ∀ n x, packet 68 n x ∈ ps → n < next → Has A' E' n := by
  intro ps
  induction ps with
  | nil =>
    intro A E c h1 h0 h2 h3 _
    exact ⟨A, E, by simp [feed], ⟨Nat.le_refl _, h2, h1, h0, fun j h => h⟩, (fun n x h => by cases h)⟩
  | cons p ps ih =>
    intro A E c h1 h0 h2 h3 hp
    obtain ⟨n, x, hn, hx, rfl⟩ := hp p (by simp)
    obtain ⟨A1, E1, hc, C1, hh⟩ := came_rcv L next hL h60 hs A E c h1 h2 h3 n x hn hx
    obtain ⟨A2, E2, hf, C2, hh2⟩ := ih A1 E1 true C1.laid C1.stop C1.top (by have := C1.le; omega) (fun q hq => hp q (by simp [hq]))
    refine ⟨A2, E2, ?_, ⟨Nat.le_trans C1.le C2.le, C2.top, C2.laid, C2.stop, fun j h => C2.has j (C1.has j h)⟩, fun k y hk hk2 => ?_⟩
    · rw [feed, hc, hf]
      simp only [Bool.true_or, List.isEmpty_cons, Bool.not_false, Bool.or_true, cut_cut L A A1 A2 C1.le C2.le (Nat.le_trans C2.top hL)]
      rfl
    · rcases List.mem_cons.1 hk with e | hk
      · have e2 := congrArg num e
        rw [num_packet 68 k (by unfold M; omega), num_packet 68 n (by unfold M; omega)] at e2
        rw [e2]; exact C2.has n hh
      · exact hh2 k y hk hk2

/-- The end that sends. -/
def snd (L : List (List UInt8)) (F next : Nat) : St := still ((L.take next).drop F) F 0 false

theorem known_snd (L : List (List UInt8)) (F next c : Nat) (hL : next ≤ L.length) (h60 : L.length ≤ 60) (hF : F ≤ next) (hc : c ≤ next) : known (snd L F next) c = snd L (max F c) next := by
  have hw : (snd L F next).waits.length = next - F := by show ((L.take next).drop F).length = _; rw [List.length_drop, List.length_take]; omega
  unfold known
  rw [hw]
  by_cases h : F ≤ c
  · have hf : far c (snd L F next).first = c - F := by show far c F = _; unfold far M; omega
    rw [hf, if_pos (by omega), Nat.max_eq_right h]
    show (⟨((L.take next).drop F).drop (c - F), c, 0, _, false⟩ : St) = _
    rw [List.drop_drop, show F + (c - F) = c by omega]; rfl
  · have hf : ¬ far c (snd L F next).first ≤ next - F := by show ¬ far c F ≤ _; unfold far M; omega
    rw [if_neg hf, Nat.max_eq_left (by omega)]

/-- Packets that tell what came. -/
def IsAck (A : Nat) (p : List UInt8) : Prop := ∃ c, c ≤ A ∧ p = packet 65 c []

theorem feed_snd (L : List (List UInt8)) (next A : Nat) (hL : next ≤ L.length) (h60 : L.length ≤ 60) (hA : A ≤ next) : ∀ (ps : List (List UInt8)) (F : Nat), F ≤ A → (∀ p ∈ ps, IsAck A p) →
    ∃ F', feed (snd L F next) ps = ([], true, snd L F' next) ∧ F ≤ F' ∧ F' ≤ A ∧ (packet 65 A [] ∈ ps → F' = A) := by
  intro ps
  induction ps with
  | nil => intro F hF _; exact ⟨F, rfl, Nat.le_refl _, hF, (fun h => by cases h)⟩
  | cons p ps ih =>
    intro F hF hp
    obtain ⟨c, hc, rfl⟩ := hp p (by simp)
    have hcM : c < M := by unfold M; omega
    obtain ⟨F', hf, q1, q2, q3⟩ := ih (max F c) (by omega) (fun q hq => hp q (by simp [hq]))
    refine ⟨F', ?_, by omega, q2, fun h => ?_⟩
    · rw [feed, came_ack _ _ hcM, known_snd L F next c hL h60 (by omega) (by omega), hf]; rfl
    · rcases List.mem_cons.1 h with e | h
      · have e2 := congrArg num e
        rw [num_packet 65 A (by unfold M; omega), num_packet 65 c hcM] at e2
        omega
      · exact q3 h

theorem datas_is (L : List (List UInt8)) (next : Nat) (hL : next ≤ L.length) (h60 : L.length ≤ 60) (f : Nat) : ∀ (l : List (List UInt8)) (i : Nat), (∀ j x, l[j]? = some x → L[f + i + j]? = some x) → f + i + l.length ≤ next →
    (∀ p ∈ datas f i l, IsData L next p) ∧ (∀ j, j < l.length → ∃ x, packet 68 (f + i + j) x ∈ datas f i l) := by
  intro l
  induction l with
  | nil => intro i _ _; exact ⟨(fun p h => by cases h), fun j h => absurd h (Nat.not_lt_zero _)⟩
  | cons b l ih =>
    intro i hl hn
    rw [List.length_cons] at hn
    obtain ⟨h1, h2⟩ := ih (i + 1) (fun j x hj => by
      have := hl (j + 1) x (by rw [List.getElem?_cons_succ]; exact hj)
      rw [show f + (i + 1) + j = f + i + (j + 1) by omega]; exact this) (by omega)
    have hm : (f + i) % M = f + i := Nat.mod_eq_of_lt (by unfold M; omega)
    refine ⟨fun p hp => ?_, fun j hj => ?_⟩
    · rw [datas, hm] at hp
      rcases List.mem_cons.1 hp with rfl | hp
      · exact ⟨f + i, b, by omega, hl 0 b rfl, rfl⟩
      · exact h1 p hp
    · rw [datas, hm]
      cases j with
      | zero => exact ⟨b, List.mem_cons_self⟩
      | succ j =>
        obtain ⟨x, hx⟩ := h2 j (by rw [List.length_cons] at hj; omega)
        rw [show f + (i + 1) + j = f + i + (j + 1) by omega] at hx
        exact ⟨x, List.mem_cons_of_mem _ hx⟩

theorem packets_snd (L : List (List UInt8)) (F next : Nat) (hL : next ≤ L.length) (h60 : L.length ≤ 60) (hF : F ≤ next) :
    (∀ p ∈ packets (snd L F next), IsData L next p) ∧ (∀ j, F ≤ j → j < next → ∃ x, packet 68 j x ∈ packets (snd L F next)) ∧ (packets (snd L F next)).length = next - F := by
  have hp : packets (snd L F next) = datas F 0 ((L.take next).drop F) := by simp [packets, snd, still]
  have hlen : ((L.take next).drop F).length = next - F := by rw [List.length_drop, List.length_take]; omega
  rw [hp]
  obtain ⟨h1, h2⟩ := datas_is L next hL h60 F ((L.take next).drop F) 0 (fun j x hj => by
    rw [List.getElem?_drop, List.getElem?_take] at hj
    split at hj
    · exact hj
    · cases hj) (by rw [hlen]; omega)
  refine ⟨h1, fun j hj1 hj2 => ?_, by rw [datas_len', hlen]⟩
  obtain ⟨x, hx⟩ := h2 (j - F) (by rw [hlen]; omega)
  rw [show F + 0 + (j - F) = j by omega] at hx
  exact ⟨x, hx⟩

/-- A talk, between two rounds. -/
structure Ts where
  a : St
  b : St
  all : List (List UInt8)
  late : List (List UInt8)
  lateBack : List (List UInt8)
  next : Nat
  there : List UInt8
  back : List UInt8

/-- How many more are sent. -/
def fills (L : List (List UInt8)) (s : Ts) : Nat := min (16 - s.a.waits.length) (L.length - s.next)
def filled (L : List (List UInt8)) (s : Ts) : St := { s.a with waits := s.a.waits ++ (L.drop s.next).take (fills L s) }

/-- One round, in which all goes as it may. -/
structure Round (L : List (List UInt8)) (s t : Ts) : Prop where
  fed : ∃ d b1 a1, feed s.b ((wire (packets (filled L s)) s.there).1 ++ s.late) = (d, true, b1) ∧ feed (quiet (filled L s)) ((wire (packets b1) s.back).1 ++ s.lateBack) = ([], true, a1) ∧
    t = ⟨a1, quiet b1, s.all ++ d, (wire (packets (filled L s)) s.there).2.1, (wire (packets b1) s.back).2.1, s.next + fills L s, (wire (packets (filled L s)) s.there).2.2, (wire (packets b1) s.back).2.2⟩ ∧
    (packets b1).length ≤ 100
  waits : s.a.waits.length ≤ 16
  next : s.next ≤ L.length
  all : t.all.length ≤ 100
  late : s.late.length ≤ 100 ∧ s.lateBack.length ≤ 100

def Runs (L : List (List UInt8)) : Nat → Ts → Ts → Prop
  | 0, s, t => s = t
  | n + 1, s, t => ∃ m, Round L s m ∧ Runs L n m t

def start (there back : List UInt8) : Ts := ⟨fresh, fresh, [], [], [], 0, there, back⟩

/-- What holds between rounds. -/
structure Inv (L : List (List UInt8)) (s : Ts) (F A : Nat) (E : Nat → Option (List UInt8)) : Prop where
  a : s.a = snd L F s.next
  b : s.b = rcv A E false
  all : s.all = L.take A
  le : F ≤ A ∧ A ≤ s.next ∧ s.next ≤ L.length ∧ s.next ≤ F + 16
  laid : Laid L s.next A E
  stop : E A = none
  late : ∀ p ∈ s.late, IsData L s.next p
  few : s.late.length ≤ 16 ∧ s.lateBack.length ≤ 1
  acks : ∀ p ∈ s.lateBack, IsAck A p

theorem snd_more (L : List (List UInt8)) (F next k : Nat) (hF : F ≤ next) (hn : next + k ≤ L.length) : (L.take next).drop F ++ (L.drop next).take k = (L.take (next + k)).drop F := by
  have e : (L.drop next).take k = (L.take (next + k)).drop next := by rw [List.take_drop, Nat.add_comm]
  rw [e, cut_cut L F next (next + k) hF (by omega) hn]

theorem round_inv (L : List (List UInt8)) (h60 : L.length ≤ 60) (hs : ∀ x ∈ L, x.length ≤ 65536) {s : Ts} {F A : Nat} {E : Nat → Option (List UInt8)} (h : Inv L s F A E) :
    ∃ t F' A' E', Round L s t ∧ Inv L t F' A' E' ∧ F ≤ F' ∧ t.there.length ≤ s.there.length ∧ t.back.length ≤ s.back.length ∧
      (F < L.length → t.there.length < s.there.length ∨ t.back.length < s.back.length ∨ F' = min (F + 16) L.length) := by
  obtain ⟨hFA, hAn, hnL, hnF⟩ := h.le
  have hwl : s.a.waits.length = s.next - F := by rw [h.a]; show ((L.take s.next).drop F).length = _; rw [List.length_drop, List.length_take]; omega
  obtain ⟨nx, hnx⟩ : ∃ nx, nx = s.next + fills L s := ⟨_, rfl⟩
  have hfl : fills L s = min (16 - (s.next - F)) (L.length - s.next) := by unfold fills; rw [hwl]
  have hnx2 : nx = min (F + 16) L.length := by omega
  have hfd : filled L s = snd L F nx := by
    unfold filled
    rw [h.a]
    show (⟨(L.take s.next).drop F ++ (L.drop s.next).take (fills L s), F, 0, _, false⟩ : St) = _
    rw [snd_more L F s.next (fills L s) (by omega) (by omega), ← hnx]; rfl
  obtain ⟨ps, hps⟩ : ∃ ps, ps = packets (filled L s) := ⟨_, rfl⟩
  obtain ⟨p1, p2, p3⟩ := packets_snd L F nx (by omega) h60 (by omega)
  rw [← hfd, ← hps] at p1 p2 p3
  have hup : ∀ p, IsData L s.next p → IsData L nx p := fun p ⟨n, x, hn, hx, e⟩ => ⟨n, x, by omega, hx, e⟩
  obtain ⟨w1, w2, w3⟩ := wire_size ps s.there
  obtain ⟨A', E', hf, C, hgot⟩ := feed_rcv L nx (by omega) h60 hs ((wire ps s.there).1 ++ s.late) A E false (fun n x hx => by have := h.laid n x hx; exact ⟨this.1, by omega, this.2.2⟩) h.stop (by omega) (by omega) (fun p hp => by
    rcases List.mem_append.1 hp with hp | hp
    · exact p1 p ((wire_mem ps s.there p).1 hp)
    · exact hup p (h.late p hp))
  obtain ⟨cm, hcm⟩ : ∃ cm, cm = (false || !((wire ps s.there).1 ++ s.late).isEmpty) := ⟨_, rfl⟩
  rw [← hcm] at hf
  have hq : packets (rcv A' E' cm) = (if cm then [packet 65 A' []] else []) := rfl
  have hql : (packets (rcv A' E' cm)).length ≤ 1 := by rw [hq]; split <;> simp
  obtain ⟨u1, u2, u3⟩ := wire_size (packets (rcv A' E' cm)) s.back
  have hC1 := C.le
  have hC2 := C.top
  obtain ⟨F', hg, g1, g2, g3⟩ := feed_snd L nx A' (by omega) h60 C.top ((wire (packets (rcv A' E' cm)) s.back).1 ++ s.lateBack) F (by omega) (fun p hp => by
    rcases List.mem_append.1 hp with hp | hp
    · have := (wire_mem _ s.back p).1 hp
      rw [hq] at this
      split at this
      · rw [List.mem_singleton.1 this]; exact ⟨A', Nat.le_refl _, rfl⟩
      · cases this
    · obtain ⟨c, hc, e⟩ := h.acks p hp
      exact ⟨c, by omega, e⟩)
  have hall : s.all ++ (L.take A').drop A = L.take A' := by
    rw [h.all]
    have := cut_cut L 0 A A' (Nat.zero_le _) C.le (by omega)
    simpa using this
  refine ⟨⟨snd L F' nx, quiet (rcv A' E' cm), s.all ++ (L.take A').drop A, (wire ps s.there).2.1, (wire (packets (rcv A' E' cm)) s.back).2.1, s.next + fills L s, (wire ps s.there).2.2, (wire (packets (rcv A' E' cm)) s.back).2.2⟩, F', A', E', ⟨⟨(L.take A').drop A, rcv A' E' cm, snd L F' nx, ?_, ?_, ?_, by omega⟩, by omega, hnL, ?_, ⟨by have := h.few; omega, by have := h.few; omega⟩⟩, ?_, g1, ?_, ?_, ?_⟩
  · rw [← hps, h.b]; exact hf
  · rw [hfd]; exact hg
  · rw [← hps]
  · show (s.all ++ (L.take A').drop A).length ≤ 100
    rw [hall, List.length_take]; omega
  · refine ⟨by rw [← hnx], rfl, hall, ⟨by omega, ?_, ?_, ?_⟩, ?_, C.stop, fun p hp => ?_, ⟨?_, ?_⟩, fun p hp => ?_⟩
    · show A' ≤ s.next + fills L s; omega
    · show s.next + fills L s ≤ L.length; omega
    · show s.next + fills L s ≤ F' + 16; omega
    · show Laid L (s.next + fills L s) A' E'; rw [← hnx]; exact C.laid
    · show IsData L (s.next + fills L s) p; rw [← hnx]; exact p1 p ((wire_mem ps s.there p).2 hp)
    · show (wire ps s.there).2.1.length ≤ 16; omega
    · show (wire (packets (rcv A' E' cm)) s.back).2.1.length ≤ 1; omega
    · have := (wire_mem _ s.back p).2 hp
      rw [hq] at this
      split at this
      · rw [List.mem_singleton.1 this]; exact ⟨A', Nat.le_refl _, rfl⟩
      · cases this
  · show (wire ps s.there).2.2.length ≤ _; rw [w3, List.length_drop]; omega
  · show (wire (packets (rcv A' E' cm)) s.back).2.2.length ≤ _; rw [u3, List.length_drop]; omega
  · intro hFL
    show (wire ps s.there).2.2.length < _ ∨ (wire (packets (rcv A' E' cm)) s.back).2.2.length < _ ∨ _
    rw [w3, u3, List.length_drop, List.length_drop]
    rcases Nat.eq_zero_or_pos s.there.length with ht | ht
    · have ht0 : s.there = [] := List.eq_nil_of_length_eq_zero ht
      right
      -- all that was sent came
      have hAn' : A' = nx := by
        rcases Nat.lt_or_ge A' nx with hlt | hge
        · exfalso
          obtain ⟨x, hx⟩ := p2 A' (by omega) hlt
          have hin : packet 68 A' x ∈ (wire ps s.there).1 ++ s.late := by
            rw [ht0, wire_free]; exact List.mem_append_left _ hx
          rcases hgot A' x hin hlt with h' | h'
          · omega
          · exact h' C.stop
        · omega
      have hcm2 : cm = true := by
        rw [hcm, ht0, wire_free]
        cases hp0 : ps with
        | nil => rw [hp0] at p3; simp at p3; omega
        | cons _ _ => rfl
      rw [hcm2, if_pos rfl] at hq
      rw [hcm2, hq]
      rcases Nat.eq_zero_or_pos s.back.length with hb | hb
      · right
        have hb0 : s.back = [] := List.eq_nil_of_length_eq_zero hb
        rw [g3 (by rw [hcm2, hq, hb0, wire_free]; simp), hAn', hnx2]
      · left; simp; omega
    · left; omega

/-- How many rounds it takes at most. -/
def left (L : List (List UInt8)) (s : Ts) (F : Nat) : Nat := s.there.length + s.back.length + (L.length - F + 15) / 16

theorem runs_inv (L : List (List UInt8)) (h60 : L.length ≤ 60) (hs : ∀ x ∈ L, x.length ≤ 65536) : ∀ (n : Nat) (s : Ts) (F A : Nat) (E : Nat → Option (List UInt8)), Inv L s F A E →
    ∃ t F' A' E', Runs L n s t ∧ Inv L t F' A' E' ∧ (left L s F ≤ n ∨ L.length ≤ F → F' = L.length) := by
  intro n
  induction n with
  | zero =>
    intro s F A E h
    refine ⟨s, F, A, E, rfl, h, fun hl => ?_⟩
    have := h.le
    rcases hl with hl | hl
    · unfold left at hl; omega
    · omega
  | succ n ih =>
    intro s F A E h
    obtain ⟨m, F1, A1, E1, hR, hI, q1, q2, q3, q4⟩ := round_inv L h60 hs h
    obtain ⟨t, F', A', E', hr, hI', q5⟩ := ih m F1 A1 E1 hI
    refine ⟨t, F', A', E', ⟨m, hR, hr⟩, hI', fun hl => q5 ?_⟩
    have h1 := hI.le
    rcases Nat.lt_or_ge F L.length with hF | hF
    · rcases hl with hl | hl
      · left
        unfold Go.Li.left at hl ⊢
        rcases q4 hF with h' | h' | h'
        · have : (L.length - F1 + 15) / 16 ≤ (L.length - F + 15) / 16 := Nat.div_le_div_right (by omega)
          omega
        · have : (L.length - F1 + 15) / 16 ≤ (L.length - F + 15) / 16 := Nat.div_le_div_right (by omega)
          omega
        · omega
      · omega
    · right; omega

theorem start_inv (L : List (List UInt8)) (there back : List UInt8) : Inv L (start there back) 0 0 (fun _ => none) :=
  ⟨by simp [start, snd, fresh, still], rfl, by simp [start], ⟨Nat.le_refl _, Nat.le_refl _, Nat.zero_le _, Nat.zero_le _⟩, (fun n x h => by cases h), rfl, (fun p h => by cases h), ⟨Nat.zero_le _, Nat.zero_le _⟩, (fun p h => by cases h)⟩

/-- The whole: at each time what is told is a beginning of what was sent; in the end all of it. -/
theorem talk_safe (L : List (List UInt8)) (h60 : L.length ≤ 60) (hs : ∀ x ∈ L, x.length ≤ 65536) (there back : List UInt8) (n : Nat) : ∃ t A, Runs L n (start there back) t ∧ A ≤ L.length ∧ t.all = L.take A := by
  obtain ⟨t, F, A, E, hr, hI, _⟩ := runs_inv L h60 hs n _ _ _ _ (start_inv L there back)
  exact ⟨t, A, hr, by have := hI.le; omega, hI.all⟩

theorem talk_live (L : List (List UInt8)) (h60 : L.length ≤ 60) (hs : ∀ x ∈ L, x.length ≤ 65536) (there back : List UInt8) : ∃ t, Runs L (there.length + back.length + 12) (start there back) t ∧ t.all = L ∧ t.a.waits = [] := by
  obtain ⟨t, F, A, E, hr, hI, hl⟩ := runs_inv L h60 hs (there.length + back.length + 12) _ _ _ _ (start_inv L there back)
  have hF := hl (.inl (by unfold left; show there.length + back.length + _ ≤ _; omega))
  have h1 := hI.le
  refine ⟨t, hr, ?_, ?_⟩
  · rw [hI.all, List.take_of_length_le (by omega)]
  · rw [hI.a]
    show (L.take t.next).drop F = []
    rw [List.drop_eq_nil_iff, List.length_take]; omega
end Go.Li
