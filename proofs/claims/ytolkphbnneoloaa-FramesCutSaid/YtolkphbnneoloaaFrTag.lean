/- Frames: the contracts, by owners. -/
import Derived.Test.YtolkphbnneoloaaFrUse
import Derived.Test.YtolkphbnneoloaaTag
namespace Go.Proofs.Ytolkphbnneoloaa
open Go.RowKit Go.My

/-- A reader that t owns. -/
def Reader (w : World) (g : Tags) (t : Nat) (rb : Nat) (buf : List UInt8) (broken : Bool) : Prop :=
  ∃ v k, Rd w rb v k buf broken ∧ ∀ b, Use rb k b → g b = t

theorem Reader.turn {w w' : World} {g g' : Tags} {T : List Nat} {t rb : Nat} {buf : List UInt8} {broken : Bool} (h : Reader w g t rb buf broken) (k : Turn w g w' g' T) (ht : t ∉ T) : Reader w' g' t rb buf broken := by
  obtain ⟨v, r, hr, hu⟩ := h
  exact ⟨v, r, hr.frame fun b hb hlt => k.block b hlt (by rw [hu b hb]; exact ht), fun b hb => (k.old b (hr.use_lt b hb)).trans (hu b hb)⟩

open Classical in
theorem came_t {w : World} {g : Tags} {tr : Nat} (tf : Nat) {rb : Nat} {buf : List UInt8} (hR : Reader w g tr rb buf false) {tv : Nat} {va : Value} {c : List UInt8} (hv : Bytes w g tv va c) (hsz : buf.length + c.length ≤ 1000000000)
    {fs : List (List UInt8)} {rest : List UInt8} {k : Bool} (hall : Fr.all (buf ++ c) = (fs, rest, k)) {n : Int} (hn : (if k then 3 else 0) = n) {Q : Ending → World → Prop}
    (h : ∀ ao cap w' g', Turn w g w' g' [tr] → Frames w' g' tf (.slice ao fs.length cap) fs → Reader w' g' tr rb rest k → Q (.returned (.tuple #[.slice ao fs.length cap, .int .i64 n])) w') :
    Calls Try.prog 9 #[.pointer (some ⟨rb, 0, none⟩), va] w Q := by
  obtain ⟨v, r, hr, hu⟩ := hR
  refine came_is hr hv hsz hall hn fun w' ao cap F v' r' hc => ?_
  have old : ∀ b, b < w.heap.size → (fun b => if b < w.heap.size then g b else if Use rb r' b then tr else tf) b = g b := fun b hb => if_pos hb
  refine h ao cap w' (fun b => if b < w.heap.size then g b else if Use rb r' b then tr else tf) ⟨hc.below.os, hc.below.tape, hc.below.output, hc.below.size, old, fun b hb hn => hc.keep b hb fun hu' => hn (by rw [hu b hu']; exact List.mem_singleton.2 rfl)⟩ ?_ ?_
  · refine FramesIn.mono hc.frames fun b _ hF => ?_
    show (if b < w.heap.size then g b else if Use rb r' b then tr else tf) = tf
    rw [if_neg (Nat.not_lt.2 (hc.fresh b hF)), if_neg (hc.apart b hF)]
  · refine ⟨v', r', hc.rd, fun b hb => ?_⟩
    show (if b < w.heap.size then g b else if Use rb r' b then tr else tf) = tr
    by_cases hlt : b < w.heap.size
    · rw [if_pos hlt]
      rcases hc.use b hb with h | h
      · exact hu b h
      · omega
    · rw [if_neg hlt, if_pos hb]

theorem broken_t {w : World} {g : Tags} {tr : Nat} {rb : Nat} {buf : List UInt8} (hR : Reader w g tr rb buf true) (va : Value) {Q : Ending → World → Prop}
    (h : Q (.returned (.tuple #[.slice none 0 0, .int .i64 10])) w) : Calls Try.prog 9 #[.pointer (some ⟨rb, 0, none⟩), va] w Q := by
  obtain ⟨v, r, hr, hu⟩ := hR
  refine (came_broken hr va).mono ?_
  rintro e w' ⟨rfl, rfl⟩
  exact h

theorem left_t {w : World} {g : Tags} {tr : Nat} {rb : Nat} {buf : List UInt8} {broken : Bool} (hR : Reader w g tr rb buf broken) {Q : Ending → World → Prop}
    (h : Q (.returned (.int .i64 buf.length)) w) : Calls Try.prog 10 #[.pointer (some ⟨rb, 0, none⟩)] w Q := by
  obtain ⟨v, r, hr, hu⟩ := hR
  refine (left_said hr).mono ?_
  rintro e w' ⟨rfl, rfl⟩
  exact h

theorem new_t (w : World) (g : Tags) (t : Nat) {Q : Ending → World → Prop}
    (h : ∀ rb w' g', Turn w g w' g' [] → Reader w' g' t rb [] false → Q (.returned (.pointer (some ⟨rb, 0, none⟩))) w') : Calls Try.prog 14 #[] w Q := by
  refine (new_said w).mono ?_
  rintro e w' ⟨rb, rfl, hrb, hR, rfl⟩
  refine h rb _ _ (Turn.alloc w g t _) ⟨_, _, hR, ?_⟩
  rintro b (hb | hb)
  · rw [Tags.ext_new _ _ _ _ (by omega)]
  · cases hb

theorem put_t {w : World} {g : Tags} {tv : Nat} (t : Nat) {v : Value} {l : List UInt8} (hv : Bytes w g tv v l) (hn : l.length ≤ 65536) {Q : Ending → World → Prop}
    (h : ∀ gp w' g', Turn w g w' g' [] → Bytes w' g' t (.slice (some ⟨gp, 0, none⟩) (l.length + 4) (l.length + 4)) (Fr.frame l) → Q (.returned (.tuple #[.slice (some ⟨gp, 0, none⟩) (l.length + 4) (l.length + 4), .int .i64 0])) w') :
    Calls Try.prog 16 #[v] w Q := by
  refine (put_said (S := fun b => b < w.heap.size) (BytesIn.mono hv (fun b hb _ => hb)) (fun b hb => hb) hn).mono ?_
  rintro e w' ⟨gp, rfl, hge, hB, hh, hb⟩
  exact h gp w' _ (Turn.of_below hb g t) (BytesIn.mono hB (fun b _ hb => by subst hb; exact Tags.ext_new _ _ _ _ hge))

theorem alive_t (w : World) (g : Tags) (t : Nat) {Q : Ending → World → Prop} (h : ∀ w' g', Turn w g w' g' [] → Q (.returned (.bool true)) w') : Calls Try.prog 11 #[] w Q := by
  refine (alive_said w).mono ?_
  rintro e w' ⟨rfl, hb⟩
  exact h w' _ (Turn.of_below hb g t)

theorem same_t {w : World} {g : Tags} {t t' : Nat} {v v' : Value} {l : List UInt8} (h1 : Bytes w g t v l) (h2 : Bytes w g t' v' l) {Q : Ending → World → Prop}
    (h : ∀ w', Turn w g w' g [] → Q (.returned (.bool true)) w') : Calls Try.prog 17 #[v, v'] w Q := by
  refine (sameBytes_eq w _ _ v v' l h1 h2).mono ?_
  rintro e w' ⟨rfl, n, rfl⟩
  exact h _ (Turn.drewN w g n)

theorem sames_t {w : World} (g : Tags) {S S' : Nat → Prop} {v v' : Value} {ls : List (List UInt8)} (h1 : FramesIn w S v ls) (h2 : FramesIn w S' v' ls) {Q : Ending → World → Prop}
    (h : ∀ w', Turn w g w' g [] → Q (.returned (.bool true)) w') : Calls Try.prog 15 #[v, v'] w Q := by
  refine (sameFrames_eq w _ _ v v' ls h1 h2).mono ?_
  rintro e w' ⟨rfl, n, rfl⟩
  exact h _ (Turn.drewN w g n)

theorem lit_t {w : World} (g : Tags) (t : Nat) {k n : Nat} (l : List UInt8) (hk : k = w.heap.size) (hn : n = l.length) (hm : l.length ≤ 1000000000) {o : Array Value} (ho : o = (l.map byteCell).toArray) (fr : Nat × Nat) :
    Bytes (w.alloc (.cells o 5 fr)) (g.ext w.heap.size t) t (.slice (some ⟨k, 0, none⟩) n n) l :=
  BytesIn.mono (lit_bytes w l hk hn hm o ho fr) fun b _ hb => by subst hb; subst hk; exact Tags.ext_new _ _ _ _ (Nat.le_refl _)

theorem put_refused {w : World} {g : Tags} {t : Nat} {v : Value} {l : List UInt8} (hv : Bytes w g t v l) (hn : 65536 < l.length) {Q : Ending → World → Prop}
    (h : Q (.returned (.tuple #[.slice none 0 0, .int .i64 3])) w) : Calls Try.prog 16 #[v] w Q := by
  obtain ⟨ao, cap, rfl, h1, h2, _⟩ := BytesIn.open_ hv
  refine (put_great w ao l.length cap hn (by unfold maxLen at h2; omega)).mono ?_
  rintro e w' ⟨rfl, rfl⟩
  exact h
theorem frame_src {w : World} {g : Tags} {t : Nat} {v : Value} {l : List UInt8} (h : Bytes w g t v (Fr.frame l)) : Src w 1 v (l.length + 4) ((Fr.frame l).map byteCell) := by
  have := h.src
  rw [Fr.length_frame] at this
  exact this


/-- A list of lists of bytes, the outer one owned. -/
def Lists (w : World) (g : Tags) (t t' : Nat) (v : Value) (ls : List (List UInt8)) : Prop :=
  ∃ us : List Value, Owns w g t 22 1 v ls.length us ∧ us.length = ls.length ∧ ∀ (j : Nat) (h : j < us.length) (h' : j < ls.length), Bytes w g t' us[j] ls[j]

theorem Lists.turn {w w' : World} {g g' : Tags} {T : List Nat} {t t' : Nat} {v : Value} {ls : List (List UInt8)} (h : Lists w g t t' v ls) (k : Turn w g w' g' T) (ht : t ∉ T) (ht' : t' ∉ T) : Lists w' g' t t' v ls := by
  obtain ⟨us, h1, h2, h3⟩ := h
  exact ⟨us, h1.turn k ht, h2, fun j a b => (h3 j a b).turn k ht'⟩

theorem Lists.nil (w : World) (g : Tags) (t t' : Nat) : Lists w g t t' (.slice none 0 0) [] := ⟨[], Owns.nil _ _ _ _ _, rfl, fun _ h => absurd h (Nat.not_lt_zero _)⟩

theorem Lists.frames {w : World} {g : Tags} {t t' : Nat} {v : Value} {ls : List (List UInt8)} (h : Lists w g t t' v ls) : FramesIn w (fun b => g b = t ∨ g b = t') v ls := by
  obtain ⟨us, h1, h2, h3⟩ := h
  refine ⟨us, ?_, h2, fun j a b => BytesIn.mono (h3 j a b) (fun _ _ h => .inr h)⟩
  exact RowIn.mono h1.row (fun _ _ h => .inl h)

theorem Lists.form {w : World} {g : Tags} {t t' : Nat} {v : Value} {ls : List (List UInt8)} (h : Lists w g t t' v ls) : ∃ ao cap, v = .slice ao ls.length cap := by
  obtain ⟨us, h1, h2, h3⟩ := h
  exact h1.form

theorem listsElem : Elem Try.prog 27 22 1 24 (.slice none 0 0) := Elem.mk' Try.underlying27 (by kernel_rfl) rfl (by decide)

theorem slice_one {w : World} {S : Nat → Prop} {v : Value} {l : List UInt8} (h : BytesIn w S v l) : v.oneCell' = true := by
  obtain ⟨ao, cap, rfl, _⟩ := h.open_; rfl

/-- APPEND TO IT, FOR THE WALK. -/
theorem append_lists {w : World} {ops : Array Oper} {rest : List Oper} {o : Oper} {a : Act} {Q : Exit → Act → World → Prop} (hgd : o.guard = none) (s x : Operand)
    (ho : o.op = .call { callee := .builtin .append, args := #[s, x], argTypes := #[27, 27] }) {g : Tags} {t t' : Nat} {v y : Value} {ls fs : List (List UInt8)} (hs : a.eval s = v) (hown : Lists w g t t' v ls) (hy : a.eval x = y) (hx : Frames w g t' y fs) (ht : t' ≠ t)
    (hm : ls.length + fs.length ≤ 1000000000)
    (h : ∀ ao cap w' g', Lists w' g' t t' (.slice ao (ls ++ fs).length cap) (ls ++ fs) → Turn w g w' g' [t] → wpList Try.prog ops Q rest (a.put o.dst (.slice ao (ls ++ fs).length cap)) w') : wpList Try.prog ops Q (o :: rest) a w := by
  obtain ⟨us, h1, h2, h3⟩ := hown
  obtain ⟨vs, k1, k2, k3⟩ := hx
  have hsrc := RowIn.src k1
  rw [k2] at hsrc
  refine wpList_append_t w hgd s x ho listsElem hs h1 hy hsrc ?_ (by unfold maxLen; omega) (by omega) ?_
  · intro u hu
    obtain ⟨j, hj, rfl⟩ := List.getElem_of_mem hu
    exact slice_one (k3 j hj (by omega))
  · intro ao cap w' g' ho' hT
    have e : ls.length + fs.length = (ls ++ fs).length := by simp
    rw [e] at ho'
    rw [e]
    refine h ao cap w' g' ⟨us ++ vs, ho', by simp [h2, k2], fun j a b => ?_⟩ hT
    rcases Nat.lt_or_ge j us.length with hj | hj
    · have hj' : j < ls.length := by omega
      rw [List.getElem_append_left hj, List.getElem_append_left hj']
      exact (h3 j hj hj').turn hT (by simpa using ht)
    · have hj' : ls.length ≤ j := by omega
      rw [List.getElem_append_right hj, List.getElem_append_right hj']
      simp only [← h2]
      exact Bytes.turn (k3 (j - us.length) (by simp at a; omega) (by simp at b; omega)) hT (by simpa using ht)
end Go.Proofs.Ytolkphbnneoloaa
