/- Memory by owners: each block has a number (whose it is); a step says whose blocks it may turn; what is read of another's stays. No program in sight. -/
import Derived.Test.YtcldcigopkfmmaaGreatDoorMem2
namespace Go.My
open Go.RowKit

/-- Whose each block is; 0: of what was there when the call began. -/
abbrev Tags := Nat → Nat

def Tags.ext (g : Tags) (n t : Nat) : Tags := fun b => if b < n then g b else t

/-- A step: of the blocks that were there only those of T have turned. -/
structure Turn (w : World) (g : Tags) (w' : World) (g' : Tags) (T : List Nat) : Prop where
  os : w'.os = w.os
  tape : w'.tape = w.tape
  output : w'.output = w.output
  size : w.heap.size ≤ w'.heap.size
  old : ∀ b, b < w.heap.size → g' b = g b
  block : ∀ b, b < w.heap.size → g b ∉ T → w'.heap[b]? = w.heap[b]?

theorem Turn.refl (w : World) (g : Tags) (T : List Nat) : Turn w g w g T := ⟨rfl, rfl, rfl, Nat.le_refl _, fun _ _ => rfl, fun _ _ _ => rfl⟩

theorem Turn.trans {w w1 w2 : World} {g g1 g2 : Tags} {T U V : List Nat} (h : Turn w g w1 g1 T) (k : Turn w1 g1 w2 g2 U) (hT : ∀ t, t ∈ T → t ∈ V) (hU : ∀ t, t ∈ U → t ∈ V) : Turn w g w2 g2 V :=
  ⟨k.os.trans h.os, k.tape.trans h.tape, k.output.trans h.output, Nat.le_trans h.size k.size,
    fun b hb => (k.old b (Nat.lt_of_lt_of_le hb h.size)).trans (h.old b hb),
    fun b hb hn => (k.block b (Nat.lt_of_lt_of_le hb h.size) (by rw [h.old b hb]; exact fun hm => hn (hU _ hm))).trans (h.block b hb (fun hm => hn (hT _ hm)))⟩

theorem Turn.mono {w w1 : World} {g g1 : Tags} {T V : List Nat} (h : Turn w g w1 g1 T) (hT : ∀ t, t ∈ T → t ∈ V) : Turn w g w1 g1 V :=
  ⟨h.os, h.tape, h.output, h.size, h.old, fun b hb hn => h.block b hb (fun hm => hn (hT _ hm))⟩

theorem Tags.ext_old (g : Tags) (n t b : Nat) (h : b < n) : g.ext n t b = g b := by unfold Tags.ext; rw [if_pos h]
theorem Tags.ext_new (g : Tags) (n t b : Nat) (h : n ≤ b) : g.ext n t b = t := by unfold Tags.ext; rw [if_neg (by omega)]

theorem Turn.of_step {w w' : World} {row : Option Nat} (h : Step w w' row) (g : Tags) (t : Nat) (hr : ∀ k, row = some k → g k = t) : Turn w g w' (g.ext w.heap.size t) [t] :=
  ⟨h.os, h.tape, h.output, h.size, fun b hb => Tags.ext_old _ _ _ _ hb, fun b hb hn => h.block b hb (fun e => hn (by rw [hr b e.symm]; exact List.mem_singleton.2 rfl))⟩

theorem Turn.of_below {w w' : World} (h : Below w.heap.size w w') (g : Tags) (t : Nat) : Turn w g w' (g.ext w.heap.size t) [] :=
  ⟨h.os, h.tape, h.output, h.size, fun _ hb => Tags.ext_old _ _ _ _ hb, fun b hb _ => h.block b hb⟩

theorem Turn.alloc (w : World) (g : Tags) (t : Nat) (o : Obj) : Turn w g (w.alloc o) (g.ext w.heap.size t) [] :=
  Turn.of_below ((Below.refl _ w).alloc (Nat.le_refl _) o) g t

theorem Turn.drew (w : World) (g : Tags) : Turn w g w.drew g [] := ⟨rfl, rfl, rfl, Nat.le_refl _, fun _ _ => rfl, fun _ _ _ => rfl⟩

theorem heap_drewN' (w : World) : ∀ n, (w.drewN n).heap = w.heap := by
  intro n
  induction n with
  | zero => rfl
  | succ n ih => exact ih
theorem below_drewN' (w : World) : ∀ n, Below w.heap.size w (w.drewN n) := by
  intro n
  induction n with
  | zero => exact Below.refl _ _
  | succ n ih => exact ih.drew
theorem Turn.drewN (w : World) (g : Tags) (n : Nat) : Turn w g (w.drewN n) g [] :=
  ⟨(below_drewN' w n).os, (below_drewN' w n).tape, (below_drewN' w n).output, (below_drewN' w n).size, fun _ _ => rfl, fun b hb _ => (below_drewN' w n).block b hb⟩

theorem Turn.setCell (w : World) (g : Tags) (a : Addr) (u : Value) (hs : (w.setCell a u).heap.size = w.heap.size) (ho : (w.setCell a u).os = w.os) (ht : (w.setCell a u).tape = w.tape) (hp : (w.setCell a u).output = w.output) : Turn w g (w.setCell a u) g [g a.block] :=
  ⟨ho, ht, hp, by rw [hs]; exact Nat.le_refl _, fun _ _ => rfl, fun b _ hn => Below.heap_setCell w a u b (fun e => hn (by rw [e]; exact List.mem_singleton.2 rfl))⟩

/-- Since the call began. -/
structure Since (w0 w : World) (g : Tags) : Prop where
  below : Below w0.heap.size w0 w
  zero : ∀ b, b < w0.heap.size → g b = 0

theorem Since.start (w : World) : Since w w (fun _ => 0) := ⟨Below.refl _ _, fun _ _ => rfl⟩

theorem Since.turn {w0 w w' : World} {g g' : Tags} {T : List Nat} (h : Since w0 w g) (k : Turn w g w' g' T) (h0 : 0 ∉ T) : Since w0 w' g' :=
  ⟨h.below.trans ⟨k.os, k.tape, k.output, k.size, fun b hb => k.block b (Nat.lt_of_lt_of_le hb h.below.size) (by rw [h.zero b hb]; exact h0)⟩,
    fun b hb => (k.old b (Nat.lt_of_lt_of_le hb h.below.size)).trans (h.zero b hb)⟩

/-! ### What is read, by owner -/
def Row (w : World) (g : Tags) (t : Nat) (v : Value) (xs : List Value) : Prop := RowIn w (fun b => g b = t) v xs
def Bytes (w : World) (g : Tags) (t : Nat) (v : Value) (l : List UInt8) : Prop := BytesIn w (fun b => g b = t) v l
def Frames (w : World) (g : Tags) (t : Nat) (v : Value) (ls : List (List UInt8)) : Prop := FramesIn w (fun b => g b = t) v ls

theorem Turn.keeps {w w' : World} {g g' : Tags} {T : List Nat} (k : Turn w g w' g' T) {t : Nat} (ht : t ∉ T) (b : Nat) (hb : g' b = t) (hlt : b < w.heap.size) : w'.heap[b]? = w.heap[b]? :=
  k.block b hlt (by rw [← k.old b hlt, hb]; exact ht)

theorem Row.turn {w w' : World} {g g' : Tags} {T : List Nat} {t : Nat} {v : Value} {xs : List Value} (h : Row w g t v xs) (k : Turn w g w' g' T) (ht : t ∉ T) : Row w' g' t v xs :=
  (RowIn.mono h (fun b hb hs => (k.old b hb).trans hs)).frame fun b hb hlt => k.keeps ht b hb hlt
theorem Bytes.turn {w w' : World} {g g' : Tags} {T : List Nat} {t : Nat} {v : Value} {l : List UInt8} (h : Bytes w g t v l) (k : Turn w g w' g' T) (ht : t ∉ T) : Bytes w' g' t v l :=
  (BytesIn.mono h (fun b hb hs => (k.old b hb).trans hs)).frame fun b hb hlt => k.keeps ht b hb hlt
theorem Frames.turn {w w' : World} {g g' : Tags} {T : List Nat} {t : Nat} {v : Value} {ls : List (List UInt8)} (h : Frames w g t v ls) (k : Turn w g w' g' T) (ht : t ∉ T) : Frames w' g' t v ls :=
  (FramesIn.mono h (fun b hb hs => (k.old b hb).trans hs)).frame fun b hb hlt => k.keeps ht b hb hlt

theorem own_form {w : World} {e : TypeId} {size : Nat} {v : Value} {n : Nat} {xs : List Value} {g : Option Nat} (h : Own w e size v n xs g) : ∃ ao cap, v = .slice ao n cap := by
  rcases h.2 with ⟨rfl, rfl, _⟩ | ⟨b, off, cap, cur, rfl, _⟩
  · exact ⟨none, 0, rfl⟩
  · exact ⟨_, cap, rfl⟩

/-- A slice that the call owns. -/
def Owns (w : World) (g : Tags) (t : Nat) (e : TypeId) (size : Nat) (v : Value) (n : Nat) (xs : List Value) : Prop :=
  ∃ k, Own w e size v n xs k ∧ ∀ b, k = some b → g b = t

theorem Owns.turn {w w' : World} {g g' : Tags} {T : List Nat} {t : Nat} {e : TypeId} {size : Nat} {v : Value} {n : Nat} {xs : List Value} (h : Owns w g t e size v n xs) (k : Turn w g w' g' T) (ht : t ∉ T) : Owns w' g' t e size v n xs := by
  obtain ⟨r, ho, hr⟩ := h
  refine ⟨r, ho.frame fun b hb => k.block b (ho.lt b hb) (by rw [hr b hb]; exact ht), fun b hb => (k.old b (ho.lt b hb)).trans (hr b hb)⟩

theorem Owns.nil (w : World) (g : Tags) (t : Nat) (e : TypeId) (size : Nat) : Owns w g t e size (.slice none 0 0) 0 [] := ⟨none, Own.nil w e size, fun _ h => by cases h⟩

theorem Owns.row {w : World} {g : Tags} {t : Nat} {e : TypeId} {v : Value} {n : Nat} {xs : List Value} (h : Owns w g t e 1 v n xs) : Row w g t v xs := by
  obtain ⟨r, ho, hr⟩ := h
  exact (Own.row ho).mono (fun b _ hb => hr b hb)
theorem Owns.bytes {w : World} {g : Tags} {t : Nat} {v : Value} {n : Nat} {l : List UInt8} {e : TypeId} (h : Owns w g t e 1 v n (l.map byteCell)) : Bytes w g t v l := h.row
theorem Owns.form {w : World} {g : Tags} {t : Nat} {e : TypeId} {size : Nat} {v : Value} {n : Nat} {xs : List Value} (h : Owns w g t e size v n xs) : ∃ ao cap, v = .slice ao n cap := by
  obtain ⟨r, ho, hr⟩ := h
  exact own_form ho

/-- A piece of what reads. -/
theorem Bytes.cut {w : World} {g : Tags} {t : Nat} {b off n cap : Nat} {l : List UInt8} (h : Bytes w g t (.slice (some ⟨b, off, none⟩) n cap) l) (k j c : Nat) (hkj : k ≤ j) (hj : j ≤ l.length) {ad : Addr} (hc : j - k ≤ c ∧ c ≤ maxLen) (had : k < j → ad = ⟨b, off + k, none⟩) :
    Bytes w g t (.slice (some ad) (j - k) c) ((l.drop k).take (j - k)) := BytesIn.cut h k j c hkj hj hc had

/-- The only one. -/
theorem Frames.one {w : World} {g : Tags} {t : Nat} {ao : Option Addr} {n cap : Nat} {l : List UInt8} (h : Frames w g t (.slice ao n cap) [l]) :
    ∃ b off a' c', ao = some ⟨b, off, none⟩ ∧ w.cell? ⟨b, off, none⟩ = some (.slice a' l.length c') ∧ Bytes w g t (.slice a' l.length c') l := by
  obtain ⟨b, off, e, _, hc⟩ := FramesIn.cells h (by simp)
  obtain ⟨u, hu, hb⟩ := hc 0 (by simp)
  obtain ⟨a', c', e', _⟩ := BytesIn.open_ hb
  simp only [List.getElem_cons_zero] at e'
  subst e'
  exact ⟨b, off, a', c', e, by rw [Nat.add_zero] at hu; exact hu, hb⟩

theorem Bytes.src {w : World} {g : Tags} {t : Nat} {v : Value} {l : List UInt8} (h : Bytes w g t v l) : Src w 1 v l.length (l.map byteCell) := BytesIn.src h

section
variable {P : Program} (w : World)
/-- APPEND, FOR THE WALK. -/
theorem wpList_append_t {ops : Array Oper} {rest : List Oper} {o : Oper} {a : Act} {Q : Exit → Act → World → Prop} (hgd : o.guard = none) (s x : Operand) {t e : TypeId}
    (ho : o.op = .call { callee := .builtin .append, args := #[s, x], argTypes := #[t, t] }) {size bytes : Nat} {z : Value} (E : Elem P t e size bytes z)
    {v : Value} {n : Nat} {xs : List Value} {g : Tags} {tg : Nat} (hs : a.eval s = v) (hown : Owns w g tg e size v n xs) {y : Value} {m : Nat} {news : List Value} (hy : a.eval x = y) (hx : Src w size y m news) (h1 : ∀ u ∈ news, u.oneCell' = true)
    (h63 : n + m ≤ maxLen) (hbytes : (n + m) * bytes ≤ 140737488355328)
    (h : ∀ ao cap w' g', Owns w' g' tg e size (.slice ao (n + m) cap) (n + m) (xs ++ news) → Turn w g w' g' [tg] → wpList P ops Q rest (a.put o.dst (.slice ao (n + m) cap)) w') : wpList P ops Q (o :: rest) a w := by
  obtain ⟨k, ho', hk⟩ := hown
  refine wpList_append w hgd s x ho E hs ho' hy hx h1 h63 hbytes fun v' w' k' h2 h3 h4 => ?_
  obtain ⟨ao, cap, rfl⟩ := own_form h2
  refine h ao cap w' (g.ext w.heap.size tg) ⟨k', h2, fun b hb => ?_⟩ (Turn.of_step h3 g tg hk)
  rcases h4 with rfl | ⟨j, hj, hge⟩
  · rw [Tags.ext_old _ _ _ _ (ho'.lt b hb)]; exact hk b hb
  · rw [hj] at hb; cases hb; exact Tags.ext_new _ _ _ _ hge

/-- APPEND, AS ONE STEP OF A REGION THAT DRAWS ITS ORDER: for 'go_region_law (refine step_append_t ..)'. -/
theorem step_append_t {w : World} {ops : Array Oper} {o : Oper} {a : Act} {K : Act → World → Prop} {Q : Exit → Act → World → Prop} {X : Prop} (hgd : o.guard = none) (s x : Operand) {t e : TypeId}
    (ho : o.op = .call { callee := .builtin .append, args := #[s, x], argTypes := #[t, t] }) {size bytes : Nat} {z : Value} (E : Elem P t e size bytes z)
    {v : Value} {n : Nat} {xs : List Value} {g : Tags} {tg : Nat} (hs : a.eval s = v) (hown : Owns w g tg e size v n xs) {y : Value} {m : Nat} {news : List Value} (hy : a.eval x = y) (hx : Src w size y m news) (h1 : ∀ u ∈ news, u.oneCell' = true)
    (h63 : n + m ≤ maxLen) (hbytes : (n + m) * bytes ≤ 140737488355328)
    (h : ∀ ao cap w' g', Owns w' g' tg e size (.slice ao (n + m) cap) (n + m) (xs ++ news) → Turn w g w' g' [tg] → K (a.put o.dst (.slice ao (n + m) cap)) w') :
    if Region.wanted o (yielded ops a.tmps) = true then Oper.wp P o a w K Q else X := by
  obtain ⟨k, ho', hk⟩ := hown
  refine step_append hgd s x ho E hs ho' hy hx h1 h63 hbytes fun v' w' k' h2 h3 h4 => ?_
  obtain ⟨ao, cap, rfl⟩ := own_form h2
  refine h ao cap w' (g.ext w.heap.size tg) ⟨k', h2, fun b hb => ?_⟩ (Turn.of_step h3 g tg hk)
  rcases h4 with rfl | ⟨j, hj, hge⟩
  · rw [Tags.ext_old _ _ _ _ (ho'.lt b hb)]; exact hk b hb
  · rw [hj] at hb; cases hb; exact Tags.ext_new _ _ _ _ hge
end
end Go.My
