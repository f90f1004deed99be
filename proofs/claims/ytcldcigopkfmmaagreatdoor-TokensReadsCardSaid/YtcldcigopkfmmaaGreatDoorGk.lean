/- A book of lists of several kinds: what stands in its memory. -/
import Derived.Test.YtcldcigopkfmmaaGreatDoorBkMem
import Derived.Test.YtcldcigopkfmmaaGreatDoorPxPut
import Derived.Test.YtcldcigopkfmmaaGreatDoorShelf
import Derived.Lib.AppendIntMem
import Derived.Lib.ItoaLen
namespace Go.Proofs.YtcldcigopkfmmaaGreatDoor
open Go.RowKit Go.My
/-- The library's table stands where nothing is written. -/
def Tab (w : World) (g : Tags) : Prop := ∃ B, Lib.TabBelow Tryz.prog B w "internal/strconv.uint64pow10" .u64 Lib.pow10Tab ∧ (∀ b, b < B → g b = 0) ∧ B ≤ w.heap.size
theorem Tab.is {w : World} {g : Tags} (h : Tab w g) : Lib.TabIs Tryz.prog w "internal/strconv.uint64pow10" .u64 Lib.pow10Tab := by obtain ⟨B, h1, _⟩ := h; exact h1.here
theorem Tab.turn {w w' : World} {g g' : Tags} {T : List Nat} (h : Tab w g) (k : Turn w g w' g' T) (h0 : 0 ∉ T) : Tab w' g' := by
  obtain ⟨B, h1, h2, h3⟩ := h
  exact ⟨B, h1.on ⟨k.os, k.tape, k.output, k.size, fun b hb => k.block b (Nat.lt_of_lt_of_le hb h3) (by rw [h2 b hb]; exact h0)⟩, fun b hb => (k.old b (Nat.lt_of_lt_of_le hb h3)).trans (h2 b hb), Nat.le_trans h3 k.size⟩
/-- A list that a book holds: where it lies, how many elements it has, its room; the longer one; the number. -/
structure Ent where
  va : Option Addr
  n : Nat
  vc : Nat
  la : Option Addr
  ll : Nat
  lc : Nat
  num : Nat
def Ent.v (x : Ent) : Value := .slice x.va x.n x.vc
def Ent.long (x : Ent) : Value := .slice x.la x.ll x.lc
def Ent.cells (x : Ent) : List Value := [x.v, x.long, .int .i64 (x.num : Int)]
def rows (hs : List Ent) : List Value := hs.flatMap Ent.cells
theorem rows_cons (x : Ent) (hs : List Ent) : rows (x :: hs) = x.v :: x.long :: .int .i64 (x.num : Int) :: rows hs := by simp [rows, Ent.cells]
theorem rows_length (hs : List Ent) : (rows hs).length = hs.length * 3 := by
  induction hs with
  | nil => rfl
  | cons x hs ih => rw [rows_cons]; simp only [List.length_cons, ih]; omega
theorem rows_at (hs : List Ent) (i : Nat) (hi : i < hs.length) : (rows hs)[i * 3]? = some hs[i].v ∧ (rows hs)[i * 3 + 1]? = some hs[i].long ∧ (rows hs)[i * 3 + 2]? = some (.int .i64 (hs[i].num : Int)) := by
  induction hs generalizing i with
  | nil => exact absurd hi (Nat.not_lt_zero _)
  | cons x hs ih =>
    rw [rows_cons]
    cases i with
    | zero => exact ⟨rfl, rfl, rfl⟩
    | succ i =>
      have := ih i (by simpa using hi)
      have e3 : (i + 1) * 3 = i * 3 + 3 := by omega
      rw [e3]
      exact this
def Ent.with_ (x : Ent) (la : Option Addr) (ll lc : Nat) : Ent := ⟨x.va, x.n, x.vc, la, ll, lc, x.num⟩
theorem rows_set (hs : List Ent) (i : Nat) (hi : i < hs.length) (la : Option Addr) (ll lc : Nat) : rows (hs.set i (hs[i].with_ la ll lc)) = (rows hs).set (i * 3 + 1) (.slice la ll lc) := by
  induction hs generalizing i with
  | nil => exact absurd hi (Nat.not_lt_zero _)
  | cons x hs ih =>
    cases i with
    | zero => simp only [List.set_cons_zero, List.getElem_cons_zero, rows_cons]; rfl
    | succ i =>
      have e3 : (i + 1) * 3 + 1 = (i * 3 + 1) + 3 := by omega
      simp only [List.set_cons_succ, List.getElem_cons_succ, rows_cons, e3]
      rw [ih i (by simpa using hi)]

/-- A kind of list: its number, the book's cell, the types, how many cells an element has, and what is written over it. -/
structure Kd where
  no : Nat
  fi : Nat
  ht : TypeId
  et : TypeId
  size : Nat
  mark : Nat → List Value
structure Kd.Good (κ : Kd) : Prop where
  lt : κ.no < 8
  fi : 0 < κ.fi
  pos : 0 < κ.size
  len : ∀ c, (κ.mark c).length = κ.size
/-- The owners of a book's rows, of its lists. -/
def arrTag (κ : Kd) : Nat := 810 + κ.no
def entTag (κ : Kd) (i : Nat) : Nat := 1000 + 8 * i + κ.no
def entTags (κ : Kd) (m : Nat) : List Nat := (List.range m).map (entTag κ)
theorem entTag_mem {κ : Kd} {i m : Nat} (h : i < m) : ∀ t, t ∈ [entTag κ i] → t ∈ entTags κ m := by
  intro t ht
  rw [List.mem_singleton.1 ht]
  exact List.mem_map.2 ⟨i, List.mem_range.2 h, rfl⟩
theorem not_entTags {κ : Kd} {t m : Nat} (h : t < 1000) : t ∉ entTags κ m := by
  intro hm
  obtain ⟨j, _, e⟩ := List.mem_map.1 hm
  unfold entTag at e; omega
theorem entTag_ne {κ : Kd} {i j : Nat} (h : i ≠ j) : entTag κ i ∉ [entTag κ j] := by unfold entTag; simp; omega
theorem ent_other {κ κ' : Kd} (hκ : κ.no < 8) (hκ' : κ'.no < 8) (h : κ.no ≠ κ'.no) (i m : Nat) : entTag κ i ∉ entTags κ' m := by
  intro hm
  obtain ⟨j, _, e⟩ := List.mem_map.1 hm
  unfold entTag at e; omega
theorem low_ent (κ : Kd) (i : Nat) {t : Nat} (h : t < 1000) : t ∉ [entTag κ i] := by unfold entTag; simp; omega
theorem ent_low {κ : Kd} {i t : Nat} (h : t < 1000) : entTag κ i ∉ [t] := by unfold entTag; simp; omega

def marks (κ : Kd) (c n : Nat) : List Value := (List.replicate n (κ.mark c)).flatten
theorem marks_len {κ : Kd} (hκ : κ.Good) (c n : Nat) : (marks κ c n).length = n * κ.size := by
  unfold marks
  induction n with
  | zero => simp
  | succ n ih => rw [List.replicate_succ, List.flatten_cons, List.length_append, ih, hκ.len, Nat.add_mul]; omega
theorem marks_succ (κ : Kd) (c n : Nat) : marks κ c (n + 1) = marks κ c n ++ κ.mark c := by
  unfold marks
  rw [List.replicate_succ']; simp
theorem marks_at {κ : Kd} (hκ : κ.Good) (c n k j : Nat) (hk : k < n) (hj : j < κ.size) : (marks κ c n)[k * κ.size + j]? = (κ.mark c)[j]? := by
  induction n with
  | zero => exact absurd hk (Nat.not_lt_zero _)
  | succ n ih =>
    rw [marks_succ]
    by_cases h : k < n
    · rw [List.getElem?_append_left (by rw [marks_len hκ]; have := Nat.mul_le_mul_right κ.size (Nat.succ_le_of_lt h); rw [Nat.succ_mul] at this; omega)]
      exact ih h
    · obtain rfl : k = n := by omega
      rw [List.getElem?_append_right (by rw [marks_len hκ]; omega), marks_len hκ, Nat.add_sub_cancel_left]

/-- A book: its cells; the lists of a kind that it holds. -/
structure Book (κ : Kd) (w : World) (g : Tags) (bp : Nat) (cs : Array Value) (hs : List Ent) : Prop where
  box : Bx w g bp 40 801 cs
  arr : ∃ vb, cs[κ.fi]? = some vb ∧ Owns w g (arrTag κ) κ.ht 3 vb hs.length (rows hs)
  few : hs.length ≤ 1000000000
  ok : ∀ x ∈ hs, x.n ≤ 1000000000 ∧ 0 < x.num ∧ x.num ≤ 1000000000
  tab : Tab w g
theorem Book.turn {κ : Kd} {w w' : World} {g g' : Tags} {T : List Nat} {bp : Nat} {cs : Array Value} {hs : List Ent} (h : Book κ w g bp cs hs) (k : Turn w g w' g' T) (h0 : 0 ∉ T) (h1 : 801 ∉ T) (h2 : arrTag κ ∉ T) : Book κ w' g' bp cs hs := by
  obtain ⟨vb, h3, h4⟩ := h.arr
  exact ⟨h.box.turn k h1, ⟨vb, h3, h4.turn k h2⟩, h.few, h.ok, h.tab.turn k h0⟩
theorem not_low (κ : Kd) (m t : Nat) (h : t < 1000) : t ∉ entTags κ m := by
  intro hm
  obtain ⟨j, _, e⟩ := List.mem_map.1 hm
  unfold entTag at e; omega

/-- Each list, as it came; the first i of them as they are filled. -/
def Filled (κ : Kd) (w : World) (g : Tags) (hs : List Ent) (i : Nat) : Prop :=
  ∀ j (hj : j < hs.length), if j < i then Owns w g (entTag κ j) κ.et κ.size hs[j].v hs[j].n (marks κ hs[j].num hs[j].n) else ∃ xs, Owns w g (entTag κ j) κ.et κ.size hs[j].v hs[j].n xs
theorem Filled.other {κ : Kd} {w w' : World} {g g' : Tags} {hs : List Ent} {i : Nat} (h : Filled κ w g hs i) (hi : i < hs.length) (k : Turn w g w' g' [entTag κ i]) (hn : Owns w' g' (entTag κ i) κ.et κ.size hs[i].v hs[i].n (marks κ hs[i].num hs[i].n)) : Filled κ w' g' hs (i + 1) := by
  intro j hj
  by_cases hji : j = i
  · subst hji; rw [if_pos (by omega)]; exact hn
  · have := h j hj
    by_cases hlt : j < i
    · rw [if_pos hlt] at this; rw [if_pos (by omega)]; exact this.turn k (entTag_ne hji)
    · rw [if_neg hlt] at this; rw [if_neg (by omega)]
      obtain ⟨xs, hx⟩ := this
      exact ⟨xs, hx.turn k (entTag_ne hji)⟩
theorem Filled.turn {κ : Kd} {w w' : World} {g g' : Tags} {hs : List Ent} {i : Nat} {T : List Nat} (h : Filled κ w g hs i) (k : Turn w g w' g' T) (hT : ∀ j, entTag κ j ∉ T) : Filled κ w' g' hs i := by
  intro j hj
  have := h j hj
  by_cases hlt : j < i
  · rw [if_pos hlt] at this ⊢; exact this.turn k (hT j)
  · rw [if_neg hlt] at this ⊢
    obtain ⟨xs, hx⟩ := this
    exact ⟨xs, hx.turn k (hT j)⟩

def FillAt (κ : Kd) (w : World) (g : Tags) (bp : Nat) (cs : Array Value) (hs : List Ent) (gk : Nat) (v2 : Value) (wr : World) : Prop :=
  ∃ (i : Nat) (g' : Tags), i ≤ hs.length ∧ gk = hs.length - i ∧ v2 = .int .i64 (i : Int) ∧ Turn w g wr g' (entTags κ hs.length) ∧ Book κ wr g' bp cs hs ∧ Filled κ wr g' hs i
def Fill1 (κ : Kd) (wx : World) (gx : Tags) (bx : Nat) (x : Ent) (t : Nat) (gk : Nat) (v4 : Value) (wr : World) : Prop :=
  ∃ (k : Nat) (xs : List Value) (g' : Tags), k ≤ x.n ∧ gk = x.n - k ∧ v4 = .int .i64 (k : Int) ∧ Turn wx gx wr g' [t] ∧ Bx wr g' bx κ.ht 900 #[.slice x.va x.n x.vc, .slice x.la x.ll x.lc, .int .i64 (x.num : Int)] ∧ Owns wr g' t κ.et κ.size x.v x.n (marks κ x.num k ++ xs)

/-- Cells written one behind the other. -/
def setL (w : World) (b : Nat) : Nat → List Value → World
  | _, [] => w
  | o, u :: us => setL (w.setCell ⟨b, o, none⟩ u) b (o + 1) us
theorem owns_put {g : Tags} {t : Nat} {e : TypeId} {size b off n cap : Nat} (us : List Value) : ∀ {w : World} {A B C : List Value}, Owns w g t e size (.slice (some ⟨b, off, none⟩) n cap) n (A ++ B ++ C) → us.length = B.length →
    Owns (setL w b (off + A.length) us) g t e size (.slice (some ⟨b, off, none⟩) n cap) n (A ++ us ++ C) ∧ Turn w g (setL w b (off + A.length) us) g [t] := by
  induction us with
  | nil =>
    intro w A B C h hl
    have : B = [] := List.eq_nil_of_length_eq_zero (by simpa using hl.symm)
    subst this
    exact ⟨h, Turn.refl _ _ _⟩
  | cons u us ih =>
    intro w A B C h hl
    obtain ⟨x, B, rfl⟩ : ∃ x r, B = x :: r := by cases B with | nil => simp at hl | cons x r => exact ⟨x, r, rfl⟩
    have hlen : (A ++ x :: B ++ C).length = n * size := by obtain ⟨_, ho, _⟩ := h; exact ho.1
    have hs := h.set A.length (by rw [← hlen]; simp) u
    have e : (A ++ x :: B ++ C).set A.length u = (A ++ [u]) ++ B ++ C := by
      rw [List.append_assoc, List.set_append_right _ _ (Nat.le_refl _)]; simp
    rw [e] at hs
    obtain ⟨k1, k2⟩ := ih hs.1 (by simpa using hl)
    have e2 : off + (A ++ [u]).length = off + A.length + 1 := by simp; omega
    rw [e2] at k1 k2
    have e3 : A ++ [u] ++ us ++ C = A ++ u :: us ++ C := by simp
    rw [e3] at k1
    exact ⟨k1, hs.2.trans k2 (V := [t]) (by simp) (by simp)⟩
/-- The next element's mark is written. -/
theorem owns_mark {κ : Kd} (hκ : κ.Good) {w : World} {g : Tags} {t b off n cap c k : Nat} {ys : List Value} (h : Owns w g t κ.et κ.size (.slice (some ⟨b, off, none⟩) n cap) n (marks κ c k ++ ys)) (hk : k < n) :
    ∃ ys', Owns (setL w b (off + k * κ.size) (κ.mark c)) g t κ.et κ.size (.slice (some ⟨b, off, none⟩) n cap) n (marks κ c (k + 1) ++ ys') ∧ Turn w g (setL w b (off + k * κ.size) (κ.mark c)) g [t] := by
  have hlen : (marks κ c k ++ ys).length = n * κ.size := by obtain ⟨_, ho, _⟩ := h; exact ho.1
  rw [List.length_append, marks_len hκ] at hlen
  have hy : κ.size ≤ ys.length := by
    have := Nat.mul_le_mul_right κ.size (Nat.succ_le_of_lt hk)
    rw [Nat.succ_mul] at this; omega
  have e : marks κ c k ++ ys = marks κ c k ++ ys.take κ.size ++ ys.drop κ.size := by rw [List.append_assoc, List.take_append_drop]
  rw [e] at h
  have hp := owns_put (w := w) (κ.mark c) h (by rw [hκ.len, List.length_take]; omega)
  rw [marks_len hκ] at hp
  refine ⟨ys.drop κ.size, ?_, hp.2⟩
  rw [marks_succ]
  exact hp.1

/-- A place in what the call owns may be written, cell by cell. -/
def MayW (w : World) (b o : Nat) : Prop := (∃ z, w.cell? ⟨b, o, none⟩ = some z) ∧ w.frozen? ⟨b, o, none⟩ = false
theorem mayW_row {w : World} {b o : Nat} {cur : Array Value} {e : TypeId} (h : w.heap[b]? = some (.cells cur e (0, 0))) (ho : o < cur.size) : MayW w b o := by
  refine ⟨⟨cur[o], ?_⟩, frozen_of_row _ b _ _ _ h⟩
  rw [cell_of_row _ b _ _ _ _ h]; simp [ho]
theorem owns_row {w : World} {g : Tags} {t : Nat} {e : TypeId} {size b off n cap : Nat} {xs : List Value} (h : Owns w g t e size (.slice (some ⟨b, off, none⟩) n cap) n xs) : ∃ cur, w.heap[b]? = some (.cells cur e (0, 0)) ∧ off + n * size ≤ cur.size := by
  obtain ⟨k, ho, hk⟩ := h
  rcases ho.2 with ⟨hv, _⟩ | ⟨b', off', cap', cur, hv, hg, hh, h3, h4, h5, h6⟩
  · cases hv
  · cases hv
    refine ⟨cur, hh, ?_⟩
    have := Nat.mul_le_mul_right size h3
    omega
theorem may1 {w : World} {g : Tags} {t : Nat} {e : TypeId} {size b off n cap : Nat} {xs : List Value} (h : Owns w g t e size (.slice (some ⟨b, off, none⟩) n cap) n xs) (o : Nat) (ho : o + 1 ≤ n * size) : MayW w b (off + o) := by
  obtain ⟨cur, hh, hz⟩ := owns_row h
  exact mayW_row hh (by omega)
theorem may3 {w : World} {g : Tags} {t : Nat} {e : TypeId} {size b off n cap : Nat} {xs : List Value} (h : Owns w g t e size (.slice (some ⟨b, off, none⟩) n cap) n xs) (o : Nat) (ho : o + 3 ≤ n * size) (u0 u1 : Value) :
    MayW w b (off + o) ∧ MayW (w.setCell ⟨b, off + o, none⟩ u0) b (off + o + 1) ∧ MayW ((w.setCell ⟨b, off + o, none⟩ u0).setCell ⟨b, off + o + 1, none⟩ u1) b (off + o + 2) := by
  obtain ⟨cur, hh, hz⟩ := owns_row h
  have r1 := heap_setCell_same w b (off + o) _ _ u0 hh
  have r2 := heap_setCell_same _ b (off + o + 1) _ _ u1 r1
  exact ⟨mayW_row hh (by omega), mayW_row r1 (by simp; omega), mayW_row r2 (by simp; omega)⟩
theorem may5 {w : World} {g : Tags} {t : Nat} {e : TypeId} {size b off n cap : Nat} {xs : List Value} (h : Owns w g t e size (.slice (some ⟨b, off, none⟩) n cap) n xs) (o : Nat) (ho : o + 5 ≤ n * size) (u0 u1 u2 u3 : Value) :
    MayW w b (off + o) ∧ MayW (w.setCell ⟨b, off + o, none⟩ u0) b (off + o + 1) ∧ MayW ((w.setCell ⟨b, off + o, none⟩ u0).setCell ⟨b, off + o + 1, none⟩ u1) b (off + o + 2) ∧
    MayW (((w.setCell ⟨b, off + o, none⟩ u0).setCell ⟨b, off + o + 1, none⟩ u1).setCell ⟨b, off + o + 2, none⟩ u2) b (off + o + 3) ∧ MayW ((((w.setCell ⟨b, off + o, none⟩ u0).setCell ⟨b, off + o + 1, none⟩ u1).setCell ⟨b, off + o + 2, none⟩ u2).setCell ⟨b, off + o + 3, none⟩ u3) b (off + o + 4) := by
  obtain ⟨cur, hh, hz⟩ := owns_row h
  have r1 := heap_setCell_same w b (off + o) _ _ u0 hh
  have r2 := heap_setCell_same _ b (off + o + 1) _ _ u1 r1
  have r3 := heap_setCell_same _ b (off + o + 2) _ _ u2 r2
  have r4 := heap_setCell_same _ b (off + o + 3) _ _ u3 r3
  exact ⟨mayW_row hh (by omega), mayW_row r1 (by simp; omega), mayW_row r2 (by simp; omega), mayW_row r3 (by simp; omega), mayW_row r4 (by simp; omega)⟩

/-- The first i of them have more behind them. -/
def GrownTo (κ : Kd) (w : World) (g : Tags) (hs : List Ent) (i : Nat) : Prop :=
  ∀ j (hj : j < hs.length), if j < i then hs[j].ll = hs[j].n + 40 ∧ Grown w g (entTag κ j) κ.et κ.size hs[j].v hs[j].n (marks κ hs[j].num hs[j].n) hs[j].long 40 (marks κ hs[j].num 40) else Owns w g (entTag κ j) κ.et κ.size hs[j].v hs[j].n (marks κ hs[j].num hs[j].n)
theorem Filled.grown {κ : Kd} {w : World} {g : Tags} {hs : List Ent} (h : Filled κ w g hs hs.length) : GrownTo κ w g hs 0 := by
  intro j hj
  have := h j hj
  rw [if_pos hj] at this
  rw [if_neg (Nat.not_lt_zero _)]; exact this
theorem GrownTo.turn {κ : Kd} {w w' : World} {g g' : Tags} {hs : List Ent} {i : Nat} {T : List Nat} (h : GrownTo κ w g hs i) (k : Turn w g w' g' T) (hT : ∀ j, entTag κ j ∉ T) : GrownTo κ w' g' hs i := by
  intro j hj
  have := h j hj
  by_cases hlt : j < i
  · rw [if_pos hlt] at this ⊢; exact ⟨this.1, this.2.turn k (hT j)⟩
  · rw [if_neg hlt] at this ⊢; exact this.turn k (hT j)
theorem GrownTo.next {κ : Kd} {w w' : World} {g g' : Tags} {hs : List Ent} {i : Nat} (h : GrownTo κ w g hs i) (hi : i < hs.length) (k : Turn w g w' g' [entTag κ i]) {la : Option Addr} {lc : Nat}
    (hn : Grown w' g' (entTag κ i) κ.et κ.size hs[i].v hs[i].n (marks κ hs[i].num hs[i].n) (.slice la (hs[i].n + 40) lc) 40 (marks κ hs[i].num 40)) : GrownTo κ w' g' (hs.set i (hs[i].with_ la (hs[i].n + 40) lc)) (i + 1) := by
  intro j hj
  have hj' : j < hs.length := by simpa using hj
  by_cases hji : j = i
  · subst hji
    have e : (hs.set j (hs[j].with_ la (hs[j].n + 40) lc))[j]'hj = hs[j].with_ la (hs[j].n + 40) lc := by simp
    rw [if_pos (by omega), e]
    exact ⟨rfl, hn⟩
  · have e : (hs.set i (hs[i].with_ la (hs[i].n + 40) lc))[j]'hj = hs[j] := by rw [List.getElem_set, if_neg (fun h => hji h.symm)]
    rw [e]
    have := h j hj'
    by_cases hlt : j < i
    · rw [if_pos hlt] at this; rw [if_pos (by omega)]; exact ⟨this.1, this.2.turn k (entTag_ne hji)⟩
    · rw [if_neg hlt] at this; rw [if_neg (by omega)]; exact this.turn k (entTag_ne hji)
def GrowAt (κ : Kd) (w : World) (g : Tags) (bp : Nat) (cs : Array Value) (m : Nat) (gk : Nat) (v2 : Value) (wr : World) : Prop :=
  ∃ (i : Nat) (hs : List Ent) (g' : Tags), hs.length = m ∧ i ≤ m ∧ gk = m - i ∧ v2 = .int .i64 (i : Int) ∧ Turn w g wr g' (arrTag κ :: entTags κ m) ∧ Book κ wr g' bp cs hs ∧ GrownTo κ wr g' hs i
def Grow1 (κ : Kd) (wx : World) (gx : Tags) (bx : Nat) (x : Ent) (t : Nat) (gk : Nat) (v4 v5 : Value) (wr : World) : Prop :=
  ∃ (k : Nat) (la : Option Addr) (lc : Nat) (g' : Tags), k ≤ 40 ∧ gk = 40 - k ∧ v4 = .slice la (x.n + k) lc ∧ v5 = .int .i64 (k : Int) ∧ Turn wx gx wr g' [t] ∧ Bx wr g' bx κ.ht 900 #[.slice x.va x.n x.vc, .slice x.la x.ll x.lc, .int .i64 (x.num : Int)] ∧
    Grown wr g' t κ.et κ.size x.v x.n (marks κ x.num x.n) (.slice la (x.n + k) lc) k (marks κ x.num k)
def LookAt (κ : Kd) (w : World) (g : Tags) (bp : Nat) (cs : Array Value) (hs : List Ent) (gk : Nat) (v3 : Value) (wr : World) : Prop :=
  ∃ (i : Nat) (g' : Tags), i ≤ hs.length ∧ gk = hs.length - i ∧ v3 = .int .i64 (i : Int) ∧ Turn w g wr g' [] ∧ Book κ wr g' bp cs hs ∧ GrownTo κ wr g' hs hs.length

/-- The word of a number. -/
def wordOf (c : Nat) : ByteArray := ⟨#[35]⟩ ++ ⟨(Lib.itoa (c : Int)).toArray⟩
theorem bkWord_t (c : Nat) (hc : c ≤ 1000000000) {w : World} {g : Tags} (hT : Tab w g) : Calls Tryz.prog 126 #[.int .i64 (c : Int)] w fun e w' => e = .returned (.string (wordOf c)) ∧ Below w.heap.size w w' := by
  have HT := Lib.hid hT.is
  have h0 : (-9223372036854775808 : Int) ≤ (c : Int) := by omega
  have h1 : (c : Int) ≤ 9223372036854775807 := by omega
  have hl := Lib.itoa_length_le (c : Int) h0 h1
  have hadd : ∀ wx, (Op.stringOp .add ⟨#[35]⟩ ⟨(Lib.itoa (c : Int)).toArray⟩).run Tryz.prog wx = .ok (.string (wordOf c)) wx := fun wx => by
    rw [run_string_add_sum wx _ _ (by show 1 + (Lib.itoa (c : Int)).length ≤ _; omega)]; rfl
  clear hT hl
  go_enter Tryz.func126, Tryz.ntmps126
  go_wp2_with fail
  refine (Tryz.strconv_Itoa (c : Int) h0 h1 w HT.out).mono ?_
  rintro e w1 ⟨rfl, k, os, rfl⟩
  have HB := Lib.hid (Lib.below_grow w.heap.size w (Nat.le_refl _) k os)
  generalize Sort.grow (w.drewN k) os = w1 at *
  go_wp2_with fail
  go_ret
  exact ⟨rfl, HB.out⟩
end Go.Proofs.YtcldcigopkfmmaaGreatDoor
