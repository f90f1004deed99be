/- Memory words for walks, over any program: what a slice of bytes, a slice of slices of bytes reads as; a slice that the call itself owns and appends to. No program in sight. -/
import Derived.WalkKit
import Derived.WalkSpells
import Derived.WalkLawsBesides
import Derived.Lib.Hide
import Derived.ProofKit
import Derived.OpenShut
import Derived.Deep.Matrix
import Derived.Laws.CopyOwn
import Derived.Lib.SlBytesConst
import Derived.Deep.Cut
import Derived.Deep.CutBlock
import Derived.Deep.CutRange
import Derived.Deep.DeepCutAuto
import Derived.Deep.LoopGhost
import Derived.Deep.QuietTactic
import Derived.BigQuiet
import Derived.Deep.RegionWith
import Derived.Deep.RegionHeld3
import Derived.Deep.RegionLaw
import Derived.Deep.DeepFit
import Derived.Deep.DeepMust
import Derived.StillTailTactics
namespace Go.My
open Go.RowKit

theorem add_none (b o j : Nat) : (⟨b, o, none⟩ : Addr).add j = ⟨b, o + j, none⟩ := by unfold Addr.add; split <;> simp_all

/-- The step from w to w': new blocks; of the old ones at most block 'row' has turned. -/
structure Step (w w' : World) (row : Option Nat) : Prop where
  os : w'.os = w.os
  tape : w'.tape = w.tape
  output : w'.output = w.output
  size : w.heap.size ≤ w'.heap.size
  block : ∀ k, k < w.heap.size → some k ≠ row → w'.heap[k]? = w.heap[k]?

theorem Step.below {w w' : World} {row : Option Nat} {B : Nat} (h : Step w w' row) (hB : B ≤ w.heap.size) (hr : ∀ k, row = some k → B ≤ k) : Below B w w' :=
  ⟨h.os, h.tape, h.output, h.size, fun k hk => h.block k (by omega) (fun e => by have := hr k e.symm; omega)⟩

theorem Step.of_below {w w' : World} {row : Option Nat} (h : Below w.heap.size w w') : Step w w' row :=
  ⟨h.os, h.tape, h.output, h.size, fun k hk _ => h.block k hk⟩

theorem Step.of_grown {w w' : World} {row : Option Nat} (h : w.grownBy w' row) : Step w w' row := ⟨h.os, h.tape, h.output, h.size, h.block⟩

theorem Step.refl (w : World) (row : Option Nat) : Step w w row := ⟨rfl, rfl, rfl, Nat.le_refl _, fun _ _ _ => rfl⟩

theorem Step.trans {w w1 w2 : World} {r : Option Nat} (h : Step w w1 r) (k : Step w1 w2 r) : Step w w2 r :=
  ⟨k.os.trans h.os, k.tape.trans h.tape, k.output.trans h.output, Nat.le_trans h.size k.size,
   fun b hb hr => (k.block b (Nat.lt_of_lt_of_le hb h.size) hr).trans (h.block b hb hr)⟩

theorem Step.cell {w w' : World} {row : Option Nat} (h : Step w w' row) {a : Addr} (ha : a.block < w.heap.size) (hr : some a.block ≠ row) : w'.cell? a = w.cell? a :=
  World.cell?_of_block (h.block _ ha hr)

theorem Step.below_of_new {B : Nat} {w0 w w' : World} {row : Option Nat} (hb : Below B w0 w) (hB : B ≤ w.heap.size) (h : Step w w' row) (hr : ∀ k, row = some k → B ≤ k) : Below B w0 w' :=
  hb.trans (h.below hB hr)

/-- A slice of one-cell elements: v reads as the cells xs, all in a block of S. -/
def RowIn (w : World) (S : Nat → Prop) (v : Value) (xs : List Value) : Prop :=
  ∃ ao cap, v = .slice ao xs.length cap ∧ xs.length ≤ cap ∧ cap ≤ maxLen ∧ (ao = none → cap = 0) ∧
    (xs ≠ [] → ∃ b off, ao = some ⟨b, off, none⟩ ∧ S b ∧ ∀ j u, xs[j]? = some u → w.cell? ⟨b, off + j, none⟩ = some u)

theorem RowIn.frame {w w' : World} {S : Nat → Prop} {v : Value} {xs : List Value} (h : RowIn w S v xs) (hs : ∀ b, S b → b < w.heap.size → w'.heap[b]? = w.heap[b]?) : RowIn w' S v xs := by
  obtain ⟨ao, cap, hv, h1, h2, h0, h3⟩ := h
  refine ⟨ao, cap, hv, h1, h2, h0, fun hx => ?_⟩
  obtain ⟨b, off, ha, hS, hc⟩ := h3 hx
  refine ⟨b, off, ha, hS, fun j u hj => ?_⟩
  have hcell := hc j u hj
  exact (World.cell?_of_block (hs b hS (World.block_lt_of_cell? w _ hcell))).trans hcell

theorem RowIn.mono {w : World} {S T : Nat → Prop} {v : Value} {xs : List Value} (h : RowIn w S v xs) (hs : ∀ b, b < w.heap.size → S b → T b) : RowIn w T v xs := by
  obtain ⟨ao, cap, hv, h1, h2, h0, h3⟩ := h
  refine ⟨ao, cap, hv, h1, h2, h0, fun hx => ?_⟩
  obtain ⟨b, off, ha, hS, hc⟩ := h3 hx
  have h00 : ∃ u, xs[0]? = some u := by cases xs with | nil => exact absurd rfl hx | cons u _ => exact ⟨u, rfl⟩
  obtain ⟨u, hu⟩ := h00
  exact ⟨b, off, ha, hs b (World.block_lt_of_cell? w _ (hc 0 u hu)) hS, hc⟩

/-- A byte's cell. -/
def byteCell (x : UInt8) : Value := .int .u8 (x.toNat : Int)

/-- v reads as the bytes l. -/
def BytesIn (w : World) (S : Nat → Prop) (v : Value) (l : List UInt8) : Prop := RowIn w S v (l.map byteCell)

theorem BytesIn.frame {w w' : World} {S : Nat → Prop} {v : Value} {l : List UInt8} (h : BytesIn w S v l) (hs : ∀ b, S b → b < w.heap.size → w'.heap[b]? = w.heap[b]?) : BytesIn w' S v l := RowIn.frame h hs
theorem BytesIn.mono {w : World} {S T : Nat → Prop} {v : Value} {l : List UInt8} (h : BytesIn w S v l) (hs : ∀ b, b < w.heap.size → S b → T b) : BytesIn w T v l := RowIn.mono h hs

/-- For a walk: the value's form, and each cell under its condition. -/
theorem BytesIn.open_ {w : World} {S : Nat → Prop} {v : Value} {l : List UInt8} (h : BytesIn w S v l) :
    ∃ ao cap, v = .slice ao l.length cap ∧ l.length ≤ cap ∧ cap ≤ maxLen ∧ (ao = none → cap = 0) ∧
      (0 < l.length → ∃ b off, ao = some ⟨b, off, none⟩ ∧ S b ∧ ∀ j (hj : j < l.length), w.cell? ⟨b, off + j, none⟩ = some (.int .u8 ((l[j]).toNat : Int))) := by
  obtain ⟨ao, cap, hv, h1, h2, h0, h3⟩ := h
  rw [List.length_map] at hv h1
  refine ⟨ao, cap, hv, h1, h2, h0, fun hl => ?_⟩
  obtain ⟨b, off, ha, hS, hc⟩ := h3 (by intro e; rw [List.map_eq_nil_iff] at e; subst e; exact absurd hl (by simp))
  refine ⟨b, off, ha, hS, fun j hj => hc j _ ?_⟩
  rw [List.getElem?_map, List.getElem?_eq_getElem hj]; rfl

theorem BytesIn.nil (w : World) (S : Nat → Prop) : BytesIn w S (.slice none 0 0) [] := ⟨none, 0, rfl, Nat.le_refl _, Nat.zero_le _, fun _ => rfl, fun h => absurd rfl h⟩

/-- A slice of slices of bytes. -/
def FramesIn (w : World) (S : Nat → Prop) (v : Value) (ls : List (List UInt8)) : Prop :=
  ∃ us : List Value, RowIn w S v us ∧ us.length = ls.length ∧ ∀ j (h : j < us.length) (h' : j < ls.length), BytesIn w S us[j] ls[j]

theorem FramesIn.frame {w w' : World} {S : Nat → Prop} {v : Value} {ls : List (List UInt8)} (h : FramesIn w S v ls) (hs : ∀ b, S b → b < w.heap.size → w'.heap[b]? = w.heap[b]?) : FramesIn w' S v ls := by
  obtain ⟨us, h1, h2, h3⟩ := h
  exact ⟨us, h1.frame hs, h2, fun j h h' => (h3 j h h').frame hs⟩
theorem FramesIn.mono {w : World} {S T : Nat → Prop} {v : Value} {ls : List (List UInt8)} (h : FramesIn w S v ls) (hs : ∀ b, b < w.heap.size → S b → T b) : FramesIn w T v ls := by
  obtain ⟨us, h1, h2, h3⟩ := h
  exact ⟨us, h1.mono hs, h2, fun j h h' => (h3 j h h').mono hs⟩
theorem FramesIn.nil (w : World) (S : Nat → Prop) : FramesIn w S (.slice none 0 0) [] := ⟨[], ⟨none, 0, rfl, Nat.le_refl _, Nat.zero_le _, fun _ => rfl, fun h => absurd rfl h⟩, rfl, fun _ h => absurd h (Nat.not_lt_zero _)⟩

/-- For a walk. -/
theorem FramesIn.open_ {w : World} {S : Nat → Prop} {v : Value} {ls : List (List UInt8)} (h : FramesIn w S v ls) :
    ∃ ao cap, v = .slice ao ls.length cap ∧ ls.length ≤ cap ∧ cap ≤ maxLen ∧ (ao = none → cap = 0) ∧
      (0 < ls.length → ∃ b off, ao = some ⟨b, off, none⟩ ∧ S b ∧ ∀ j (hj : j < ls.length), ∃ u, w.cell? ⟨b, off + j, none⟩ = some u ∧ BytesIn w S u (ls[j])) := by
  obtain ⟨us, ⟨ao, cap, hv, h1, h2, h0, h3⟩, hlen, hb⟩ := h
  rw [hlen] at hv h1
  refine ⟨ao, cap, hv, h1, h2, h0, fun hl => ?_⟩
  obtain ⟨b, off, ha, hS, hc⟩ := h3 (by intro e; subst e; rw [← hlen] at hl; exact absurd hl (by simp))
  exact ⟨b, off, ha, hS, fun j hj => ⟨us[j]'(by omega), hc j _ (by rw [List.getElem?_eq_getElem (by omega)]), hb j (by omega) hj⟩⟩

/-! ### Arguments, opened -/
open Go.ChangeShapes Go.WideShapes in
theorem bytes_of_ints {zs : List Int} (hz : ∀ n ∈ zs, (Lit.int .u8 n).wf = true) : ∃ l : List UInt8, zs = l.map fun x => (x.toNat : Int) := by
  induction zs with
  | nil => exact ⟨[], rfl⟩
  | cons z zs ih =>
    obtain ⟨l, hl⟩ := ih (fun n hn => hz n (by simp [hn]))
    have h := hz z (by simp)
    simp [Lit.wf, IntKind.min, IntKind.max, IntKind.signed, IntKind.bits] at h
    refine ⟨UInt8.ofNat z.toNat :: l, ?_⟩
    simp [hl]
    omega

open Go.ChangeShapes Go.WideShapes Go.ChangeAt in
theorem bytes_of_trod {H : Type} {enc : TypeId × Value → H} {P : Program} {W : World} {base : Nat} {t e : TypeId} {v : Value} {d : DataW H} {p : List MemPlace} (ht : P.underlying t = some (.slice e)) (he : P.underlying e = some (.int .u8)) (ce : P.cellsOf e = 1)
    (hok : Value.okWide P W .any base t v) (h : DataW.Trod enc P W 0 (fun _ => true) true t v d p) : ∃ l : List UInt8, BytesIn W (fun b => b < W.heap.size) v l := by
  obtain ⟨a, len, cap, rfl⟩ := okWide_slice ht hok
  obtain ⟨fuel, hf⟩ := h
  rcases open_ints ht he ce hf with ⟨hcs, _⟩ | ⟨x, l, c, zs, hcs, _, hl, hm, hz, _, hcell, hwz⟩
  · simp [Value.cells] at hcs
    obtain ⟨rfl, rfl, rfl⟩ := hcs
    exact ⟨[], BytesIn.nil _ _⟩
  · simp [Value.cells] at hcs
    obtain ⟨rfl, rfl, rfl⟩ := hcs
    simp only [if_true] at hz
    obtain ⟨bs, rfl⟩ := bytes_of_ints hwz
    rw [List.length_map] at hz
    refine ⟨bs.take len, some x, cap, by simp; omega, by simp; omega, hm, (fun e => by cases e), fun hne => ?_⟩
    have hlen : 0 < len := by
      rcases Nat.eq_zero_or_pos len with h0 | h0
      · subst h0; simp at hne
      · exact h0
    have h0 := hcell 0 (by simp; omega)
    obtain ⟨b, off, spot⟩ := x
    have hspot : spot = none := by simpa [Addr.add] using World.cell?_spot h0
    subst hspot
    refine ⟨b, off, rfl, by simpa [add_none] using World.block_lt_of_cell? W _ h0, fun j u hu => ?_⟩
    have hj : j < bs.length := by have := (List.getElem?_eq_some_iff.1 hu).1; simp at this; omega
    have := hcell j (by simpa using hj)
    rw [add_none] at this
    rw [this, ← hu, List.getElem?_map, List.getElem?_take]
    rw [if_pos (by have := (List.getElem?_eq_some_iff.1 hu).1; simp at this; omega)]
    simp [hj, byteCell]

/-! ### A slice that the call owns -/
/-- v, of n elements of type e (size cells each), owns the cells xs: nil; or a piece of block g, not frozen, up to its capacity. -/
def Own (w : World) (e : TypeId) (size : Nat) (v : Value) (n : Nat) (xs : List Value) (g : Option Nat) : Prop :=
  xs.length = n * size ∧
  ((v = .slice none 0 0 ∧ n = 0 ∧ g = none) ∨
   ∃ b off cap cur, v = .slice (some ⟨b, off, none⟩) n cap ∧ g = some b ∧ w.heap[b]? = some (.cells cur e (0, 0)) ∧ n ≤ cap ∧ cap ≤ maxLen ∧ off + cap * size ≤ cur.size ∧
     (cur.toList.drop off).take (n * size) = xs)

theorem Own.nil (w : World) (e : TypeId) (size : Nat) : Own w e size (.slice none 0 0) 0 [] none := ⟨by simp, .inl ⟨rfl, rfl, rfl⟩⟩

theorem Own.of_row {w : World} {base : Nat} {e : TypeId} {size : Nat} {v : Value} {n : Nat} {xs : List Value} (h : w.ownsRow base e size v n xs) :
    ∃ g, Own w e size v n xs g ∧ (∀ k, g = some k → base ≤ k) ∧ g = v.ownBlock := by
  obtain ⟨h1, h2 | ⟨b, cap, cur, hv, hb, hh, h3, h4, h5, h6⟩⟩ := h
  · exact ⟨none, ⟨h1, .inl ⟨h2.1, h2.2, rfl⟩⟩, (fun k e => by cases e), by rw [h2.1]; rfl⟩
  · refine ⟨some b, ⟨h1, .inr ⟨b, 0, cap, cur, hv, rfl, hh, h3, h4, by omega, by simpa using h6⟩⟩, (fun k e => by cases e; exact hb), by rw [hv]; rfl⟩

theorem Own.lt {w : World} {e : TypeId} {size : Nat} {v : Value} {n : Nat} {xs : List Value} {g : Option Nat} (h : Own w e size v n xs g) : ∀ k, g = some k → k < w.heap.size := by
  intro k hk
  rcases h.2 with ⟨_, _, hg⟩ | ⟨b, off, cap, cur, _, hg, hh, _⟩
  · rw [hg] at hk; cases hk
  · rw [hg] at hk; cases hk; exact (Array.getElem?_eq_some_iff.1 hh).1

theorem Own.frame {w w' : World} {e : TypeId} {size : Nat} {v : Value} {n : Nat} {xs : List Value} {g : Option Nat} (h : Own w e size v n xs g) (hs : ∀ k, g = some k → w'.heap[k]? = w.heap[k]?) : Own w' e size v n xs g := by
  refine ⟨h.1, ?_⟩
  rcases h.2 with h2 | ⟨b, off, cap, cur, hv, hg, hh, r⟩
  · exact .inl h2
  · exact .inr ⟨b, off, cap, cur, hv, hg, (hs b hg).trans hh, r⟩

theorem Own.row {w : World} {e : TypeId} {v : Value} {n : Nat} {xs : List Value} {g : Option Nat} (h : Own w e 1 v n xs g) : RowIn w (fun b => g = some b) v xs := by
  obtain ⟨h1, h2⟩ := h
  rw [Nat.mul_one] at h1
  rcases h2 with ⟨hv, hn, _⟩ | ⟨b, off, cap, cur, hv, hg, hh, h3, h4, h5, h6⟩
  · subst hn
    refine ⟨none, 0, by rw [hv, h1], by omega, Nat.zero_le _, fun _ => rfl, fun hx => ?_⟩
    exact absurd (List.eq_nil_of_length_eq_zero h1) hx
  · refine ⟨_, cap, by rw [h1]; exact hv, by omega, h4, (fun e => by cases e), fun _ => ⟨b, off, rfl, hg, fun j u hj => ?_⟩⟩
    rw [cell_of_row w b (off + j) cur e (0, 0) hh, ← hj, ← h6, List.getElem?_take, List.getElem?_drop, if_pos (by have := (List.getElem?_eq_some_iff.1 hj).1; omega)]
    simp

/-- What stands behind k elements. -/
theorem Own.drop {w : World} {e : TypeId} {b off n cap : Nat} {xs : List Value} {g : Option Nat} (h : Own w e 1 (.slice (some ⟨b, off, none⟩) n cap) n xs g) (k : Nat) (hk : k ≤ n) :
    Own w e 1 (.slice (some ⟨b, off + k, none⟩) (n - k) (cap - k)) (n - k) (xs.drop k) g := by
  obtain ⟨h1, h2⟩ := h
  refine ⟨by simp [h1], ?_⟩
  rcases h2 with ⟨hv, _⟩ | ⟨b', off', cap', cur, hv, hg, hh, h3, h4, h5, h6⟩
  · cases hv
  · cases hv
    refine .inr ⟨b, off + k, cap - k, cur, rfl, hg, hh, by omega, by omega, by omega, ?_⟩
    rw [← h6, List.drop_take, List.drop_drop]
    simp only [Nat.mul_one]

/-- .. and where nothing stands behind them, at the old place. -/
theorem Own.drop_all {w : World} {e : TypeId} {b off n cap : Nat} {xs : List Value} {g : Option Nat} (h : Own w e 1 (.slice (some ⟨b, off, none⟩) n cap) n xs g) (k : Nat) (hk : k = cap) (hn : k ≤ n) :
    Own w e 1 (.slice (some ⟨b, off, none⟩) (n - k) (cap - k)) (n - k) (xs.drop k) g := by
  obtain ⟨h1, h2⟩ := h
  refine ⟨by simp [h1], ?_⟩
  rcases h2 with ⟨hv, _⟩ | ⟨b', off', cap', cur, hv, hg, hh, h3, h4, h5, h6⟩
  · cases hv
  · cases hv
    refine .inr ⟨b, off, cap - k, cur, rfl, hg, hh, by omega, by omega, by omega, ?_⟩
    have : xs.drop k = [] := by rw [List.drop_eq_nil_iff]; omega
    rw [this]
    have : n - k = 0 := by omega
    rw [this]; simp

/-- The element type's row of the table. -/
structure Elem (P : Program) (t e : TypeId) (size bytes : Nat) (z : Value) : Prop where
  under : P.underlying t = some (.slice e)
  info : ∃ i, P.info? e = some i ∧ i.zero = some z ∧ i.size = size ∧ i.bytes = bytes
  cells : z.cells.size = size
  pos : 0 < size

theorem Elem.mk' {P : Program} {t e : TypeId} {size bytes : Nat} {z : Value} (h1 : P.underlying t = some (.slice e)) (h2 : (P.info? e).map (fun i => (i.zero, i.size, i.bytes)) = some (some z, size, bytes)) (h3 : z.cells.size = size) (h4 : 0 < size) : Elem P t e size bytes z := by
  refine ⟨h1, ?_, h3, h4⟩
  cases h : P.info? e with
  | none => rw [h] at h2; cases h2
  | some i => rw [h] at h2; simp at h2; exact ⟨i, rfl, h2.1, h2.2.1, h2.2.2⟩

/-- What is appended: nil, or a row that can be read. -/
def Src (w : World) (size : Nat) (x : Value) (m : Nat) (news : List Value) : Prop :=
  news.length = m * size ∧ ((x = .slice none 0 0 ∧ m = 0) ∨ ∃ ad c, x = .slice (some ad) m c ∧ ∀ j u, news[j]? = some u → w.cell? (ad.add j) = some u)

theorem RowIn.src {w : World} {S : Nat → Prop} {v : Value} {xs : List Value} (h : RowIn w S v xs) : Src w 1 v xs.length xs := by
  obtain ⟨ao, cap, hv, h1, h2, h0, h3⟩ := h
  refine ⟨by simp, ?_⟩
  cases ao with
  | none =>
    have := h0 rfl
    subst this
    have h4 : xs.length = 0 := by omega
    rw [h4] at hv ⊢
    exact .inl ⟨hv, rfl⟩
  | some a =>
    refine .inr ⟨a, cap, hv, fun j u hj => ?_⟩
    obtain ⟨b, off, ha, _, hc⟩ := h3 (by intro e; subst e; simp at hj)
    cases ha
    rw [add_none]; exact hc j u hj

theorem BytesIn.src {w : World} {S : Nat → Prop} {v : Value} {l : List UInt8} (h : BytesIn w S v l) : Src w 1 v l.length (l.map byteCell) := by
  have := RowIn.src h
  rwa [List.length_map] at this

theorem Src.lit {w : World} {k n size : Nat} (o : Array Value) (t : TypeId) (hk : k = w.heap.size) (h : o.size = n * size) : Src (w.alloc (.cells o t)) size (.slice (some ⟨k, 0, none⟩) n n) n o.toList := by
  subst hk
  refine ⟨by simp [h], .inr ⟨_, _, rfl, fun j u hj => ?_⟩⟩
  rw [add_none, cell_of_row _ w.heap.size (0 + j) o t (0, 0) (heap_alloc_new w _), ← hj]
  simp

theorem byteCells_one (l : List UInt8) : ∀ u ∈ l.map byteCell, u.oneCell' = true := by
  intro u hu
  obtain ⟨x, _, rfl⟩ := List.mem_map.1 hu
  rfl

/-- Blocks below B are as they were: what lies there reads as it did. -/
theorem RowIn.below {w w' : World} {S : Nat → Prop} {v : Value} {xs : List Value} {B : Nat} (h : RowIn w S v xs) (hb : Below B w w') (hS : ∀ b, S b → b < B) : RowIn w' S v xs :=
  h.frame fun b hs _ => hb.block b (hS b hs)
theorem BytesIn.below {w w' : World} {S : Nat → Prop} {v : Value} {l : List UInt8} {B : Nat} (h : BytesIn w S v l) (hb : Below B w w') (hS : ∀ b, S b → b < B) : BytesIn w' S v l := RowIn.below h hb hS
theorem FramesIn.below {w w' : World} {S : Nat → Prop} {v : Value} {ls : List (List UInt8)} {B : Nat} (h : FramesIn w S v ls) (hb : Below B w w') (hS : ∀ b, S b → b < B) : FramesIn w' S v ls :=
  h.frame fun b hs _ => hb.block b (hS b hs)

section
variable {P : Program} (w : World)

/-- APPEND: whatever room there is. -/
theorem run_append {t e : TypeId} {size bytes : Nat} {z : Value} (E : Elem P t e size bytes z) (ty : TypeId)
    {v : Value} {n : Nat} {xs : List Value} {g : Option Nat} (hown : Own w e size v n xs g) {x : Value} {m : Nat} {news : List Value} (hx : Src w size x m news) (h1 : ∀ u ∈ news, u.oneCell' = true)
    (h63 : n + m ≤ maxLen) (hbytes : (n + m) * bytes ≤ 140737488355328) :
    ∃ v' w' g', (Builtin.append_ #[t, t] ty #[v, x]).run P w = .ok v' w' ∧ Own w' e size v' (n + m) (xs ++ news) g' ∧ Step w w' g ∧ (g' = g ∨ ∃ k, g' = some k ∧ w.heap.size ≤ k) := by
  obtain ⟨hl, hx⟩ := hx
  obtain ⟨ht, ⟨i, hi, hz, hsize, hby⟩, hzs, hsz⟩ := E
  subst hsize
  subst hby
  have hsmall : n + m ≤ 9223372036854775807 := by simp only [maxLen] at h63; omega
  have hlen : (xs ++ news).length = (n + m) * i.size := by rw [List.length_append, hown.1, hl, Nat.add_mul]
  rcases hx with ⟨rfl, rfl⟩ | ⟨ad, c, rfl, hnews⟩
  · have hn : news = [] := List.eq_nil_of_length_eq_zero (by simpa using hl)
    subst hn
    refine ⟨v, w, g, ?_, by simpa using hown, Step.refl w g, .inl rfl⟩
    rcases hown.2 with ⟨rfl, rfl, _⟩ | ⟨b, off, cap, cur, rfl, hg, hh, h3, _⟩
    · simp [Builtin.append_, run_underlying ht, sizeOf, typeInfo, hi, Builtin.lenOf, Builtin.firstCells]
    · simp [Builtin.append_, run_underlying ht, sizeOf, typeInfo, hi, Builtin.lenOf, Builtin.firstCells, storeCells, h3]
  have grown : ∀ (old : Nat), old < n + m →
      Own (w.drew.alloc (.cells (xs.toArray ++ news.toArray ++ Builtin.zeroCells z.cells (grownCap w (n + m) old e - (n + m))) e)) e i.size
        (.slice (some ⟨w.heap.size, 0, none⟩) (n + m) (grownCap w (n + m) old e)) (n + m) (xs ++ news) (some w.heap.size) ∧
      Step w (w.drew.alloc (.cells (xs.toArray ++ news.toArray ++ Builtin.zeroCells z.cells (grownCap w (n + m) old e - (n + m))) e)) g := by
    intro old ho
    have hge := grownCap_ge w (n + m) old e
    have hcm : grownCap w (n + m) old e ≤ maxLen := grownCap_le_maxLen w (n + m) old e h63
    refine ⟨⟨hlen, .inr ⟨w.heap.size, 0, _, _, rfl, rfl, heap_alloc_new w.drew _, hge, hcm, ?_, ?_⟩⟩, ⟨rfl, rfl, rfl, by simp, fun k hk _ => Below.heap_alloc w.drew _ k hk⟩⟩
    · simp only [Array.size_append, List.size_toArray, size_zeroCells, hzs, hown.1, hl, ← Nat.add_mul, Nat.zero_add]
      apply Nat.mul_le_mul_right
      omega
    · simp only [Array.toList_append, List.append_assoc, List.drop_zero]
      rw [← List.append_assoc, ← hlen]
      exact List.take_left
  rcases hown.2 with ⟨rfl, rfl, rfl⟩ | ⟨b, off, cap, cur, rfl, rfl, hh, h3, h4, h5, h6⟩
  · have hxs : xs = [] := List.eq_nil_of_length_eq_zero (by simpa using hown.1)
    subst hxs
    by_cases hm : m = 0
    · subst hm
      have hn : news = [] := List.eq_nil_of_length_eq_zero (by simpa using hl)
      subst hn
      refine ⟨.slice none 0 0, w, none, ?_, Own.nil w e i.size, Step.refl w none, .inl rfl⟩
      simp [Builtin.append_, run_underlying ht, sizeOf, typeInfo, hi, Builtin.lenOf, Builtin.firstCells, loadCells, loadCellsFrom]
    · have hr := run_append_nil (P := P) w t ty e i z ht hi hz ad m c news hl hnews (by omega) (by omega) (by have hb := hbytes; simp only [Nat.zero_add] at hb; omega)
      have hgr := grown 0 (by omega)
      simp only [Nat.zero_add, List.nil_append, Array.empty_append] at hgr ⊢
      exact ⟨_, _, _, hr, hgr.1, hgr.2, .inr ⟨_, rfl, Nat.le_refl _⟩⟩
  · by_cases hroom : n + m ≤ cap
    · have hfit : off + n * i.size + news.length ≤ cur.size := by
        have := Nat.mul_le_mul_right i.size hroom
        rw [hl]; rw [Nat.add_mul] at this; omega
      have hf := run_firstCells_some (P := P) w i.size m ad m c news hl hnews
      have hst := run_storeCells_at P b (off + n * i.size) e news 0 cur w hh (by simpa using hfit) h1
      simp only [Nat.add_zero] at hst
      have hr : (Builtin.append_ #[t, t] ty #[.slice (some ⟨b, off, none⟩) n cap, .slice (some ad) m c]).run P w =
          .ok (.slice (some ⟨b, off, none⟩) (n + m) cap) (w.setRow b (cur.toList.take (off + n * i.size) ++ news ++ cur.toList.drop (off + n * i.size + news.length)).toArray) := by
        simp [Builtin.append_, run_underlying ht, sizeOf, typeInfo, hi, Builtin.lenOf, hroom, hf, Addr.add_lit, hst]
      refine ⟨_, _, some b, hr, ⟨hlen, .inr ⟨b, off, cap, _, rfl, rfl, setRow_heap w b cur _ e _ hh, hroom, h4, ?_, ?_⟩⟩,
        ⟨rfl, rfl, rfl, by simp, fun k _ hk => setRow_other w b k _ (fun e => hk (by simp [e]))⟩, .inl rfl⟩
      · simp only [List.size_toArray, List.length_append, List.length_take, List.length_drop, Array.length_toList]
        omega
      · have hx1 : xs.length = n * i.size := hown.1
        have hpre : (cur.toList.take (off + n * i.size)).drop off = xs := by
          rw [List.drop_take, ← h6]; congr 1; omega
        have hlo : off ≤ (cur.toList.take (off + n * i.size)).length := by simp; omega
        show List.take ((n + m) * i.size) (List.drop off (cur.toList.take (off + n * i.size) ++ news ++ cur.toList.drop (off + n * i.size + news.length))) = xs ++ news
        rw [List.append_assoc, List.drop_append_of_le_length hlo, hpre, ← List.append_assoc, ← hlen]
        exact List.take_left
    · have holds : ∀ j u, xs[j]? = some u → w.cell? ((⟨b, off, none⟩ : Addr).add j) = some u := by
        intro j u hj
        rw [add_none, cell_of_row w b (off + j) cur e (0, 0) hh, ← hj, ← h6, List.getElem?_take, List.getElem?_drop]
        rw [if_pos (by have := (List.getElem?_eq_some_iff.1 hj).1; rw [hown.1] at this; exact this)]; simp
      have hr := run_append_grow (P := P) w t ty e i z ht hi hz ⟨b, off, none⟩ n cap xs hown.1 holds ad m c news hl hnews (by omega) (by omega) (growslice_fits (by omega) hbytes)
      have hgr := grown cap (by omega)
      exact ⟨_, _, _, hr, hgr.1, hgr.2, .inr ⟨_, rfl, Nat.le_refl _⟩⟩

/-- APPEND, FOR THE WALK. -/
theorem wpList_append {ops : Array Oper} {rest : List Oper} {o : Oper} {a : Act} {Q : Exit → Act → World → Prop} (hgd : o.guard = none) (s x : Operand) {t e : TypeId}
    (ho : o.op = .call { callee := .builtin .append, args := #[s, x], argTypes := #[t, t] }) {size bytes : Nat} {z : Value} (E : Elem P t e size bytes z)
    {v : Value} {n : Nat} {xs : List Value} {g : Option Nat} (hs : a.eval s = v) (hown : Own w e size v n xs g) {y : Value} {m : Nat} {news : List Value} (hy : a.eval x = y) (hx : Src w size y m news) (h1 : ∀ u ∈ news, u.oneCell' = true)
    (h63 : n + m ≤ maxLen) (hbytes : (n + m) * bytes ≤ 140737488355328)
    (h : ∀ v' w' g', Own w' e size v' (n + m) (xs ++ news) g' → Step w w' g → (g' = g ∨ ∃ k, g' = some k ∧ w.heap.size ≤ k) → wpList P ops Q rest (a.put o.dst v') w') : wpList P ops Q (o :: rest) a w := by
  obtain ⟨v', w', g', hr, h2, h3, h4⟩ := run_append w E o.type hown hx h1 h63 hbytes
  refine wpList_plain hgd fun _ hK => ?_
  unfold Oper.wp execOp
  simp only [ho, resolve, invoke, builtin, Sem.run_bind, Sem.run_pure, Result.andThen_ok, List.map_toArray, List.map_cons, List.map_nil, hs, hy, hr]
  exact hK _ _ (h v' w' g' h2 h3 h4)


/-- MAKE, FOR THE WALK. -/
theorem wpList_make {ops : Array Oper} {rest : List Oper} {o : Oper} {a : Act} {Q : Exit → Act → World → Prop} (hgd : o.guard = none) (s s' : Operand) {t e : TypeId}
    (ho : o.op = .makeSlice t s s') {size bytes : Nat} {z : Value} (E : Elem P t e size bytes z) {kl kc : IntKind} {l c : Int} (hs : a.eval s = .int kl l) (hs' : a.eval s' = .int kc c)
    (h0 : 0 ≤ l) (hlc : l ≤ c) (hbytes : (bytes : Int) * c ≤ 281474976710656) (h63 : c ≤ 9223372036854775807)
    (h : wpList P ops Q rest (a.put o.dst (.slice (some ⟨w.heap.size, 0, none⟩) l.toNat c.toNat)) (w.alloc (.cells (madeCells z.cells (c.toNat * size)) e))) : wpList P ops Q (o :: rest) a w := by
  obtain ⟨ht, ⟨i, hi, hz, hsize, hby⟩, hzs, hsz⟩ := E
  subst hsize
  subst hby
  have hr := run_make (P := P) w t e i z ht hi hz kl kc l c h0 hlc hbytes h63
  refine wpList_plain hgd fun _ hK => ?_
  unfold Oper.wp execOp
  simp only [ho, hs, hs', Sem.run_bind, hr, Result.andThen_ok, Sem.run_pure]
  exact hK _ _ h

/-- COPY OF ALL OF THE SOURCE, FOR THE WALK. -/
theorem wpList_copy {ops : Array Oper} {rest : List Oper} {o : Oper} {a : Act} {Q : Exit → Act → World → Prop} (hgd : o.guard = none) (d s : Operand) {t t' e : TypeId}
    (ho : o.op = .call { callee := .builtin .copy, args := #[d, s], argTypes := #[t, t'] }) {bytes : Nat} {z : Value} (E : Elem P t e 1 bytes z)
    {dp : Option Addr} {dLen dCap : Nat} (hd : a.eval d = .slice dp dLen dCap) {y : Value} {m : Nat} {news : List Value} (hy : a.eval s = y) (hx : Src w 1 y m news) (h1 : ∀ u ∈ news, u.oneCell' = true)
    (hm : m ≤ dLen) {g off : Nat} {cur : List Value} {ct : TypeId} (hpos : 0 < m → dp = some ⟨g, off, none⟩) (hg : w.heap[g]? = some (.cells cur.toArray ct (0, 0))) (hfit : off + m ≤ cur.length)
    (h : ∀ w', w'.heap[g]? = some (.cells (splice cur off news).toArray ct (0, 0)) → Step w w' (some g) → wpList P ops Q rest (a.put o.dst (.int .i64 (m : Int))) w') : wpList P ops Q (o :: rest) a w := by
  obtain ⟨hl, hx⟩ := hx
  obtain ⟨ht, ⟨i, hi, hz, hsize, hby⟩, hzs, hsz⟩ := E
  have hsz' : (P.info? e).map (·.size) = some 1 := by rw [hi]; simp [hsize]
  rw [Nat.mul_one] at hl
  by_cases h0 : m = 0
  · subst h0
    have hn : news = [] := List.eq_nil_of_length_eq_zero hl
    subst hn
    have hh : wpList P ops Q rest (a.put o.dst (goInt 0)) w := h w (by simpa [splice] using hg) (Step.refl w _)
    rcases hx with ⟨rfl, _⟩ | ⟨ad, c, rfl, _⟩
    · exact wpList_copy_nothing hgd d s t t' ho e ht hsz' dp none dLen dCap 0 0 hd hy (Nat.zero_min _) hh
    · exact wpList_copy_nothing hgd d s t t' ho e ht hsz' dp (some ad) dLen dCap 0 c hd hy (Nat.zero_min _) hh
  · rcases hx with ⟨rfl, e0⟩ | ⟨ad, c, rfl, hsrc⟩
    · exact absurd e0 h0
    have hp := hpos (by omega)
    subst hp
    refine wpList_copy_own hgd d s t t' ho e ht hsz' g off dLen dCap ad m c hd hy cur.toArray ct hg news (by rw [hl]; exact (Nat.min_eq_left hm).symm) hsrc (by simpa [hl] using hfit) h1 ?_
    rw [hl]
    refine h _ (by simpa [splice, hl] using setRow_heap w g _ _ ct _ hg) ⟨rfl, rfl, rfl, by simp [World.setRow], fun k _ hk => setRow_other w g k _ (fun e => hk (by simp [e]))⟩

theorem pushes (l : List UInt8) : ∀ r : ByteArray, (l.map fun x => (x.toNat : Int)).foldl (fun r n => r.push (UInt8.ofNat n.toNat)) r = ⟨r.data ++ l.toArray⟩ := by
  induction l with
  | nil => intro r; simp
  | cons x l ih =>
    intro r
    rw [List.map_cons, List.foldl_cons, ih]
    simp [ByteArray.push]

/-- 'string(b)', as a fact for the walk. -/
theorem string_of_bytes {src dst e : TypeId} (hs : P.underlying src = some (.slice e)) (he : P.underlying e = some (.int .u8)) (hd : P.underlying dst = some .string) {S : Nat → Prop} {v : Value} {l : List UInt8} (h : BytesIn w S v l) :
    (convert src dst v).run P w = .ok (.string ⟨l.toArray⟩) w := by
  obtain ⟨ao, cap, hv, h1, h2, h0, h3⟩ := h
  subst hv
  rw [run_convert_bytes_string w src dst e _ _ _ hs he hd]
  cases ao with
  | none =>
    have hl : l = [] := by
      have := h0 rfl
      rw [List.length_map] at h1
      exact List.eq_nil_of_length_eq_zero (by omega)
    subst hl
    simp [Conv.bytesToString, Sem.run_pure]
    rfl
  | some a =>
    have hr := run_loadCells_list (P := P) w a (l.map byteCell) (fun j u hj => by
      obtain ⟨b, off, ha, _, hc⟩ := h3 (by intro e; rw [e] at hj; simp at hj)
      cases ha
      rw [add_none]; exact hc j u hj)
    have hm : l.map byteCell = (l.map fun x => (x.toNat : Int)).map (Value.int .u8) := by rw [List.map_map]; rfl
    rw [run_bytesToString w a _ cap (l.map fun x => (x.toNat : Int)) (by rw [hr, hm]), pushes]
    simp

/-- 'x[l:]', as a fact for the walk. -/
theorem slice_l {t e : TypeId} (ht : P.underlying t = some (.slice e)) (h1 : (P.info? e).map (·.size) = some 1) (b off n cap k : Nat) (l : Int) (hl : l = k) (hk : k ≤ n) (_hn : n ≤ cap) :
    ∃ ad : Addr, (∀ wx, (Instr.slice t (.slice (some ⟨b, off, none⟩) n cap) (some (.int .i64 l)) none none).run P wx = .ok (.slice (some ad) (n - k) (cap - k)) wx) ∧ (k < cap → ad = ⟨b, off + k, none⟩) ∧ (k = cap → ad = ⟨b, off, none⟩) := by
  subst hl
  have he : P.elem t = e := by simp [Program.elem, ht]
  obtain ⟨i, hi, hs⟩ : ∃ i, P.info? e = some i ∧ i.size = 1 := by
    cases h : P.info? e with
    | none => rw [h] at h1; cases h1
    | some i => rw [h] at h1; exact ⟨i, rfl, by simpa using h1⟩
  refine ⟨if cap = k then ⟨b, off, none⟩ else ⟨b, off + k, none⟩, fun wx => ?_, fun h => by rw [if_neg (by omega)], fun h => by rw [if_pos h.symm]⟩
  rw [run_slice_l wx t _ _ _ (by rw [he]; exact ht) .i64 _ (by omega) (by omega), he]
  by_cases hc : cap = k <;> simp [sizeOf, typeInfo, hi, hs, sliced, hc, add_none]

/-- 'x[l:h:h]', as a fact for the walk. -/
theorem slice_lhh {t e : TypeId} (ht : P.underlying t = some (.slice e)) (h1 : (P.info? e).map (·.size) = some 1) (b off n cap k j : Nat) (l h : Int) (hl : l = k) (hh : h = j) (hk : k ≤ j) (hn : j ≤ cap) :
    ∃ ad : Addr, (∀ wx, (Instr.slice t (.slice (some ⟨b, off, none⟩) n cap) (some (.int .i64 l)) (some (.int .i64 h)) (some (.int .i64 h))).run P wx = .ok (.slice (some ad) (j - k) (j - k)) wx) ∧ (k < j → ad = ⟨b, off + k, none⟩) := by
  subst hl
  subst hh
  have he : P.elem t = e := by simp [Program.elem, ht]
  obtain ⟨i, hi, hs⟩ : ∃ i, P.info? e = some i ∧ i.size = 1 := by
    cases h : P.info? e with
    | none => rw [h] at h1; cases h1
    | some i => rw [h] at h1; exact ⟨i, rfl, by simpa using h1⟩
  refine ⟨if j = k then ⟨b, off, none⟩ else ⟨b, off + k, none⟩, fun wx => ?_, fun h => by rw [if_neg (by omega)]⟩
  rw [run_slice_lhm wx t _ _ _ (by rw [he]; exact ht) .i64 .i64 .i64 _ _ _ (by omega) (by omega) (by omega) (by omega), he]
  by_cases hc : j = k <;> simp [sizeOf, typeInfo, hi, hs, sliced, hc, add_none]

/-- 'x[l:h]', as a fact for the walk. -/
theorem slice_lh {t e : TypeId} (ht : P.underlying t = some (.slice e)) (h1 : (P.info? e).map (·.size) = some 1) (a : Option Addr) (n cap k j : Nat) (l h : Int) (hl : l = k) (hh : h = j) (hk : k ≤ j) (hn : j ≤ cap) :
    ∃ ad : Option Addr, (∀ wx, (Instr.slice t (.slice a n cap) (some (.int .i64 l)) (some (.int .i64 h)) none).run P wx = .ok (.slice ad (j - k) (cap - k)) wx) ∧ (k < cap → ad = a.map (·.add k)) ∧ (k = cap → ad = a) := by
  subst hl
  subst hh
  have he : P.elem t = e := by simp [Program.elem, ht]
  obtain ⟨i, hi, hs⟩ : ∃ i, P.info? e = some i ∧ i.size = 1 := by
    cases h : P.info? e with
    | none => rw [h] at h1; cases h1
    | some i => rw [h] at h1; exact ⟨i, rfl, by simpa using h1⟩
  refine ⟨if cap = k then a else a.map (·.add k), fun wx => ?_, fun h => by rw [if_neg (by omega)], fun h => by rw [if_pos h.symm]⟩
  rw [run_slice_lh wx t _ _ _ (by rw [he]; exact ht) .i64 .i64 _ _ (by omega) (by omega) (by omega), he]
  by_cases hc : cap = k <;> simp [sizeOf, typeInfo, hi, hs, sliced, hc]

theorem madeCells_one (z : Value) (n : Nat) : madeCells #[z] n = (List.replicate n z).toArray := by
  apply Array.ext'; simpa using toList_madeCells_one z n

end
end Go.My
