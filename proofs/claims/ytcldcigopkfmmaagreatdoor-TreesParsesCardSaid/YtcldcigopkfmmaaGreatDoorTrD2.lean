/- Texts put together: Mem, Mem2, Tag, NdMem, NdEl, PxMem, PxMem2, PxPut, ToRun, ToSign, ToKinds, ToName, ToRef, NdPl, NdPl2, PxRd, PxTakes, NdProg, PxLst, PxNode, PxRow, PxRes, PxExpr. -/
import Derived.WalkKit
import Derived.WalkSpells
import Derived.WalkLawsBesides
import Derived.Lib.Hide
import Derived.ProofKit
import Derived.OpenShut
import Derived.Deep.Matrix
import Derived.Laws.CopyOwn
import Derived.Lib.SlBytesConst
import Derived.Deep.Cut
import Derived.Deep.CutBlock
import Derived.Deep.CutRange
import Derived.Deep.DeepCutAuto
import Derived.Deep.LoopGhost
import Derived.Deep.QuietTactic
import Derived.BigQuiet
import Derived.Deep.RegionWith
import Derived.Deep.RegionHeld3
import Derived.Deep.RegionLaw
import Derived.Deep.DeepFit
import Derived.Deep.DeepMust
import Derived.StillTailTactics
import Derived.Test.YtcldcigopkfmmaaGreatDoorTrD1
import Derived.Test.YtcldcigopkfmmaaGreatDoorRows
import Derived.Test.YtcldcigopkfmmaaGreatDoorShelf
import Derived.Lib.SlTrimSet
import Derived.Laws.EntriesVeiled

/- Memory words for walks, over any program: what a slice of bytes, a slice of slices of bytes reads as; a slice that the call itself owns and appends to. No program in sight. -/
namespace Go.My
open Go.RowKit

theorem add_none (b o j : Nat) : (⟨b, o, none⟩ : Addr).add j = ⟨b, o + j, none⟩ := by unfold Addr.add; split <;> simp_all

/-- The step from w to w': new blocks; of the old ones at most block 'row' has turned. -/
structure Step (w w' : World) (row : Option Nat) : Prop where
  os : w'.os = w.os
  tape : w'.tape = w.tape
  output : w'.output = w.output
  size : w.heap.size ≤ w'.heap.size
  block : ∀ k, k < w.heap.size → some k ≠ row → w'.heap[k]? = w.heap[k]?

theorem Step.below {w w' : World} {row : Option Nat} {B : Nat} (h : Step w w' row) (hB : B ≤ w.heap.size) (hr : ∀ k, row = some k → B ≤ k) : Below B w w' :=
  ⟨h.os, h.tape, h.output, h.size, fun k hk => h.block k (by omega) (fun e => by have := hr k e.symm; omega)⟩

theorem Step.of_below {w w' : World} {row : Option Nat} (h : Below w.heap.size w w') : Step w w' row :=
  ⟨h.os, h.tape, h.output, h.size, fun k hk _ => h.block k hk⟩

theorem Step.of_grown {w w' : World} {row : Option Nat} (h : w.grownBy w' row) : Step w w' row := ⟨h.os, h.tape, h.output, h.size, h.block⟩

theorem Step.refl (w : World) (row : Option Nat) : Step w w row := ⟨rfl, rfl, rfl, Nat.le_refl _, fun _ _ _ => rfl⟩

theorem Step.trans {w w1 w2 : World} {r : Option Nat} (h : Step w w1 r) (k : Step w1 w2 r) : Step w w2 r :=
  ⟨k.os.trans h.os, k.tape.trans h.tape, k.output.trans h.output, Nat.le_trans h.size k.size,
   fun b hb hr => (k.block b (Nat.lt_of_lt_of_le hb h.size) hr).trans (h.block b hb hr)⟩

theorem Step.cell {w w' : World} {row : Option Nat} (h : Step w w' row) {a : Addr} (ha : a.block < w.heap.size) (hr : some a.block ≠ row) : w'.cell? a = w.cell? a :=
  World.cell?_of_block (h.block _ ha hr)

theorem Step.below_of_new {B : Nat} {w0 w w' : World} {row : Option Nat} (hb : Below B w0 w) (hB : B ≤ w.heap.size) (h : Step w w' row) (hr : ∀ k, row = some k → B ≤ k) : Below B w0 w' :=
  hb.trans (h.below hB hr)

/-- A slice of one-cell elements: v reads as the cells xs, all in a block of S. -/
def RowIn (w : World) (S : Nat → Prop) (v : Value) (xs : List Value) : Prop :=
  ∃ ao cap, v = .slice ao xs.length cap ∧ xs.length ≤ cap ∧ cap ≤ maxLen ∧ (ao = none → cap = 0) ∧
    (xs ≠ [] → ∃ b off, ao = some ⟨b, off, none⟩ ∧ S b ∧ ∀ j u, xs[j]? = some u → w.cell? ⟨b, off + j, none⟩ = some u)

theorem RowIn.frame {w w' : World} {S : Nat → Prop} {v : Value} {xs : List Value} (h : RowIn w S v xs) (hs : ∀ b, S b → b < w.heap.size → w'.heap[b]? = w.heap[b]?) : RowIn w' S v xs := by
  obtain ⟨ao, cap, hv, h1, h2, h0, h3⟩ := h
  refine ⟨ao, cap, hv, h1, h2, h0, fun hx => ?_⟩
  obtain ⟨b, off, ha, hS, hc⟩ := h3 hx
  refine ⟨b, off, ha, hS, fun j u hj => ?_⟩
  have hcell := hc j u hj
  exact (World.cell?_of_block (hs b hS (World.block_lt_of_cell? w _ hcell))).trans hcell

theorem RowIn.mono {w : World} {S T : Nat → Prop} {v : Value} {xs : List Value} (h : RowIn w S v xs) (hs : ∀ b, b < w.heap.size → S b → T b) : RowIn w T v xs := by
  obtain ⟨ao, cap, hv, h1, h2, h0, h3⟩ := h
  refine ⟨ao, cap, hv, h1, h2, h0, fun hx => ?_⟩
  obtain ⟨b, off, ha, hS, hc⟩ := h3 hx
  have h00 : ∃ u, xs[0]? = some u := by cases xs with | nil => exact absurd rfl hx | cons u _ => exact ⟨u, rfl⟩
  obtain ⟨u, hu⟩ := h00
  exact ⟨b, off, ha, hs b (World.block_lt_of_cell? w _ (hc 0 u hu)) hS, hc⟩

/-- A byte's cell. -/
def byteCell (x : UInt8) : Value := .int .u8 (x.toNat : Int)

/-- v reads as the bytes l. -/
def BytesIn (w : World) (S : Nat → Prop) (v : Value) (l : List UInt8) : Prop := RowIn w S v (l.map byteCell)

theorem BytesIn.frame {w w' : World} {S : Nat → Prop} {v : Value} {l : List UInt8} (h : BytesIn w S v l) (hs : ∀ b, S b → b < w.heap.size → w'.heap[b]? = w.heap[b]?) : BytesIn w' S v l := RowIn.frame h hs
theorem BytesIn.mono {w : World} {S T : Nat → Prop} {v : Value} {l : List UInt8} (h : BytesIn w S v l) (hs : ∀ b, b < w.heap.size → S b → T b) : BytesIn w T v l := RowIn.mono h hs

/-- For a walk: the value's form, and each cell under its condition. -/
theorem BytesIn.open_ {w : World} {S : Nat → Prop} {v : Value} {l : List UInt8} (h : BytesIn w S v l) :
    ∃ ao cap, v = .slice ao l.length cap ∧ l.length ≤ cap ∧ cap ≤ maxLen ∧ (ao = none → cap = 0) ∧
      (0 < l.length → ∃ b off, ao = some ⟨b, off, none⟩ ∧ S b ∧ ∀ j (hj : j < l.length), w.cell? ⟨b, off + j, none⟩ = some (.int .u8 ((l[j]).toNat : Int))) := by
  obtain ⟨ao, cap, hv, h1, h2, h0, h3⟩ := h
  rw [List.length_map] at hv h1
  refine ⟨ao, cap, hv, h1, h2, h0, fun hl => ?_⟩
  obtain ⟨b, off, ha, hS, hc⟩ := h3 (by intro e; rw [List.map_eq_nil_iff] at e; subst e; exact absurd hl (by simp))
  refine ⟨b, off, ha, hS, fun j hj => hc j _ ?_⟩
  rw [List.getElem?_map, List.getElem?_eq_getElem hj]; rfl

theorem BytesIn.nil (w : World) (S : Nat → Prop) : BytesIn w S (.slice none 0 0) [] := ⟨none, 0, rfl, Nat.le_refl _, Nat.zero_le _, fun _ => rfl, fun h => absurd rfl h⟩

/-- A slice of slices of bytes. -/
def FramesIn (w : World) (S : Nat → Prop) (v : Value) (ls : List (List UInt8)) : Prop :=
  ∃ us : List Value, RowIn w S v us ∧ us.length = ls.length ∧ ∀ j (h : j < us.length) (h' : j < ls.length), BytesIn w S us[j] ls[j]

theorem FramesIn.frame {w w' : World} {S : Nat → Prop} {v : Value} {ls : List (List UInt8)} (h : FramesIn w S v ls) (hs : ∀ b, S b → b < w.heap.size → w'.heap[b]? = w.heap[b]?) : FramesIn w' S v ls := by
  obtain ⟨us, h1, h2, h3⟩ := h
  exact ⟨us, h1.frame hs, h2, fun j h h' => (h3 j h h').frame hs⟩
theorem FramesIn.mono {w : World} {S T : Nat → Prop} {v : Value} {ls : List (List UInt8)} (h : FramesIn w S v ls) (hs : ∀ b, b < w.heap.size → S b → T b) : FramesIn w T v ls := by
  obtain ⟨us, h1, h2, h3⟩ := h
  exact ⟨us, h1.mono hs, h2, fun j h h' => (h3 j h h').mono hs⟩
theorem FramesIn.nil (w : World) (S : Nat → Prop) : FramesIn w S (.slice none 0 0) [] := ⟨[], ⟨none, 0, rfl, Nat.le_refl _, Nat.zero_le _, fun _ => rfl, fun h => absurd rfl h⟩, rfl, fun _ h => absurd h (Nat.not_lt_zero _)⟩

/-- For a walk. -/
theorem FramesIn.open_ {w : World} {S : Nat → Prop} {v : Value} {ls : List (List UInt8)} (h : FramesIn w S v ls) :
    ∃ ao cap, v = .slice ao ls.length cap ∧ ls.length ≤ cap ∧ cap ≤ maxLen ∧ (ao = none → cap = 0) ∧
      (0 < ls.length → ∃ b off, ao = some ⟨b, off, none⟩ ∧ S b ∧ ∀ j (hj : j < ls.length), ∃ u, w.cell? ⟨b, off + j, none⟩ = some u ∧ BytesIn w S u (ls[j])) := by
  obtain ⟨us, ⟨ao, cap, hv, h1, h2, h0, h3⟩, hlen, hb⟩ := h
  rw [hlen] at hv h1
  refine ⟨ao, cap, hv, h1, h2, h0, fun hl => ?_⟩
  obtain ⟨b, off, ha, hS, hc⟩ := h3 (by intro e; subst e; rw [← hlen] at hl; exact absurd hl (by simp))
  exact ⟨b, off, ha, hS, fun j hj => ⟨us[j]'(by omega), hc j _ (by rw [List.getElem?_eq_getElem (by omega)]), hb j (by omega) hj⟩⟩

/-! ### Arguments, opened -/
open Go.ChangeShapes Go.WideShapes in
theorem bytes_of_ints {zs : List Int} (hz : ∀ n ∈ zs, (Lit.int .u8 n).wf = true) : ∃ l : List UInt8, zs = l.map fun x => (x.toNat : Int) := by
  induction zs with
  | nil => exact ⟨[], rfl⟩
  | cons z zs ih =>
    obtain ⟨l, hl⟩ := ih (fun n hn => hz n (by simp [hn]))
    have h := hz z (by simp)
    simp [Lit.wf, IntKind.min, IntKind.max, IntKind.signed, IntKind.bits] at h
    refine ⟨UInt8.ofNat z.toNat :: l, ?_⟩
    simp [hl]
    omega

open Go.ChangeShapes Go.WideShapes Go.ChangeAt in
theorem bytes_of_trod {H : Type} {enc : TypeId × Value → H} {P : Program} {W : World} {base : Nat} {t e : TypeId} {v : Value} {d : DataW H} {p : List MemPlace} (ht : P.underlying t = some (.slice e)) (he : P.underlying e = some (.int .u8)) (ce : P.cellsOf e = 1)
    (hok : Value.okWide P W .any base t v) (h : DataW.Trod enc P W 0 (fun _ => true) true t v d p) : ∃ l : List UInt8, BytesIn W (fun b => b < W.heap.size) v l := by
  obtain ⟨a, len, cap, rfl⟩ := okWide_slice ht hok
  obtain ⟨fuel, hf⟩ := h
  rcases open_ints ht he ce hf with ⟨hcs, _⟩ | ⟨x, l, c, zs, hcs, _, hl, hm, hz, _, hcell, hwz⟩
  · simp [Value.cells] at hcs
    obtain ⟨rfl, rfl, rfl⟩ := hcs
    exact ⟨[], BytesIn.nil _ _⟩
  · simp [Value.cells] at hcs
    obtain ⟨rfl, rfl, rfl⟩ := hcs
    simp only [if_true] at hz
    obtain ⟨bs, rfl⟩ := bytes_of_ints hwz
    rw [List.length_map] at hz
    refine ⟨bs.take len, some x, cap, by simp; omega, by simp; omega, hm, (fun e => by cases e), fun hne => ?_⟩
    have hlen : 0 < len := by
      rcases Nat.eq_zero_or_pos len with h0 | h0
      · subst h0; simp at hne
      · exact h0
    have h0 := hcell 0 (by simp; omega)
    obtain ⟨b, off, spot⟩ := x
    have hspot : spot = none := by simpa [Addr.add] using World.cell?_spot h0
    subst hspot
    refine ⟨b, off, rfl, by simpa [add_none] using World.block_lt_of_cell? W _ h0, fun j u hu => ?_⟩
    have hj : j < bs.length := by have := (List.getElem?_eq_some_iff.1 hu).1; simp at this; omega
    have := hcell j (by simpa using hj)
    rw [add_none] at this
    rw [this, ← hu, List.getElem?_map, List.getElem?_take]
    rw [if_pos (by have := (List.getElem?_eq_some_iff.1 hu).1; simp at this; omega)]
    simp [hj, byteCell]

/-! ### A slice that the call owns -/
/-- v, of n elements of type e (size cells each), owns the cells xs: nil; or a piece of block g, not frozen, up to its capacity. -/
def Own (w : World) (e : TypeId) (size : Nat) (v : Value) (n : Nat) (xs : List Value) (g : Option Nat) : Prop :=
  xs.length = n * size ∧
  ((v = .slice none 0 0 ∧ n = 0 ∧ g = none) ∨
   ∃ b off cap cur, v = .slice (some ⟨b, off, none⟩) n cap ∧ g = some b ∧ w.heap[b]? = some (.cells cur e (0, 0)) ∧ n ≤ cap ∧ cap ≤ maxLen ∧ off + cap * size ≤ cur.size ∧
     (cur.toList.drop off).take (n * size) = xs)

theorem Own.nil (w : World) (e : TypeId) (size : Nat) : Own w e size (.slice none 0 0) 0 [] none := ⟨by simp, .inl ⟨rfl, rfl, rfl⟩⟩

theorem Own.of_row {w : World} {base : Nat} {e : TypeId} {size : Nat} {v : Value} {n : Nat} {xs : List Value} (h : w.ownsRow base e size v n xs) :
    ∃ g, Own w e size v n xs g ∧ (∀ k, g = some k → base ≤ k) ∧ g = v.ownBlock := by
  obtain ⟨h1, h2 | ⟨b, cap, cur, hv, hb, hh, h3, h4, h5, h6⟩⟩ := h
  · exact ⟨none, ⟨h1, .inl ⟨h2.1, h2.2, rfl⟩⟩, (fun k e => by cases e), by rw [h2.1]; rfl⟩
  · refine ⟨some b, ⟨h1, .inr ⟨b, 0, cap, cur, hv, rfl, hh, h3, h4, by omega, by simpa using h6⟩⟩, (fun k e => by cases e; exact hb), by rw [hv]; rfl⟩

theorem Own.lt {w : World} {e : TypeId} {size : Nat} {v : Value} {n : Nat} {xs : List Value} {g : Option Nat} (h : Own w e size v n xs g) : ∀ k, g = some k → k < w.heap.size := by
  intro k hk
  rcases h.2 with ⟨_, _, hg⟩ | ⟨b, off, cap, cur, _, hg, hh, _⟩
  · rw [hg] at hk; cases hk
  · rw [hg] at hk; cases hk; exact (Array.getElem?_eq_some_iff.1 hh).1

theorem Own.frame {w w' : World} {e : TypeId} {size : Nat} {v : Value} {n : Nat} {xs : List Value} {g : Option Nat} (h : Own w e size v n xs g) (hs : ∀ k, g = some k → w'.heap[k]? = w.heap[k]?) : Own w' e size v n xs g := by
  refine ⟨h.1, ?_⟩
  rcases h.2 with h2 | ⟨b, off, cap, cur, hv, hg, hh, r⟩
  · exact .inl h2
  · exact .inr ⟨b, off, cap, cur, hv, hg, (hs b hg).trans hh, r⟩

theorem Own.row {w : World} {e : TypeId} {v : Value} {n : Nat} {xs : List Value} {g : Option Nat} (h : Own w e 1 v n xs g) : RowIn w (fun b => g = some b) v xs := by
  obtain ⟨h1, h2⟩ := h
  rw [Nat.mul_one] at h1
  rcases h2 with ⟨hv, hn, _⟩ | ⟨b, off, cap, cur, hv, hg, hh, h3, h4, h5, h6⟩
  · subst hn
    refine ⟨none, 0, by rw [hv, h1], by omega, Nat.zero_le _, fun _ => rfl, fun hx => ?_⟩
    exact absurd (List.eq_nil_of_length_eq_zero h1) hx
  · refine ⟨_, cap, by rw [h1]; exact hv, by omega, h4, (fun e => by cases e), fun _ => ⟨b, off, rfl, hg, fun j u hj => ?_⟩⟩
    rw [cell_of_row w b (off + j) cur e (0, 0) hh, ← hj, ← h6, List.getElem?_take, List.getElem?_drop, if_pos (by have := (List.getElem?_eq_some_iff.1 hj).1; omega)]
    simp

/-- What stands behind k elements. -/
theorem Own.drop {w : World} {e : TypeId} {b off n cap : Nat} {xs : List Value} {g : Option Nat} (h : Own w e 1 (.slice (some ⟨b, off, none⟩) n cap) n xs g) (k : Nat) (hk : k ≤ n) :
    Own w e 1 (.slice (some ⟨b, off + k, none⟩) (n - k) (cap - k)) (n - k) (xs.drop k) g := by
  obtain ⟨h1, h2⟩ := h
  refine ⟨by simp [h1], ?_⟩
  rcases h2 with ⟨hv, _⟩ | ⟨b', off', cap', cur, hv, hg, hh, h3, h4, h5, h6⟩
  · cases hv
  · cases hv
    refine .inr ⟨b, off + k, cap - k, cur, rfl, hg, hh, by omega, by omega, by omega, ?_⟩
    rw [← h6, List.drop_take, List.drop_drop]
    simp only [Nat.mul_one]

/-- .. and where nothing stands behind them, at the old place. -/
theorem Own.drop_all {w : World} {e : TypeId} {b off n cap : Nat} {xs : List Value} {g : Option Nat} (h : Own w e 1 (.slice (some ⟨b, off, none⟩) n cap) n xs g) (k : Nat) (hk : k = cap) (hn : k ≤ n) :
    Own w e 1 (.slice (some ⟨b, off, none⟩) (n - k) (cap - k)) (n - k) (xs.drop k) g := by
  obtain ⟨h1, h2⟩ := h
  refine ⟨by simp [h1], ?_⟩
  rcases h2 with ⟨hv, _⟩ | ⟨b', off', cap', cur, hv, hg, hh, h3, h4, h5, h6⟩
  · cases hv
  · cases hv
    refine .inr ⟨b, off, cap - k, cur, rfl, hg, hh, by omega, by omega, by omega, ?_⟩
    have : xs.drop k = [] := by rw [List.drop_eq_nil_iff]; omega
    rw [this]
    have : n - k = 0 := by omega
    rw [this]; simp

/-- The element type's row of the table. -/
structure Elem (P : Program) (t e : TypeId) (size bytes : Nat) (z : Value) : Prop where
  under : P.underlying t = some (.slice e)
  info : ∃ i, P.info? e = some i ∧ i.zero = some z ∧ i.size = size ∧ i.bytes = bytes
  cells : z.cells.size = size
  pos : 0 < size

theorem Elem.mk' {P : Program} {t e : TypeId} {size bytes : Nat} {z : Value} (h1 : P.underlying t = some (.slice e)) (h2 : (P.info? e).map (fun i => (i.zero, i.size, i.bytes)) = some (some z, size, bytes)) (h3 : z.cells.size = size) (h4 : 0 < size) : Elem P t e size bytes z := by
  refine ⟨h1, ?_, h3, h4⟩
  cases h : P.info? e with
  | none => rw [h] at h2; cases h2
  | some i => rw [h] at h2; simp at h2; exact ⟨i, rfl, h2.1, h2.2.1, h2.2.2⟩

/-- What is appended: nil, or a row that can be read. -/
def Src (w : World) (size : Nat) (x : Value) (m : Nat) (news : List Value) : Prop :=
  news.length = m * size ∧ ((x = .slice none 0 0 ∧ m = 0) ∨ ∃ ad c, x = .slice (some ad) m c ∧ ∀ j u, news[j]? = some u → w.cell? (ad.add j) = some u)

theorem RowIn.src {w : World} {S : Nat → Prop} {v : Value} {xs : List Value} (h : RowIn w S v xs) : Src w 1 v xs.length xs := by
  obtain ⟨ao, cap, hv, h1, h2, h0, h3⟩ := h
  refine ⟨by simp, ?_⟩
  cases ao with
  | none =>
    have := h0 rfl
    subst this
    have h4 : xs.length = 0 := by omega
    rw [h4] at hv ⊢
    exact .inl ⟨hv, rfl⟩
  | some a =>
    refine .inr ⟨a, cap, hv, fun j u hj => ?_⟩
    obtain ⟨b, off, ha, _, hc⟩ := h3 (by intro e; subst e; simp at hj)
    cases ha
    rw [add_none]; exact hc j u hj

theorem BytesIn.src {w : World} {S : Nat → Prop} {v : Value} {l : List UInt8} (h : BytesIn w S v l) : Src w 1 v l.length (l.map byteCell) := by
  have := RowIn.src h
  rwa [List.length_map] at this

theorem Src.lit {w : World} {k n size : Nat} (o : Array Value) (t : TypeId) (hk : k = w.heap.size) (h : o.size = n * size) : Src (w.alloc (.cells o t)) size (.slice (some ⟨k, 0, none⟩) n n) n o.toList := by
  subst hk
  refine ⟨by simp [h], .inr ⟨_, _, rfl, fun j u hj => ?_⟩⟩
  rw [add_none, cell_of_row _ w.heap.size (0 + j) o t (0, 0) (heap_alloc_new w _), ← hj]
  simp

theorem byteCells_one (l : List UInt8) : ∀ u ∈ l.map byteCell, u.oneCell' = true := by
  intro u hu
  obtain ⟨x, _, rfl⟩ := List.mem_map.1 hu
  rfl

/-- Blocks below B are as they were: what lies there reads as it did. -/
theorem RowIn.below {w w' : World} {S : Nat → Prop} {v : Value} {xs : List Value} {B : Nat} (h : RowIn w S v xs) (hb : Below B w w') (hS : ∀ b, S b → b < B) : RowIn w' S v xs :=
  h.frame fun b hs _ => hb.block b (hS b hs)
theorem BytesIn.below {w w' : World} {S : Nat → Prop} {v : Value} {l : List UInt8} {B : Nat} (h : BytesIn w S v l) (hb : Below B w w') (hS : ∀ b, S b → b < B) : BytesIn w' S v l := RowIn.below h hb hS
theorem FramesIn.below {w w' : World} {S : Nat → Prop} {v : Value} {ls : List (List UInt8)} {B : Nat} (h : FramesIn w S v ls) (hb : Below B w w') (hS : ∀ b, S b → b < B) : FramesIn w' S v ls :=
  h.frame fun b hs _ => hb.block b (hS b hs)

section
variable {P : Program} (w : World)

/-- APPEND: whatever room there is. -/
theorem run_append {t e : TypeId} {size bytes : Nat} {z : Value} (E : Elem P t e size bytes z) (ty : TypeId)
    {v : Value} {n : Nat} {xs : List Value} {g : Option Nat} (hown : Own w e size v n xs g) {x : Value} {m : Nat} {news : List Value} (hx : Src w size x m news) (h1 : ∀ u ∈ news, u.oneCell' = true)
    (h63 : n + m ≤ maxLen) (hbytes : (n + m) * bytes ≤ 140737488355328) :
    ∃ v' w' g', (Builtin.append_ #[t, t] ty #[v, x]).run P w = .ok v' w' ∧ Own w' e size v' (n + m) (xs ++ news) g' ∧ Step w w' g ∧ (g' = g ∨ ∃ k, g' = some k ∧ w.heap.size ≤ k) := by
  obtain ⟨hl, hx⟩ := hx
  obtain ⟨ht, ⟨i, hi, hz, hsize, hby⟩, hzs, hsz⟩ := E
  subst hsize
  subst hby
  have hsmall : n + m ≤ 9223372036854775807 := by simp only [maxLen] at h63; omega
  have hlen : (xs ++ news).length = (n + m) * i.size := by rw [List.length_append, hown.1, hl, Nat.add_mul]
  rcases hx with ⟨rfl, rfl⟩ | ⟨ad, c, rfl, hnews⟩
  · have hn : news = [] := List.eq_nil_of_length_eq_zero (by simpa using hl)
    subst hn
    refine ⟨v, w, g, ?_, by simpa using hown, Step.refl w g, .inl rfl⟩
    rcases hown.2 with ⟨rfl, rfl, _⟩ | ⟨b, off, cap, cur, rfl, hg, hh, h3, _⟩
    · simp [Builtin.append_, run_underlying ht, sizeOf, typeInfo, hi, Builtin.lenOf, Builtin.firstCells]
    · simp [Builtin.append_, run_underlying ht, sizeOf, typeInfo, hi, Builtin.lenOf, Builtin.firstCells, storeCells, h3]
  have grown : ∀ (old : Nat), old < n + m →
      Own (w.drew.alloc (.cells (xs.toArray ++ news.toArray ++ Builtin.zeroCells z.cells (grownCap w (n + m) old e - (n + m))) e)) e i.size
        (.slice (some ⟨w.heap.size, 0, none⟩) (n + m) (grownCap w (n + m) old e)) (n + m) (xs ++ news) (some w.heap.size) ∧
      Step w (w.drew.alloc (.cells (xs.toArray ++ news.toArray ++ Builtin.zeroCells z.cells (grownCap w (n + m) old e - (n + m))) e)) g := by
    intro old ho
    have hge := grownCap_ge w (n + m) old e
    have hcm : grownCap w (n + m) old e ≤ maxLen := grownCap_le_maxLen w (n + m) old e h63
    refine ⟨⟨hlen, .inr ⟨w.heap.size, 0, _, _, rfl, rfl, heap_alloc_new w.drew _, hge, hcm, ?_, ?_⟩⟩, ⟨rfl, rfl, rfl, by simp, fun k hk _ => Below.heap_alloc w.drew _ k hk⟩⟩
    · simp only [Array.size_append, List.size_toArray, size_zeroCells, hzs, hown.1, hl, ← Nat.add_mul, Nat.zero_add]
      apply Nat.mul_le_mul_right
      omega
    · simp only [Array.toList_append, List.append_assoc, List.drop_zero]
      rw [← List.append_assoc, ← hlen]
      exact List.take_left
  rcases hown.2 with ⟨rfl, rfl, rfl⟩ | ⟨b, off, cap, cur, rfl, rfl, hh, h3, h4, h5, h6⟩
  · have hxs : xs = [] := List.eq_nil_of_length_eq_zero (by simpa using hown.1)
    subst hxs
    by_cases hm : m = 0
    · subst hm
      have hn : news = [] := List.eq_nil_of_length_eq_zero (by simpa using hl)
      subst hn
      refine ⟨.slice none 0 0, w, none, ?_, Own.nil w e i.size, Step.refl w none, .inl rfl⟩
      simp [Builtin.append_, run_underlying ht, sizeOf, typeInfo, hi, Builtin.lenOf, Builtin.firstCells, loadCells, loadCellsFrom]
    · have hr := run_append_nil (P := P) w t ty e i z ht hi hz ad m c news hl hnews (by omega) (by omega) (by have hb := hbytes; simp only [Nat.zero_add] at hb; omega)
      have hgr := grown 0 (by omega)
      simp only [Nat.zero_add, List.nil_append, Array.empty_append] at hgr ⊢
      exact ⟨_, _, _, hr, hgr.1, hgr.2, .inr ⟨_, rfl, Nat.le_refl _⟩⟩
  · by_cases hroom : n + m ≤ cap
    · have hfit : off + n * i.size + news.length ≤ cur.size := by
        have := Nat.mul_le_mul_right i.size hroom
        rw [hl]; rw [Nat.add_mul] at this; omega
      have hf := run_firstCells_some (P := P) w i.size m ad m c news hl hnews
      have hst := run_storeCells_at P b (off + n * i.size) e news 0 cur w hh (by simpa using hfit) h1
      simp only [Nat.add_zero] at hst
      have hr : (Builtin.append_ #[t, t] ty #[.slice (some ⟨b, off, none⟩) n cap, .slice (some ad) m c]).run P w =
          .ok (.slice (some ⟨b, off, none⟩) (n + m) cap) (w.setRow b (cur.toList.take (off + n * i.size) ++ news ++ cur.toList.drop (off + n * i.size + news.length)).toArray) := by
        simp [Builtin.append_, run_underlying ht, sizeOf, typeInfo, hi, Builtin.lenOf, hroom, hf, Addr.add_lit, hst]
      refine ⟨_, _, some b, hr, ⟨hlen, .inr ⟨b, off, cap, _, rfl, rfl, setRow_heap w b cur _ e _ hh, hroom, h4, ?_, ?_⟩⟩,
        ⟨rfl, rfl, rfl, by simp, fun k _ hk => setRow_other w b k _ (fun e => hk (by simp [e]))⟩, .inl rfl⟩
      · simp only [List.size_toArray, List.length_append, List.length_take, List.length_drop, Array.length_toList]
        omega
      · have hx1 : xs.length = n * i.size := hown.1
        have hpre : (cur.toList.take (off + n * i.size)).drop off = xs := by
          rw [List.drop_take, ← h6]; congr 1; omega
        have hlo : off ≤ (cur.toList.take (off + n * i.size)).length := by simp; omega
        show List.take ((n + m) * i.size) (List.drop off (cur.toList.take (off + n * i.size) ++ news ++ cur.toList.drop (off + n * i.size + news.length))) = xs ++ news
        rw [List.append_assoc, List.drop_append_of_le_length hlo, hpre, ← List.append_assoc, ← hlen]
        exact List.take_left
    · have holds : ∀ j u, xs[j]? = some u → w.cell? ((⟨b, off, none⟩ : Addr).add j) = some u := by
        intro j u hj
        rw [add_none, cell_of_row w b (off + j) cur e (0, 0) hh, ← hj, ← h6, List.getElem?_take, List.getElem?_drop]
        rw [if_pos (by have := (List.getElem?_eq_some_iff.1 hj).1; rw [hown.1] at this; exact this)]; simp
      have hr := run_append_grow (P := P) w t ty e i z ht hi hz ⟨b, off, none⟩ n cap xs hown.1 holds ad m c news hl hnews (by omega) (by omega) (growslice_fits (by omega) hbytes)
      have hgr := grown cap (by omega)
      exact ⟨_, _, _, hr, hgr.1, hgr.2, .inr ⟨_, rfl, Nat.le_refl _⟩⟩

/-- APPEND, FOR THE WALK. -/
theorem wpList_append {ops : Array Oper} {rest : List Oper} {o : Oper} {a : Act} {Q : Exit → Act → World → Prop} (hgd : o.guard = none) (s x : Operand) {t e : TypeId}
    (ho : o.op = .call { callee := .builtin .append, args := #[s, x], argTypes := #[t, t] }) {size bytes : Nat} {z : Value} (E : Elem P t e size bytes z)
    {v : Value} {n : Nat} {xs : List Value} {g : Option Nat} (hs : a.eval s = v) (hown : Own w e size v n xs g) {y : Value} {m : Nat} {news : List Value} (hy : a.eval x = y) (hx : Src w size y m news) (h1 : ∀ u ∈ news, u.oneCell' = true)
    (h63 : n + m ≤ maxLen) (hbytes : (n + m) * bytes ≤ 140737488355328)
    (h : ∀ v' w' g', Own w' e size v' (n + m) (xs ++ news) g' → Step w w' g → (g' = g ∨ ∃ k, g' = some k ∧ w.heap.size ≤ k) → wpList P ops Q rest (a.put o.dst v') w') : wpList P ops Q (o :: rest) a w := by
  obtain ⟨v', w', g', hr, h2, h3, h4⟩ := run_append w E o.type hown hx h1 h63 hbytes
  refine wpList_plain hgd fun _ hK => ?_
  unfold Oper.wp execOp
  simp only [ho, resolve, invoke, builtin, Sem.run_bind, Sem.run_pure, Result.andThen_ok, List.map_toArray, List.map_cons, List.map_nil, hs, hy, hr]
  exact hK _ _ (h v' w' g' h2 h3 h4)


/-- MAKE, FOR THE WALK. -/
theorem wpList_make {ops : Array Oper} {rest : List Oper} {o : Oper} {a : Act} {Q : Exit → Act → World → Prop} (hgd : o.guard = none) (s s' : Operand) {t e : TypeId}
    (ho : o.op = .makeSlice t s s') {size bytes : Nat} {z : Value} (E : Elem P t e size bytes z) {kl kc : IntKind} {l c : Int} (hs : a.eval s = .int kl l) (hs' : a.eval s' = .int kc c)
    (h0 : 0 ≤ l) (hlc : l ≤ c) (hbytes : (bytes : Int) * c ≤ 281474976710656) (h63 : c ≤ 9223372036854775807)
    (h : wpList P ops Q rest (a.put o.dst (.slice (some ⟨w.heap.size, 0, none⟩) l.toNat c.toNat)) (w.alloc (.cells (madeCells z.cells (c.toNat * size)) e))) : wpList P ops Q (o :: rest) a w := by
  obtain ⟨ht, ⟨i, hi, hz, hsize, hby⟩, hzs, hsz⟩ := E
  subst hsize
  subst hby
  have hr := run_make (P := P) w t e i z ht hi hz kl kc l c h0 hlc hbytes h63
  refine wpList_plain hgd fun _ hK => ?_
  unfold Oper.wp execOp
  simp only [ho, hs, hs', Sem.run_bind, hr, Result.andThen_ok, Sem.run_pure]
  exact hK _ _ h

/-- COPY OF ALL OF THE SOURCE, FOR THE WALK. -/
theorem wpList_copy {ops : Array Oper} {rest : List Oper} {o : Oper} {a : Act} {Q : Exit → Act → World → Prop} (hgd : o.guard = none) (d s : Operand) {t t' e : TypeId}
    (ho : o.op = .call { callee := .builtin .copy, args := #[d, s], argTypes := #[t, t'] }) {bytes : Nat} {z : Value} (E : Elem P t e 1 bytes z)
    {dp : Option Addr} {dLen dCap : Nat} (hd : a.eval d = .slice dp dLen dCap) {y : Value} {m : Nat} {news : List Value} (hy : a.eval s = y) (hx : Src w 1 y m news) (h1 : ∀ u ∈ news, u.oneCell' = true)
    (hm : m ≤ dLen) {g off : Nat} {cur : List Value} {ct : TypeId} (hpos : 0 < m → dp = some ⟨g, off, none⟩) (hg : w.heap[g]? = some (.cells cur.toArray ct (0, 0))) (hfit : off + m ≤ cur.length)
    (h : ∀ w', w'.heap[g]? = some (.cells (splice cur off news).toArray ct (0, 0)) → Step w w' (some g) → wpList P ops Q rest (a.put o.dst (.int .i64 (m : Int))) w') : wpList P ops Q (o :: rest) a w := by
  obtain ⟨hl, hx⟩ := hx
  obtain ⟨ht, ⟨i, hi, hz, hsize, hby⟩, hzs, hsz⟩ := E
  have hsz' : (P.info? e).map (·.size) = some 1 := by rw [hi]; simp [hsize]
  rw [Nat.mul_one] at hl
  by_cases h0 : m = 0
  · subst h0
    have hn : news = [] := List.eq_nil_of_length_eq_zero hl
    subst hn
    have hh : wpList P ops Q rest (a.put o.dst (goInt 0)) w := h w (by simpa [splice] using hg) (Step.refl w _)
    rcases hx with ⟨rfl, _⟩ | ⟨ad, c, rfl, _⟩
    · exact wpList_copy_nothing hgd d s t t' ho e ht hsz' dp none dLen dCap 0 0 hd hy (Nat.zero_min _) hh
    · exact wpList_copy_nothing hgd d s t t' ho e ht hsz' dp (some ad) dLen dCap 0 c hd hy (Nat.zero_min _) hh
  · rcases hx with ⟨rfl, e0⟩ | ⟨ad, c, rfl, hsrc⟩
    · exact absurd e0 h0
    have hp := hpos (by omega)
    subst hp
    refine wpList_copy_own hgd d s t t' ho e ht hsz' g off dLen dCap ad m c hd hy cur.toArray ct hg news (by rw [hl]; exact (Nat.min_eq_left hm).symm) hsrc (by simpa [hl] using hfit) h1 ?_
    rw [hl]
    refine h _ (by simpa [splice, hl] using setRow_heap w g _ _ ct _ hg) ⟨rfl, rfl, rfl, by simp [World.setRow], fun k _ hk => setRow_other w g k _ (fun e => hk (by simp [e]))⟩

theorem pushes (l : List UInt8) : ∀ r : ByteArray, (l.map fun x => (x.toNat : Int)).foldl (fun r n => r.push (UInt8.ofNat n.toNat)) r = ⟨r.data ++ l.toArray⟩ := by
  induction l with
  | nil => intro r; simp
  | cons x l ih =>
    intro r
    rw [List.map_cons, List.foldl_cons, ih]
    simp [ByteArray.push]

/-- 'string(b)', as a fact for the walk. -/
theorem string_of_bytes {src dst e : TypeId} (hs : P.underlying src = some (.slice e)) (he : P.underlying e = some (.int .u8)) (hd : P.underlying dst = some .string) {S : Nat → Prop} {v : Value} {l : List UInt8} (h : BytesIn w S v l) :
    (convert src dst v).run P w = .ok (.string ⟨l.toArray⟩) w := by
  obtain ⟨ao, cap, hv, h1, h2, h0, h3⟩ := h
  subst hv
  rw [run_convert_bytes_string w src dst e _ _ _ hs he hd]
  cases ao with
  | none =>
    have hl : l = [] := by
      have := h0 rfl
      rw [List.length_map] at h1
      exact List.eq_nil_of_length_eq_zero (by omega)
    subst hl
    simp [Conv.bytesToString, Sem.run_pure]
    rfl
  | some a =>
    have hr := run_loadCells_list (P := P) w a (l.map byteCell) (fun j u hj => by
      obtain ⟨b, off, ha, _, hc⟩ := h3 (by intro e; rw [e] at hj; simp at hj)
      cases ha
      rw [add_none]; exact hc j u hj)
    have hm : l.map byteCell = (l.map fun x => (x.toNat : Int)).map (Value.int .u8) := by rw [List.map_map]; rfl
    rw [run_bytesToString w a _ cap (l.map fun x => (x.toNat : Int)) (by rw [hr, hm]), pushes]
    simp

/-- 'x[l:]', as a fact for the walk. -/
theorem slice_l {t e : TypeId} (ht : P.underlying t = some (.slice e)) (h1 : (P.info? e).map (·.size) = some 1) (b off n cap k : Nat) (l : Int) (hl : l = k) (hk : k ≤ n) (_hn : n ≤ cap) :
    ∃ ad : Addr, (∀ wx, (Instr.slice t (.slice (some ⟨b, off, none⟩) n cap) (some (.int .i64 l)) none none).run P wx = .ok (.slice (some ad) (n - k) (cap - k)) wx) ∧ (k < cap → ad = ⟨b, off + k, none⟩) ∧ (k = cap → ad = ⟨b, off, none⟩) := by
  subst hl
  have he : P.elem t = e := by simp [Program.elem, ht]
  obtain ⟨i, hi, hs⟩ : ∃ i, P.info? e = some i ∧ i.size = 1 := by
    cases h : P.info? e with
    | none => rw [h] at h1; cases h1
    | some i => rw [h] at h1; exact ⟨i, rfl, by simpa using h1⟩
  refine ⟨if cap = k then ⟨b, off, none⟩ else ⟨b, off + k, none⟩, fun wx => ?_, fun h => by rw [if_neg (by omega)], fun h => by rw [if_pos h.symm]⟩
  rw [run_slice_l wx t _ _ _ (by rw [he]; exact ht) .i64 _ (by omega) (by omega), he]
  by_cases hc : cap = k <;> simp [sizeOf, typeInfo, hi, hs, sliced, hc, add_none]

/-- 'x[l:h:h]', as a fact for the walk. -/
theorem slice_lhh {t e : TypeId} (ht : P.underlying t = some (.slice e)) (h1 : (P.info? e).map (·.size) = some 1) (b off n cap k j : Nat) (l h : Int) (hl : l = k) (hh : h = j) (hk : k ≤ j) (hn : j ≤ cap) :
    ∃ ad : Addr, (∀ wx, (Instr.slice t (.slice (some ⟨b, off, none⟩) n cap) (some (.int .i64 l)) (some (.int .i64 h)) (some (.int .i64 h))).run P wx = .ok (.slice (some ad) (j - k) (j - k)) wx) ∧ (k < j → ad = ⟨b, off + k, none⟩) := by
  subst hl
  subst hh
  have he : P.elem t = e := by simp [Program.elem, ht]
  obtain ⟨i, hi, hs⟩ : ∃ i, P.info? e = some i ∧ i.size = 1 := by
    cases h : P.info? e with
    | none => rw [h] at h1; cases h1
    | some i => rw [h] at h1; exact ⟨i, rfl, by simpa using h1⟩
  refine ⟨if j = k then ⟨b, off, none⟩ else ⟨b, off + k, none⟩, fun wx => ?_, fun h => by rw [if_neg (by omega)]⟩
  rw [run_slice_lhm wx t _ _ _ (by rw [he]; exact ht) .i64 .i64 .i64 _ _ _ (by omega) (by omega) (by omega) (by omega), he]
  by_cases hc : j = k <;> simp [sizeOf, typeInfo, hi, hs, sliced, hc, add_none]

/-- 'x[l:h]', as a fact for the walk. -/
theorem slice_lh {t e : TypeId} (ht : P.underlying t = some (.slice e)) (h1 : (P.info? e).map (·.size) = some 1) (a : Option Addr) (n cap k j : Nat) (l h : Int) (hl : l = k) (hh : h = j) (hk : k ≤ j) (hn : j ≤ cap) :
    ∃ ad : Option Addr, (∀ wx, (Instr.slice t (.slice a n cap) (some (.int .i64 l)) (some (.int .i64 h)) none).run P wx = .ok (.slice ad (j - k) (cap - k)) wx) ∧ (k < cap → ad = a.map (·.add k)) ∧ (k = cap → ad = a) := by
  subst hl
  subst hh
  have he : P.elem t = e := by simp [Program.elem, ht]
  obtain ⟨i, hi, hs⟩ : ∃ i, P.info? e = some i ∧ i.size = 1 := by
    cases h : P.info? e with
    | none => rw [h] at h1; cases h1
    | some i => rw [h] at h1; exact ⟨i, rfl, by simpa using h1⟩
  refine ⟨if cap = k then a else a.map (·.add k), fun wx => ?_, fun h => by rw [if_neg (by omega)], fun h => by rw [if_pos h.symm]⟩
  rw [run_slice_lh wx t _ _ _ (by rw [he]; exact ht) .i64 .i64 _ _ (by omega) (by omega) (by omega), he]
  by_cases hc : cap = k <;> simp [sizeOf, typeInfo, hi, hs, sliced, hc]

theorem madeCells_one (z : Value) (n : Nat) : madeCells #[z] n = (List.replicate n z).toArray := by
  apply Array.ext'; simpa using toList_madeCells_one z n

end
end Go.My

/- More memory words for walks, over any program: pieces of slices. -/
namespace Go.My
open Go.RowKit
section
variable {P : Program}
/-- 'x[:h]', as a fact for the walk. -/

theorem slice_h {t e : TypeId} (ht : P.underlying t = some (.slice e)) (h1 : (P.info? e).map (·.size) = some 1) (b off n cap j : Nat) (h : Int) (hh : h = j) (hn : j ≤ cap) :
    ∀ wx, (Instr.slice t (.slice (some ⟨b, off, none⟩) n cap) none (some (.int .i64 h)) none).run P wx = .ok (.slice (some ⟨b, off, none⟩) j cap) wx := by
  subst hh
  have he : P.elem t = e := by simp [Program.elem, ht]
  obtain ⟨i, hi, hs⟩ : ∃ i, P.info? e = some i ∧ i.size = 1 := by
    cases h : P.info? e with
    | none => rw [h] at h1; cases h1
    | some i => rw [h] at h1; exact ⟨i, rfl, by simpa using h1⟩
  intro wx
  rw [run_slice_h wx t _ _ _ (by rw [he]; exact ht) .i64 _ (by omega) (by omega), he]
  simp [sizeOf, typeInfo, hi, sliced, add_none]

/-- A piece of what reads. -/
theorem RowIn.cut {w : World} {S : Nat → Prop} {b off n cap : Nat} {xs : List Value} (h : RowIn w S (.slice (some ⟨b, off, none⟩) n cap) xs) (k j c : Nat) (hkj : k ≤ j) (hj : j ≤ xs.length) {ad : Addr} (hc : j - k ≤ c ∧ c ≤ maxLen) (had : k < j → ad = ⟨b, off + k, none⟩) :
    RowIn w S (.slice (some ad) (j - k) c) ((xs.drop k).take (j - k)) := by
  obtain ⟨ao, cap', hv, h1, h2, h0, h3⟩ := h
  cases hv
  have hlen : ((xs.drop k).take (j - k)).length = j - k := by rw [List.length_take, List.length_drop]; omega
  refine ⟨some ad, c, by rw [hlen], by rw [hlen]; exact hc.1, hc.2, (fun e => by cases e), fun hne => ?_⟩
  have hlt : k < j := by
    rcases Nat.lt_or_ge k j with h | h
    · exact h
    · exfalso; apply hne; apply List.eq_nil_of_length_eq_zero; rw [hlen]; omega
  obtain ⟨b', off', ha, hS, hcell⟩ := h3 (by intro e; subst e; simp at hj; omega)
  cases ha
  refine ⟨b, off + k, by rw [had hlt], hS, fun i u hi => ?_⟩
  have hi' : i < j - k := by have := (List.getElem?_eq_some_iff.1 hi).1; rw [hlen] at this; exact this
  rw [Nat.add_assoc]
  refine hcell (k + i) u ?_
  rw [← hi, List.getElem?_take, if_pos hi', List.getElem?_drop]

theorem BytesIn.cut {w : World} {S : Nat → Prop} {b off n cap : Nat} {l : List UInt8} (h : BytesIn w S (.slice (some ⟨b, off, none⟩) n cap) l) (k j c : Nat) (hkj : k ≤ j) (hj : j ≤ l.length) {ad : Addr} (hc : j - k ≤ c ∧ c ≤ maxLen) (had : k < j → ad = ⟨b, off + k, none⟩) :
    BytesIn w S (.slice (some ad) (j - k) c) ((l.drop k).take (j - k)) := by
  have := RowIn.cut h k j c hkj (by rw [List.length_map]; exact hj) hc had
  rw [← List.map_drop, ← List.map_take] at this
  exact this


theorem FramesIn.cells {w : World} {S : Nat → Prop} {ao : Option Addr} {n cap : Nat} {ls : List (List UInt8)} (h : FramesIn w S (.slice ao n cap) ls) (hl : 0 < ls.length) :
    ∃ b off, ao = some ⟨b, off, none⟩ ∧ S b ∧ ∀ j (hj : j < ls.length), ∃ u, w.cell? ⟨b, off + j, none⟩ = some u ∧ BytesIn w S u (ls[j]) := by
  obtain ⟨_, _, ea, _, _, _, hx⟩ := h.open_
  cases ea
  exact hx hl

theorem BytesIn.cells {w : World} {S : Nat → Prop} {ao : Option Addr} {n cap : Nat} {l : List UInt8} (h : BytesIn w S (.slice ao n cap) l) (hl : 0 < l.length) :
    ∃ b off, ao = some ⟨b, off, none⟩ ∧ S b ∧ ∀ j (hj : j < l.length), w.cell? ⟨b, off + j, none⟩ = some (.int .u8 ((l[j]).toNat : Int)) := by
  obtain ⟨_, _, ea, _, _, _, hx⟩ := h.open_
  cases ea
  exact hx hl

/-- APPEND, AS ONE STEP OF A REGION THAT DRAWS ITS ORDER: for 'go_region_law (refine step_append ..)'. -/
theorem step_append {w : World} {ops : Array Oper} {o : Oper} {a : Act} {K : Act → World → Prop} {Q : Exit → Act → World → Prop} {X : Prop} (hgd : o.guard = none) (s x : Operand) {t e : TypeId}
    (ho : o.op = .call { callee := .builtin .append, args := #[s, x], argTypes := #[t, t] }) {size bytes : Nat} {z : Value} (E : Elem P t e size bytes z)
    {v : Value} {n : Nat} {xs : List Value} {g : Option Nat} (hs : a.eval s = v) (hown : Own w e size v n xs g) {y : Value} {m : Nat} {news : List Value} (hy : a.eval x = y) (hx : Src w size y m news) (h1 : ∀ u ∈ news, u.oneCell' = true)
    (h63 : n + m ≤ maxLen) (hbytes : (n + m) * bytes ≤ 140737488355328)
    (h : ∀ v' w' g', Own w' e size v' (n + m) (xs ++ news) g' → Step w w' g → (g' = g ∨ ∃ k, g' = some k ∧ w.heap.size ≤ k) → K (a.put o.dst v') w') :
    if Region.wanted o (yielded ops a.tmps) = true then Oper.wp P o a w K Q else X := by
  have hw : Region.wanted o (yielded ops a.tmps) = true := by simp [Region.wanted, hgd]
  rw [if_pos hw]
  obtain ⟨v', w', g', hr, h2, h3, h4⟩ := run_append w E o.type hown hx h1 h63 hbytes
  unfold Oper.wp execOp
  simp only [ho, resolve, invoke, builtin, Sem.run_bind, Sem.run_pure, Result.andThen_ok, List.map_toArray, List.map_cons, List.map_nil, hs, hy, hr]
  exact h v' w' g' h2 h3 h4
end
end Go.My

/- Memory by owners: each block has a number (whose it is); a step says whose blocks it may turn; what is read of another's stays. No program in sight. -/
namespace Go.My
open Go.RowKit

/-- Whose each block is; 0: of what was there when the call began. -/
abbrev Tags := Nat → Nat

def Tags.ext (g : Tags) (n t : Nat) : Tags := fun b => if b < n then g b else t

/-- A step: of the blocks that were there only those of T have turned. -/
structure Turn (w : World) (g : Tags) (w' : World) (g' : Tags) (T : List Nat) : Prop where
  os : w'.os = w.os
  tape : w'.tape = w.tape
  output : w'.output = w.output
  size : w.heap.size ≤ w'.heap.size
  old : ∀ b, b < w.heap.size → g' b = g b
  block : ∀ b, b < w.heap.size → g b ∉ T → w'.heap[b]? = w.heap[b]?

theorem Turn.refl (w : World) (g : Tags) (T : List Nat) : Turn w g w g T := ⟨rfl, rfl, rfl, Nat.le_refl _, fun _ _ => rfl, fun _ _ _ => rfl⟩

theorem Turn.trans {w w1 w2 : World} {g g1 g2 : Tags} {T U V : List Nat} (h : Turn w g w1 g1 T) (k : Turn w1 g1 w2 g2 U) (hT : ∀ t, t ∈ T → t ∈ V) (hU : ∀ t, t ∈ U → t ∈ V) : Turn w g w2 g2 V :=
  ⟨k.os.trans h.os, k.tape.trans h.tape, k.output.trans h.output, Nat.le_trans h.size k.size,
    fun b hb => (k.old b (Nat.lt_of_lt_of_le hb h.size)).trans (h.old b hb),
    fun b hb hn => (k.block b (Nat.lt_of_lt_of_le hb h.size) (by rw [h.old b hb]; exact fun hm => hn (hU _ hm))).trans (h.block b hb (fun hm => hn (hT _ hm)))⟩

theorem Turn.mono {w w1 : World} {g g1 : Tags} {T V : List Nat} (h : Turn w g w1 g1 T) (hT : ∀ t, t ∈ T → t ∈ V) : Turn w g w1 g1 V :=
  ⟨h.os, h.tape, h.output, h.size, h.old, fun b hb hn => h.block b hb (fun hm => hn (hT _ hm))⟩

theorem Tags.ext_old (g : Tags) (n t b : Nat) (h : b < n) : g.ext n t b = g b := by unfold Tags.ext; rw [if_pos h]
theorem Tags.ext_new (g : Tags) (n t b : Nat) (h : n ≤ b) : g.ext n t b = t := by unfold Tags.ext; rw [if_neg (by omega)]

theorem Turn.of_step {w w' : World} {row : Option Nat} (h : Step w w' row) (g : Tags) (t : Nat) (hr : ∀ k, row = some k → g k = t) : Turn w g w' (g.ext w.heap.size t) [t] :=
  ⟨h.os, h.tape, h.output, h.size, fun b hb => Tags.ext_old _ _ _ _ hb, fun b hb hn => h.block b hb (fun e => hn (by rw [hr b e.symm]; exact List.mem_singleton.2 rfl))⟩

theorem Turn.of_below {w w' : World} (h : Below w.heap.size w w') (g : Tags) (t : Nat) : Turn w g w' (g.ext w.heap.size t) [] :=
  ⟨h.os, h.tape, h.output, h.size, fun _ hb => Tags.ext_old _ _ _ _ hb, fun b hb _ => h.block b hb⟩

theorem Turn.alloc (w : World) (g : Tags) (t : Nat) (o : Obj) : Turn w g (w.alloc o) (g.ext w.heap.size t) [] :=
  Turn.of_below ((Below.refl _ w).alloc (Nat.le_refl _) o) g t

theorem Turn.drew (w : World) (g : Tags) : Turn w g w.drew g [] := ⟨rfl, rfl, rfl, Nat.le_refl _, fun _ _ => rfl, fun _ _ _ => rfl⟩

theorem heap_drewN' (w : World) : ∀ n, (w.drewN n).heap = w.heap := by
  intro n
  induction n with
  | zero => rfl
  | succ n ih => exact ih
theorem below_drewN' (w : World) : ∀ n, Below w.heap.size w (w.drewN n) := by
  intro n
  induction n with
  | zero => exact Below.refl _ _
  | succ n ih => exact ih.drew
theorem Turn.drewN (w : World) (g : Tags) (n : Nat) : Turn w g (w.drewN n) g [] :=
  ⟨(below_drewN' w n).os, (below_drewN' w n).tape, (below_drewN' w n).output, (below_drewN' w n).size, fun _ _ => rfl, fun b hb _ => (below_drewN' w n).block b hb⟩

theorem Turn.setCell (w : World) (g : Tags) (a : Addr) (u : Value) (hs : (w.setCell a u).heap.size = w.heap.size) (ho : (w.setCell a u).os = w.os) (ht : (w.setCell a u).tape = w.tape) (hp : (w.setCell a u).output = w.output) : Turn w g (w.setCell a u) g [g a.block] :=
  ⟨ho, ht, hp, by rw [hs]; exact Nat.le_refl _, fun _ _ => rfl, fun b _ hn => Below.heap_setCell w a u b (fun e => hn (by rw [e]; exact List.mem_singleton.2 rfl))⟩

/-- Since the call began. -/
structure Since (w0 w : World) (g : Tags) : Prop where
  below : Below w0.heap.size w0 w
  zero : ∀ b, b < w0.heap.size → g b = 0

theorem Since.start (w : World) : Since w w (fun _ => 0) := ⟨Below.refl _ _, fun _ _ => rfl⟩

theorem Since.turn {w0 w w' : World} {g g' : Tags} {T : List Nat} (h : Since w0 w g) (k : Turn w g w' g' T) (h0 : 0 ∉ T) : Since w0 w' g' :=
  ⟨h.below.trans ⟨k.os, k.tape, k.output, k.size, fun b hb => k.block b (Nat.lt_of_lt_of_le hb h.below.size) (by rw [h.zero b hb]; exact h0)⟩,
    fun b hb => (k.old b (Nat.lt_of_lt_of_le hb h.below.size)).trans (h.zero b hb)⟩

/-! ### What is read, by owner -/
def Row (w : World) (g : Tags) (t : Nat) (v : Value) (xs : List Value) : Prop := RowIn w (fun b => g b = t) v xs
def Bytes (w : World) (g : Tags) (t : Nat) (v : Value) (l : List UInt8) : Prop := BytesIn w (fun b => g b = t) v l
def Frames (w : World) (g : Tags) (t : Nat) (v : Value) (ls : List (List UInt8)) : Prop := FramesIn w (fun b => g b = t) v ls

theorem Turn.keeps {w w' : World} {g g' : Tags} {T : List Nat} (k : Turn w g w' g' T) {t : Nat} (ht : t ∉ T) (b : Nat) (hb : g' b = t) (hlt : b < w.heap.size) : w'.heap[b]? = w.heap[b]? :=
  k.block b hlt (by rw [← k.old b hlt, hb]; exact ht)

theorem Row.turn {w w' : World} {g g' : Tags} {T : List Nat} {t : Nat} {v : Value} {xs : List Value} (h : Row w g t v xs) (k : Turn w g w' g' T) (ht : t ∉ T) : Row w' g' t v xs :=
  (RowIn.mono h (fun b hb hs => (k.old b hb).trans hs)).frame fun b hb hlt => k.keeps ht b hb hlt
theorem Bytes.turn {w w' : World} {g g' : Tags} {T : List Nat} {t : Nat} {v : Value} {l : List UInt8} (h : Bytes w g t v l) (k : Turn w g w' g' T) (ht : t ∉ T) : Bytes w' g' t v l :=
  (BytesIn.mono h (fun b hb hs => (k.old b hb).trans hs)).frame fun b hb hlt => k.keeps ht b hb hlt
theorem Frames.turn {w w' : World} {g g' : Tags} {T : List Nat} {t : Nat} {v : Value} {ls : List (List UInt8)} (h : Frames w g t v ls) (k : Turn w g w' g' T) (ht : t ∉ T) : Frames w' g' t v ls :=
  (FramesIn.mono h (fun b hb hs => (k.old b hb).trans hs)).frame fun b hb hlt => k.keeps ht b hb hlt

theorem own_form {w : World} {e : TypeId} {size : Nat} {v : Value} {n : Nat} {xs : List Value} {g : Option Nat} (h : Own w e size v n xs g) : ∃ ao cap, v = .slice ao n cap := by
  rcases h.2 with ⟨rfl, rfl, _⟩ | ⟨b, off, cap, cur, rfl, _⟩
  · exact ⟨none, 0, rfl⟩
  · exact ⟨_, cap, rfl⟩

/-- A slice that the call owns. -/
def Owns (w : World) (g : Tags) (t : Nat) (e : TypeId) (size : Nat) (v : Value) (n : Nat) (xs : List Value) : Prop :=
  ∃ k, Own w e size v n xs k ∧ ∀ b, k = some b → g b = t

theorem Owns.turn {w w' : World} {g g' : Tags} {T : List Nat} {t : Nat} {e : TypeId} {size : Nat} {v : Value} {n : Nat} {xs : List Value} (h : Owns w g t e size v n xs) (k : Turn w g w' g' T) (ht : t ∉ T) : Owns w' g' t e size v n xs := by
  obtain ⟨r, ho, hr⟩ := h
  refine ⟨r, ho.frame fun b hb => k.block b (ho.lt b hb) (by rw [hr b hb]; exact ht), fun b hb => (k.old b (ho.lt b hb)).trans (hr b hb)⟩

theorem Owns.nil (w : World) (g : Tags) (t : Nat) (e : TypeId) (size : Nat) : Owns w g t e size (.slice none 0 0) 0 [] := ⟨none, Own.nil w e size, fun _ h => by cases h⟩

theorem Owns.row {w : World} {g : Tags} {t : Nat} {e : TypeId} {v : Value} {n : Nat} {xs : List Value} (h : Owns w g t e 1 v n xs) : Row w g t v xs := by
  obtain ⟨r, ho, hr⟩ := h
  exact (Own.row ho).mono (fun b _ hb => hr b hb)
theorem Owns.bytes {w : World} {g : Tags} {t : Nat} {v : Value} {n : Nat} {l : List UInt8} {e : TypeId} (h : Owns w g t e 1 v n (l.map byteCell)) : Bytes w g t v l := h.row
theorem Owns.form {w : World} {g : Tags} {t : Nat} {e : TypeId} {size : Nat} {v : Value} {n : Nat} {xs : List Value} (h : Owns w g t e size v n xs) : ∃ ao cap, v = .slice ao n cap := by
  obtain ⟨r, ho, hr⟩ := h
  exact own_form ho

/-- A piece of what reads. -/
theorem Bytes.cut {w : World} {g : Tags} {t : Nat} {b off n cap : Nat} {l : List UInt8} (h : Bytes w g t (.slice (some ⟨b, off, none⟩) n cap) l) (k j c : Nat) (hkj : k ≤ j) (hj : j ≤ l.length) {ad : Addr} (hc : j - k ≤ c ∧ c ≤ maxLen) (had : k < j → ad = ⟨b, off + k, none⟩) :
    Bytes w g t (.slice (some ad) (j - k) c) ((l.drop k).take (j - k)) := BytesIn.cut h k j c hkj hj hc had

/-- The only one. -/
theorem Frames.one {w : World} {g : Tags} {t : Nat} {ao : Option Addr} {n cap : Nat} {l : List UInt8} (h : Frames w g t (.slice ao n cap) [l]) :
    ∃ b off a' c', ao = some ⟨b, off, none⟩ ∧ w.cell? ⟨b, off, none⟩ = some (.slice a' l.length c') ∧ Bytes w g t (.slice a' l.length c') l := by
  obtain ⟨b, off, e, _, hc⟩ := FramesIn.cells h (by simp)
  obtain ⟨u, hu, hb⟩ := hc 0 (by simp)
  obtain ⟨a', c', e', _⟩ := BytesIn.open_ hb
  simp only [List.getElem_cons_zero] at e'
  subst e'
  exact ⟨b, off, a', c', e, by rw [Nat.add_zero] at hu; exact hu, hb⟩

theorem Bytes.src {w : World} {g : Tags} {t : Nat} {v : Value} {l : List UInt8} (h : Bytes w g t v l) : Src w 1 v l.length (l.map byteCell) := BytesIn.src h

section
variable {P : Program} (w : World)
/-- APPEND, FOR THE WALK. -/
theorem wpList_append_t {ops : Array Oper} {rest : List Oper} {o : Oper} {a : Act} {Q : Exit → Act → World → Prop} (hgd : o.guard = none) (s x : Operand) {t e : TypeId}
    (ho : o.op = .call { callee := .builtin .append, args := #[s, x], argTypes := #[t, t] }) {size bytes : Nat} {z : Value} (E : Elem P t e size bytes z)
    {v : Value} {n : Nat} {xs : List Value} {g : Tags} {tg : Nat} (hs : a.eval s = v) (hown : Owns w g tg e size v n xs) {y : Value} {m : Nat} {news : List Value} (hy : a.eval x = y) (hx : Src w size y m news) (h1 : ∀ u ∈ news, u.oneCell' = true)
    (h63 : n + m ≤ maxLen) (hbytes : (n + m) * bytes ≤ 140737488355328)
    (h : ∀ ao cap w' g', Owns w' g' tg e size (.slice ao (n + m) cap) (n + m) (xs ++ news) → Turn w g w' g' [tg] → wpList P ops Q rest (a.put o.dst (.slice ao (n + m) cap)) w') : wpList P ops Q (o :: rest) a w := by
  obtain ⟨k, ho', hk⟩ := hown
  refine wpList_append w hgd s x ho E hs ho' hy hx h1 h63 hbytes fun v' w' k' h2 h3 h4 => ?_
  obtain ⟨ao, cap, rfl⟩ := own_form h2
  refine h ao cap w' (g.ext w.heap.size tg) ⟨k', h2, fun b hb => ?_⟩ (Turn.of_step h3 g tg hk)
  rcases h4 with rfl | ⟨j, hj, hge⟩
  · rw [Tags.ext_old _ _ _ _ (ho'.lt b hb)]; exact hk b hb
  · rw [hj] at hb; cases hb; exact Tags.ext_new _ _ _ _ hge

/-- APPEND, AS ONE STEP OF A REGION THAT DRAWS ITS ORDER: for 'go_region_law (refine step_append_t ..)'. -/
theorem step_append_t {w : World} {ops : Array Oper} {o : Oper} {a : Act} {K : Act → World → Prop} {Q : Exit → Act → World → Prop} {X : Prop} (hgd : o.guard = none) (s x : Operand) {t e : TypeId}
    (ho : o.op = .call { callee := .builtin .append, args := #[s, x], argTypes := #[t, t] }) {size bytes : Nat} {z : Value} (E : Elem P t e size bytes z)
    {v : Value} {n : Nat} {xs : List Value} {g : Tags} {tg : Nat} (hs : a.eval s = v) (hown : Owns w g tg e size v n xs) {y : Value} {m : Nat} {news : List Value} (hy : a.eval x = y) (hx : Src w size y m news) (h1 : ∀ u ∈ news, u.oneCell' = true)
    (h63 : n + m ≤ maxLen) (hbytes : (n + m) * bytes ≤ 140737488355328)
    (h : ∀ ao cap w' g', Owns w' g' tg e size (.slice ao (n + m) cap) (n + m) (xs ++ news) → Turn w g w' g' [tg] → K (a.put o.dst (.slice ao (n + m) cap)) w') :
    if Region.wanted o (yielded ops a.tmps) = true then Oper.wp P o a w K Q else X := by
  obtain ⟨k, ho', hk⟩ := hown
  refine step_append hgd s x ho E hs ho' hy hx h1 h63 hbytes fun v' w' k' h2 h3 h4 => ?_
  obtain ⟨ao, cap, rfl⟩ := own_form h2
  refine h ao cap w' (g.ext w.heap.size tg) ⟨k', h2, fun b hb => ?_⟩ (Turn.of_step h3 g tg hk)
  rcases h4 with rfl | ⟨j, hj, hge⟩
  · rw [Tags.ext_old _ _ _ _ (ho'.lt b hb)]; exact hk b hb
  · rw [hj] at hb; cases hb; exact Tags.ext_new _ _ _ _ hge
end
end Go.My

/- Nodes in memory: what a slice of nodes reads as. No program in sight. -/
namespace Go.My
open Go.RowKit Go.Nd

/-- A string of these bytes. -/
def tx (l : List UInt8) : ByteArray := ⟨l.toArray⟩

/-- A slice's length and room; tw: there is room behind. -/
def Room (tw : Bool) (n c : Nat) : Prop := n ≤ c ∧ c ≤ maxLen ∧ n * 96 ≤ 140737488351232 ∧ (tw = true → n < c)

/-- The mark that stands behind a copy's nodes. -/
def NodeMark (w : World) (b off : Nat) : Prop :=
  w.cell? ⟨b, off, none⟩ = some (.int .u8 0) ∧ w.cell? ⟨b, off + 1, none⟩ = some (.string (tx [115, 112, 97, 114, 101])) ∧ w.cell? ⟨b, off + 2, none⟩ = some (.slice none 0 0) ∧ w.cell? ⟨b, off + 3, none⟩ = some (.slice none 0 0) ∧ w.cell? ⟨b, off + 4, none⟩ = some (.slice none 0 0)
theorem NodeMark.frame {w w' : World} {b off : Nat} (h : NodeMark w b off) (hs : w'.heap[b]? = w.heap[b]?) : NodeMark w' b off := by
  have e : ∀ o, w'.cell? ⟨b, o, none⟩ = w.cell? ⟨b, o, none⟩ := fun o => World.cell?_of_block hs
  exact ⟨(e _).trans h.1, (e _).trans h.2.1, (e _).trans h.2.2.1, (e _).trans h.2.2.2.1, (e _).trans h.2.2.2.2⟩
theorem NodeMark.lt {w : World} {b off : Nat} (h : NodeMark w b off) : b < w.heap.size := World.block_lt_of_cell? w _ h.1

/-- From an address on stand these nodes, all in blocks of S; tw: behind each list stands a mark. -/
inductive NodesAt (w : World) (S : Nat → Prop) (tw : Bool) : Option Addr → Ns → Prop
  | nil (a : Option Addr) (h : tw = true → ∃ b off, a = some ⟨b, off, none⟩ ∧ S b ∧ NodeMark w b off) : NodesAt w S tw a .nil
  | cons {b off k : Nat} {t : List UInt8} {l body els r : Ns} {a1 a2 a3 : Option Addr} {c1 c2 c3 : Nat} (hS : S b) (hk : k < 256) (ht : t.length ≤ 140737488351232)
      (d0 : w.cell? ⟨b, off, none⟩ = some (.int .u8 (k : Int))) (d1 : w.cell? ⟨b, off + 1, none⟩ = some (.string (tx t)))
      (d2 : w.cell? ⟨b, off + 2, none⟩ = some (.slice a1 l.len c1)) (d3 : w.cell? ⟨b, off + 3, none⟩ = some (.slice a2 body.len c2)) (d4 : w.cell? ⟨b, off + 4, none⟩ = some (.slice a3 els.len c3))
      (r1 : Room tw l.len c1) (r2 : Room tw body.len c2) (r3 : Room tw els.len c3)
      (h1 : NodesAt w S tw a1 l) (h2 : NodesAt w S tw a2 body) (h3 : NodesAt w S tw a3 els) (h4 : NodesAt w S tw (some ⟨b, off + 5, none⟩) r) : NodesAt w S tw (some ⟨b, off, none⟩) (.cons k t l body els r)

theorem NodesAt.frame {w w' : World} {S : Nat → Prop} {tw : Bool} {a : Option Addr} {xs : Ns} (h : NodesAt w S tw a xs) (hs : ∀ b, S b → b < w.heap.size → w'.heap[b]? = w.heap[b]?) : NodesAt w' S tw a xs := by
  have cell : ∀ b o u, S b → w.cell? ⟨b, o, none⟩ = some u → w'.cell? ⟨b, o, none⟩ = some u := fun b o u hS h =>
    (World.cell?_of_block (hs b hS (World.block_lt_of_cell? w _ h))).trans h
  induction h with
  | nil a h =>
    refine .nil a fun e => ?_
    obtain ⟨b, off, h1, h2, h3⟩ := h e
    exact ⟨b, off, h1, h2, h3.frame (hs b h2 h3.lt)⟩
  | cons hS hk ht d0 d1 d2 d3 d4 r1 r2 r3 _ _ _ _ i1 i2 i3 i4 =>
    exact .cons hS hk ht (cell _ _ _ hS d0) (cell _ _ _ hS d1) (cell _ _ _ hS d2) (cell _ _ _ hS d3) (cell _ _ _ hS d4) r1 r2 r3 i1 i2 i3 i4

theorem NodesAt.mono {w : World} {S T : Nat → Prop} {tw : Bool} {a : Option Addr} {xs : Ns} (h : NodesAt w S tw a xs) (hs : ∀ b, b < w.heap.size → S b → T b) : NodesAt w T tw a xs := by
  induction h with
  | nil a h =>
    refine .nil a fun e => ?_
    obtain ⟨b, off, h1, h2, h3⟩ := h e
    exact ⟨b, off, h1, hs _ h3.lt h2, h3⟩
  | cons hS hk ht d0 d1 d2 d3 d4 r1 r2 r3 _ _ _ _ i1 i2 i3 i4 =>
    exact .cons (hs _ (World.block_lt_of_cell? w _ d0) hS) hk ht d0 d1 d2 d3 d4 r1 r2 r3 i1 i2 i3 i4

/-- v reads as these nodes. -/
def Nodes (w : World) (S : Nat → Prop) (tw : Bool) (v : Value) (xs : Ns) : Prop := ∃ a c, v = .slice a xs.len c ∧ Room tw xs.len c ∧ NodesAt w S tw a xs

theorem Nodes.frame {w w' : World} {S : Nat → Prop} {tw : Bool} {v : Value} {xs : Ns} (h : Nodes w S tw v xs) (hs : ∀ b, S b → b < w.heap.size → w'.heap[b]? = w.heap[b]?) : Nodes w' S tw v xs := by
  obtain ⟨a, c, h1, h2, h3⟩ := h; exact ⟨a, c, h1, h2, h3.frame hs⟩
theorem Nodes.mono {w : World} {S T : Nat → Prop} {tw : Bool} {v : Value} {xs : Ns} (h : Nodes w S tw v xs) (hs : ∀ b, b < w.heap.size → S b → T b) : Nodes w T tw v xs := by
  obtain ⟨a, c, h1, h2, h3⟩ := h; exact ⟨a, c, h1, h2, h3.mono hs⟩
theorem Nodes.below {w w' : World} {B : Nat} {tw : Bool} {v : Value} {xs : Ns} (h : Nodes w (· < B) tw v xs) (hb : Below B w w') : Nodes w' (· < B) tw v xs := h.frame fun b hB _ => hb.block b hB

/-- The five cells of one. -/
structure NodeAt (w : World) (S : Nat → Prop) (tw : Bool) (b off : Nat) (x : Nd) (v1 v2 v3 : Value) : Prop where
  kind : x.kind < 256
  text : x.text.length ≤ 140737488351232
  d0 : w.cell? ⟨b, off, none⟩ = some (.int .u8 (x.kind : Int))
  d1 : w.cell? ⟨b, off + 1, none⟩ = some (.string (tx x.text))
  d2 : w.cell? ⟨b, off + 2, none⟩ = some v1
  d3 : w.cell? ⟨b, off + 3, none⟩ = some v2
  d4 : w.cell? ⟨b, off + 4, none⟩ = some v3
  l : Nodes w S tw v1 x.l
  body : Nodes w S tw v2 x.body
  els : Nodes w S tw v3 x.els

theorem NodesAt.at {w : World} {S : Nat → Prop} {tw : Bool} {a : Option Addr} {xs : Ns} (h : NodesAt w S tw a xs) : ∀ i (hi : i < xs.items.length), ∃ b off v1 v2 v3, a = some ⟨b, off, none⟩ ∧ S b ∧ NodeAt w S tw b (off + i * 5) xs.items[i] v1 v2 v3 := by
  induction h with
  | nil a h => intro i hi; exact absurd hi (Nat.not_lt_zero _)
  | @cons b off k t l body els r a1 a2 a3 c1 c2 c3 hS hk ht d0 d1 d2 d3 d4 r1 r2 r3 h1 h2 h3 _ _ _ _ i4 =>
    intro i hi
    cases i with
    | zero => exact ⟨b, off, _, _, _, rfl, hS, hk, ht, by rw [Nat.zero_mul, Nat.add_zero]; exact d0, by rw [Nat.zero_mul, Nat.add_zero]; exact d1, by rw [Nat.zero_mul, Nat.add_zero]; exact d2, by rw [Nat.zero_mul, Nat.add_zero]; exact d3, by rw [Nat.zero_mul, Nat.add_zero]; exact d4, ⟨a1, c1, rfl, r1, h1⟩, ⟨a2, c2, rfl, r2, h2⟩, ⟨a3, c3, rfl, r3, h3⟩⟩
    | succ i =>
      obtain ⟨b', off', v1, v2, v3, e, hS', hN⟩ := i4 i (by simpa [Ns.items_cons] using hi)
      cases e
      refine ⟨b, off, v1, v2, v3, rfl, hS, ?_⟩
      have e : off + (i + 1) * 5 = off + 5 + i * 5 := by omega
      rw [e]
      exact hN

/-- For a loop: the slice's form, and each node under its condition. -/
theorem Nodes.open_ {w : World} {S : Nat → Prop} {tw : Bool} {v : Value} {xs : Ns} (h : Nodes w S tw v xs) :
    ∃ a c, v = .slice a xs.items.length c ∧ Room tw xs.items.length c ∧ ∀ i (hi : i < xs.items.length), ∃ b off v1 v2 v3, a = some ⟨b, off, none⟩ ∧ S b ∧ NodeAt w S tw b (off + i * 5) xs.items[i] v1 v2 v3 := by
  obtain ⟨a, c, h1, h2, h3⟩ := h
  exact ⟨a, c, h1, h2, h3.at⟩

/-- Induction over a list of nodes: for each one of a list, of which it holds for the lists in it. -/
theorem Ns.each {P : Ns → Prop} (h : ∀ xs : Ns, (∀ x ∈ xs.items, P x.l ∧ P x.body ∧ P x.els) → P xs) : ∀ xs, P xs := by
  have key : ∀ xs : Ns, P xs ∧ ∀ x ∈ xs.items, P x.l ∧ P x.body ∧ P x.els := by
    intro xs
    induction xs with
    | nil => exact ⟨h _ (fun x hx => by cases hx), fun x hx => by cases hx⟩
    | cons k t l b e r il ib ie ir =>
      have : ∀ x ∈ (Ns.cons k t l b e r).items, P x.l ∧ P x.body ∧ P x.els := by
        intro x hx
        rw [Ns.items_cons] at hx
        rcases List.mem_cons.1 hx with rfl | hx
        · exact ⟨il.1, ib.1, ie.1⟩
        · exact ir.2 x hx
      exact ⟨h _ this, this⟩
  exact fun xs => (key xs).1
end Go.My

/- Nodes in memory: the cells of a list of nodes. No program in sight. -/
namespace Go.My
open Go.RowKit Go.Nd

/-- The five cells of a node, its kind, its text, its lists as values. -/
structure El where
  kind : Nat
  text : List UInt8
  v1 : Value
  v2 : Value
  v3 : Value
def El.cells (x : El) : List Value := [.int .u8 (x.kind : Int), .string (tx x.text), x.v1, x.v2, x.v3]
def elCells (l : List El) : List Value := l.flatMap El.cells
theorem elCells_cons (x : El) (l : List El) : elCells (x :: l) = .int .u8 (x.kind : Int) :: .string (tx x.text) :: x.v1 :: x.v2 :: x.v3 :: elCells l := by simp [elCells, El.cells]
theorem elCells_length (l : List El) : (elCells l).length = l.length * 5 := by
  induction l with
  | nil => rfl
  | cons x l ih => rw [elCells_cons]; simp only [List.length_cons, ih]; omega
theorem elCells_append (a b : List El) : elCells (a ++ b) = elCells a ++ elCells b := by simp [elCells]

/-- It is this node. -/
structure ElIs (w : World) (S : Nat → Prop) (tw : Bool) (e : El) (x : Nd) : Prop where
  kind : e.kind = x.kind ∧ x.kind < 256
  text : e.text = x.text ∧ x.text.length ≤ 140737488351232
  l : Nodes w S tw e.v1 x.l
  body : Nodes w S tw e.v2 x.body
  els : Nodes w S tw e.v3 x.els
theorem ElIs.frame {w w' : World} {S : Nat → Prop} {tw : Bool} {e : El} {x : Nd} (h : ElIs w S tw e x) (hs : ∀ b, S b → b < w.heap.size → w'.heap[b]? = w.heap[b]?) : ElIs w' S tw e x := ⟨h.kind, h.text, h.l.frame hs, h.body.frame hs, h.els.frame hs⟩
theorem ElIs.mono {w : World} {S T : Nat → Prop} {tw : Bool} {e : El} {x : Nd} (h : ElIs w S tw e x) (hs : ∀ b, b < w.heap.size → S b → T b) : ElIs w T tw e x := ⟨h.kind, h.text, h.l.mono hs, h.body.mono hs, h.els.mono hs⟩

/-- Cells in a row read as nodes. -/
theorem nodesAt_of {w : World} {S : Nat → Prop} {tw : Bool} {b : Nat} (hS : S b) : ∀ (xs : Ns) (els : List El) (off : Nat), els.length = xs.items.length → (∀ j (h : j < els.length) (h' : j < xs.items.length), ElIs w S tw els[j] xs.items[j]) →
    (∀ j u, (elCells els)[j]? = some u → w.cell? ⟨b, off + j, none⟩ = some u) → (tw = true → NodeMark w b (off + els.length * 5)) → NodesAt w S tw (some ⟨b, off, none⟩) xs := by
  intro xs
  induction xs with
  | nil =>
    intro els off hl _ _ hm
    have : els = [] := List.eq_nil_of_length_eq_zero hl
    subst this
    exact .nil _ fun e => ⟨b, off, rfl, hS, by simpa using hm e⟩
  | cons k t l body el r _ _ _ ihr =>
    intro els off hl he hc hm
    rw [Ns.items_cons, List.length_cons] at hl
    obtain ⟨e, els, rfl⟩ : ∃ e q, els = e :: q := by cases els with | nil => simp at hl | cons e q => exact ⟨e, q, rfl⟩
    have h0 := he 0 (by simp) (by simp [Ns.items_cons])
    simp only [List.getElem_cons_zero, Ns.items_cons] at h0
    obtain ⟨a1, c1, f1, r1, n1⟩ := h0.l
    obtain ⟨a2, c2, f2, r2, n2⟩ := h0.body
    obtain ⟨a3, c3, f3, r3, n3⟩ := h0.els
    have q : ∀ j u, j < 5 → (e.cells)[j]? = some u → w.cell? ⟨b, off + j, none⟩ = some u := fun j u hj hu => hc j u (by
      rw [elCells_cons]
      match j, hj with
      | 0, _ => exact hu
      | 1, _ => exact hu
      | 2, _ => exact hu
      | 3, _ => exact hu
      | 4, _ => exact hu)
    have q0 := q 0 _ (by decide) rfl
    rw [Nat.add_zero, h0.kind.1] at q0
    have q1 := q 1 _ (by decide) rfl
    rw [h0.text.1] at q1
    have q2 := q 2 _ (by decide) rfl
    have q3 := q 3 _ (by decide) rfl
    have q4 := q 4 _ (by decide) rfl
    rw [f1] at q2
    rw [f2] at q3
    rw [f3] at q4
    refine .cons hS h0.kind.2 h0.text.2 q0 q1 q2 q3 q4 r1 r2 r3 n1 n2 n3 (ihr els (off + 5) (by simpa using hl) (fun j h h' => ?_) (fun j u hu => ?_) (fun et => ?_))
    · have := he (j + 1) (by simpa using h) (by rw [Ns.items_cons]; simpa using h')
      simpa [Ns.items_cons] using this
    · have := hc (j + 5) u (by rw [elCells_cons]; exact hu)
      rw [show off + 5 + j = off + (j + 5) by omega]; exact this
    · have := hm et
      rw [List.length_cons] at this
      rw [show off + 5 + els.length * 5 = off + (els.length + 1) * 5 by omega]; exact this
end Go.My

/- Nodes in memory that is new: each list stands in a block of its own. No program in sight. -/
namespace Go.My
open Go.RowKit Go.Nd

/-- A list of nodes; F: the blocks of it, and of all lists in it. -/
inductive LF (w : World) (T : TypeId) : List Nat → Value → Ns → Prop
  | mk {v : Value} {xs : Ns} {els : List El} {k : Option Nat} {f1 f2 f3 : Nat → List Nat} (ho : Own w T 5 v xs.len (elCells els) k) (hn : xs.len * 96 ≤ 140737488351232) (he : els.length = xs.items.length)
      (hk : ∀ j (h : j < els.length) (h' : j < xs.items.length), (els[j].kind = xs.items[j].kind ∧ xs.items[j].kind < 256) ∧ els[j].text = xs.items[j].text ∧ xs.items[j].text.length ≤ 140737488351232)
      (g1 : ∀ j (h : j < els.length) (h' : j < xs.items.length), LF w T (f1 j) els[j].v1 xs.items[j].l) (g2 : ∀ j (h : j < els.length) (h' : j < xs.items.length), LF w T (f2 j) els[j].v2 xs.items[j].body)
      (g3 : ∀ j (h : j < els.length) (h' : j < xs.items.length), LF w T (f3 j) els[j].v3 xs.items[j].els) : LF w T (k.toList ++ (List.range els.length).flatMap fun j => f1 j ++ (f2 j ++ f3 j)) v xs

/-- A node. -/
def NF (w : World) (T : TypeId) (F : List Nat) (e : El) (x : Nd) : Prop :=
  ∃ F1 F2 F3, F = F1 ++ (F2 ++ F3) ∧ ((e.kind = x.kind ∧ x.kind < 256) ∧ e.text = x.text ∧ x.text.length ≤ 140737488351232) ∧ LF w T F1 e.v1 x.l ∧ LF w T F2 e.v2 x.body ∧ LF w T F3 e.v3 x.els

theorem LF.frame {w w' : World} {T : TypeId} {F : List Nat} {v : Value} {xs : Ns} (h : LF w T F v xs) (hs : ∀ b ∈ F, w'.heap[b]? = w.heap[b]?) : LF w' T F v xs := by
  induction h with
  | @mk v xs els k f1 f2 f3 ho hn he hk g1 g2 g3 i1 i2 i3 =>
    have mem : ∀ j, j < els.length → ∀ b, b ∈ f1 j ++ (f2 j ++ f3 j) → b ∈ k.toList ++ (List.range els.length).flatMap fun j => f1 j ++ (f2 j ++ f3 j) := fun j hj b hb =>
      List.mem_append_right _ (List.mem_flatMap.2 ⟨j, List.mem_range.2 hj, hb⟩)
    refine .mk (ho.frame fun b hb => hs b (by subst hb; simp)) hn he hk (fun j h h' => i1 j h h' fun b hb => hs b (mem j h b ?_)) (fun j h h' => i2 j h h' fun b hb => hs b (mem j h b ?_)) (fun j h h' => i3 j h h' fun b hb => hs b (mem j h b ?_))
    · exact List.mem_append_left _ hb
    · exact List.mem_append_right _ (List.mem_append_left _ hb)
    · exact List.mem_append_right _ (List.mem_append_right _ hb)

theorem NF.frame {w w' : World} {T : TypeId} {F : List Nat} {e : El} {x : Nd} (h : NF w T F e x) (hs : ∀ b ∈ F, w'.heap[b]? = w.heap[b]?) : NF w' T F e x := by
  obtain ⟨F1, F2, F3, rfl, h0, h1, h2, h3⟩ := h
  exact ⟨F1, F2, F3, rfl, h0, h1.frame fun b hb => hs b (by simp [hb]), h2.frame fun b hb => hs b (by simp [hb]), h3.frame fun b hb => hs b (by simp [hb])⟩

theorem LF.lt {w : World} {T : TypeId} {F : List Nat} {v : Value} {xs : Ns} (h : LF w T F v xs) : ∀ b ∈ F, b < w.heap.size := by
  induction h with
  | @mk v xs els k f1 f2 f3 ho hn he hk g1 g2 g3 i1 i2 i3 =>
    intro b hb
    rcases List.mem_append.1 hb with hb | hb
    · exact ho.lt b (by simpa using hb)
    · obtain ⟨j, hj, hb⟩ := List.mem_flatMap.1 hb
      have hj' := List.mem_range.1 hj
      rcases List.mem_append.1 hb with hb | hb
      · exact i1 j hj' (he ▸ hj') b hb
      · rcases List.mem_append.1 hb with hb | hb
        · exact i2 j hj' (he ▸ hj') b hb
        · exact i3 j hj' (he ▸ hj') b hb

theorem LF.nil (w : World) (T : TypeId) : LF w T [] (.slice none 0 0) .nil := by
  have := LF.mk (T := T) (els := []) (xs := .nil) (k := none) (f1 := fun _ => []) (f2 := fun _ => []) (f3 := fun _ => []) (Own.nil w T 5) (Nat.zero_le _) rfl (fun j h => absurd h (Nat.not_lt_zero _)) (fun j h => absurd h (Nat.not_lt_zero _)) (fun j h => absurd h (Nat.not_lt_zero _)) (fun j h => absurd h (Nat.not_lt_zero _))
  simpa using this

theorem LF.form {w : World} {T : TypeId} {F : List Nat} {v : Value} {xs : Ns} (h : LF w T F v xs) : ∃ a c, v = .slice a xs.len c := by
  cases h with
  | mk ho hn he hk g1 g2 g3 => exact own_form ho

/-- It reads as these nodes. -/
theorem LF.nodes {w : World} {T : TypeId} {S : Nat → Prop} {F : List Nat} {v : Value} {xs : Ns} (h : LF w T F v xs) : (∀ b ∈ F, S b) → Nodes w S false v xs := by
  induction h with
  | @mk v xs els k f1 f2 f3 ho hn he hk g1 g2 g3 i1 i2 i3 =>
    intro hS
    have mem : ∀ j, j < els.length → ∀ b, b ∈ f1 j ++ (f2 j ++ f3 j) → S b := fun j hj b hb => hS b
      (List.mem_append_right _ (List.mem_flatMap.2 ⟨j, List.mem_range.2 hj, hb⟩))
    obtain ⟨h1, h2⟩ := ho
    rcases h2 with ⟨rfl, h0, _⟩ | ⟨b, off, cap, cur, rfl, rfl, hh, h3, h4, h5, h6⟩
    · have : xs = .nil := by
        cases xs with
        | nil => rfl
        | cons a b c d e f => simp [Ns.len, Ns.items_cons] at h0
      subst this
      exact ⟨none, 0, rfl, ⟨Nat.zero_le _, Nat.zero_le _, Nat.zero_le _, fun e => by cases e⟩, .nil _ fun e => by cases e⟩
    · refine ⟨_, cap, rfl, ⟨h3, h4, hn, fun e => by cases e⟩, ?_⟩
      refine nodesAt_of (hS b (by simp)) xs els off he (fun j h h' => ⟨(hk j h h').1, (hk j h h').2, ?_, ?_, ?_⟩) (fun j u hu => ?_) (fun e => by cases e)
      · exact i1 j h h' fun b hb => mem j h b (List.mem_append_left _ hb)
      · exact i2 j h h' fun b hb => mem j h b (List.mem_append_right _ (List.mem_append_left _ hb))
      · exact i3 j h h' fun b hb => mem j h b (List.mem_append_right _ (List.mem_append_right _ hb))
      · have hj : j < xs.len * 5 := by rw [← h1]; exact (List.getElem?_eq_some_iff.1 hu).1
        rw [cell_of_row w b (off + j) cur T (0, 0) hh, ← hu, ← h6, List.getElem?_take, List.getElem?_drop, if_pos hj]
        simp

/-- All of them between lo and hi, each once. -/
def InR (lo hi : Nat) (F : List Nat) : Prop := F.Nodup ∧ ∀ b ∈ F, lo ≤ b ∧ b < hi
theorem InR.nil (lo hi : Nat) : InR lo hi [] := ⟨List.nodup_nil, fun b h => by cases h⟩
theorem InR.app {lo m hi : Nat} {F G : List Nat} (h : InR lo m F) (k : InR m hi G) (h1 : lo ≤ m) (h2 : m ≤ hi) : InR lo hi (F ++ G) :=
  ⟨List.nodup_append.2 ⟨h.1, k.1, fun a ha b hb e => by have := (h.2 a ha).2; have := (k.2 b hb).1; omega⟩, fun b hb => by
    rcases List.mem_append.1 hb with hb | hb
    · have := h.2 b hb; omega
    · have := k.2 b hb; omega⟩
theorem InR.mono {lo hi lo' hi' : Nat} {F : List Nat} (h : InR lo hi F) (h1 : lo' ≤ lo) (h2 : hi ≤ hi') : InR lo' hi' F := ⟨h.1, fun b hb => by have := h.2 b hb; omega⟩
theorem InR.one {b : Nat} : InR b (b + 1) [b] := ⟨by simp, fun c hc => by simp at hc; omega⟩
theorem InR.perm {lo hi : Nat} {F G : List Nat} (h : InR lo hi F) (p : F.Perm G) : InR lo hi G := ⟨p.nodup_iff.1 h.1, fun b hb => h.2 b (p.mem_iff.2 hb)⟩

/-- A list of nodes in memory between lo and hi. -/
def LR (w : World) (T : TypeId) (lo hi : Nat) (v : Value) (xs : Ns) : Prop := ∃ F, LF w T F v xs ∧ InR lo hi F
/-- A node's value. -/
def NR (w : World) (T : TypeId) (lo hi : Nat) (v : Value) (x : Nd) : Prop := ∃ e F, v = .agg #[.int .u8 (e.kind : Int), .string (tx e.text), e.v1, e.v2, e.v3] ∧ NF w T F e x ∧ InR lo hi F

theorem LR.frame {w w' : World} {T : TypeId} {lo hi : Nat} {v : Value} {xs : Ns} (h : LR w T lo hi v xs) (hs : ∀ b, lo ≤ b → b < hi → w'.heap[b]? = w.heap[b]?) : LR w' T lo hi v xs := by
  obtain ⟨F, h1, h2⟩ := h
  exact ⟨F, h1.frame fun b hb => hs b (h2.2 b hb).1 (h2.2 b hb).2, h2⟩
theorem NR.frame {w w' : World} {T : TypeId} {lo hi : Nat} {v : Value} {x : Nd} (h : NR w T lo hi v x) (hs : ∀ b, lo ≤ b → b < hi → w'.heap[b]? = w.heap[b]?) : NR w' T lo hi v x := by
  obtain ⟨e, F, h0, h1, h2⟩ := h
  exact ⟨e, F, h0, h1.frame fun b hb => hs b (h2.2 b hb).1 (h2.2 b hb).2, h2⟩
theorem LR.mono {w : World} {T : TypeId} {lo hi lo' hi' : Nat} {v : Value} {xs : Ns} (h : LR w T lo hi v xs) (h1 : lo' ≤ lo) (h2 : hi ≤ hi') : LR w T lo' hi' v xs := by
  obtain ⟨F, k1, k2⟩ := h; exact ⟨F, k1, k2.mono h1 h2⟩
theorem NR.mono {w : World} {T : TypeId} {lo hi lo' hi' : Nat} {v : Value} {x : Nd} (h : NR w T lo hi v x) (h1 : lo' ≤ lo) (h2 : hi ≤ hi') : NR w T lo' hi' v x := by
  obtain ⟨e, F, h0, k1, k2⟩ := h; exact ⟨e, F, h0, k1, k2.mono h1 h2⟩
theorem LR.nil (w : World) (T : TypeId) (lo hi : Nat) : LR w T lo hi (.slice none 0 0) .nil := ⟨[], LF.nil w T, InR.nil _ _⟩
theorem LR.form {w : World} {T : TypeId} {lo hi : Nat} {v : Value} {xs : Ns} (h : LR w T lo hi v xs) : ∃ a c, v = .slice a xs.len c := by obtain ⟨F, h1, _⟩ := h; exact h1.form
theorem LR.nodes {w : World} {T : TypeId} {lo hi : Nat} {v : Value} {xs : Ns} (h : LR w T lo hi v xs) {S : Nat → Prop} (hS : ∀ b, lo ≤ b → b < hi → S b) : Nodes w S false v xs := by
  obtain ⟨F, h1, h2⟩ := h
  exact h1.nodes fun b hb => hS b (h2.2 b hb).1 (h2.2 b hb).2

theorem NR.form {w : World} {T : TypeId} {lo hi : Nat} {v : Value} {x : Nd} (h : NR w T lo hi v x) : ∃ a1 c1 a2 c2 a3 c3, v = .agg #[.int .u8 (x.kind : Int), .string (tx x.text), .slice a1 x.l.len c1, .slice a2 x.body.len c2, .slice a3 x.els.len c3] := by
  obtain ⟨e, F, h0, ⟨_, _, _, _, hk, h1, h2, h3⟩, hr⟩ := h
  obtain ⟨a1, c1, e1⟩ := h1.form
  obtain ⟨a2, c2, e2⟩ := h2.form
  obtain ⟨a3, c3, e3⟩ := h3.form
  exact ⟨a1, c1, a2, c2, a3, c3, by rw [h0, hk.1.1, hk.2.1, e1, e2, e3]⟩

/-- A node out of its parts. -/
theorem NR.mk {w : World} {T : TypeId} {lo m1 m2 hi k : Nat} {t : List UInt8} {u1 u2 u3 : Value} {l b e : Ns} (hk : k < 256) (ht : t.length ≤ 140737488351232) (h1 : LR w T lo m1 u1 l) (h2 : LR w T m1 m2 u2 b) (h3 : LR w T m2 hi u3 e) (l1 : lo ≤ m1) (l2 : m1 ≤ m2) (l3 : m2 ≤ hi) :
    NR w T lo hi (.agg #[.int .u8 (k : Int), .string (tx t), u1, u2, u3]) ⟨k, t, l, b, e⟩ := by
  obtain ⟨F1, a1, r1⟩ := h1
  obtain ⟨F2, a2, r2⟩ := h2
  obtain ⟨F3, a3, r3⟩ := h3
  exact ⟨⟨k, t, u1, u2, u3⟩, F1 ++ (F2 ++ F3), rfl, ⟨F1, F2, F3, rfl, ⟨⟨rfl, hk⟩, rfl, ht⟩, a1, a2, a3⟩, r1.app (r2.app r3 l2 l3) l1 (by omega)⟩

/-- The parts of a node. -/
theorem NR.parts {w : World} {T : TypeId} {lo hi : Nat} {k : Int} {s : ByteArray} {u1 u2 u3 : Value} {x : Nd} (h : NR w T lo hi (.agg #[.int .u8 k, .string s, u1, u2, u3]) x) : k = (x.kind : Int) ∧ s = tx x.text ∧ x.kind < 256 ∧ x.text.length ≤ 140737488351232 ∧
    ∃ F1 F2 F3, LF w T F1 u1 x.l ∧ LF w T F2 u2 x.body ∧ LF w T F3 u3 x.els ∧ InR lo hi (F1 ++ (F2 ++ F3)) := by
  obtain ⟨e, F, h0, ⟨F1, F2, F3, rfl, hk, a1, a2, a3⟩, h2⟩ := h
  cases h0
  exact ⟨by rw [hk.1.1], by rw [hk.2.1], hk.1.2, hk.2.2, F1, F2, F3, a1, a2, a3, h2⟩

theorem flatMap_same {α β : Type} {l : List α} {f g : α → List β} (h : ∀ a ∈ l, f a = g a) : l.flatMap f = l.flatMap g := by
  induction l with
  | nil => rfl
  | cons a l ih => rw [List.flatMap_cons, List.flatMap_cons, h a (by simp), ih fun b hb => h b (by simp [hb])]
/-- One more list of nodes' blocks, behind its own. -/
theorem LF.snoc {w w' : World} {T : TypeId} {G : List Nat} {v' : Value} {xs ys : Ns} {e : El} {x : Nd} {els : List El} {k' : Option Nat} {f1 f2 f3 : Nat → List Nat} (he : els.length = xs.items.length)
    (hk : ∀ j (h : j < els.length) (h' : j < xs.items.length), (els[j].kind = xs.items[j].kind ∧ xs.items[j].kind < 256) ∧ els[j].text = xs.items[j].text ∧ xs.items[j].text.length ≤ 140737488351232)
    (g1 : ∀ j (h : j < els.length) (h' : j < xs.items.length), LF w T (f1 j) els[j].v1 xs.items[j].l) (g2 : ∀ j (h : j < els.length) (h' : j < xs.items.length), LF w T (f2 j) els[j].v2 xs.items[j].body)
    (g3 : ∀ j (h : j < els.length) (h' : j < xs.items.length), LF w T (f3 j) els[j].v3 xs.items[j].els) (hN : NF w' T G e x) (hy : ys.items = xs.items ++ [x]) (hn : (xs.len + 1) * 96 ≤ 140737488351232)
    (hs : ∀ b ∈ ((List.range els.length).flatMap fun j => f1 j ++ (f2 j ++ f3 j)), w'.heap[b]? = w.heap[b]?) (ho' : Own w' T 5 v' (xs.len + 1) (elCells (els ++ [e])) k') : LF w' T (k'.toList ++ (((List.range els.length).flatMap fun j => f1 j ++ (f2 j ++ f3 j)) ++ G)) v' ys := by
  obtain ⟨G1, G2, G3, rfl, hk', a1, a2, a3⟩ := hN
  have hys : ys.len = xs.len + 1 := by unfold Ns.len; rw [hy]; simp
  have keep : ∀ j, j < els.length → ∀ b, b ∈ f1 j ++ (f2 j ++ f3 j) → w'.heap[b]? = w.heap[b]? := fun j hj b hb => hs b (List.mem_flatMap.2 ⟨j, List.mem_range.2 hj, hb⟩)
  have hit : ∀ j (h : j < xs.items.length) (h' : j < ys.items.length), ys.items[j] = xs.items[j] := fun j h h' => by
    have : ys.items[j]? = xs.items[j]? := by rw [hy, List.getElem?_append_left h]
    rw [List.getElem?_eq_getElem h', List.getElem?_eq_getElem h] at this
    simpa using this
  have hlast : ∀ (h' : els.length < ys.items.length), ys.items[els.length] = x := fun h' => by
    have : ys.items[els.length]? = some x := by rw [hy, he, List.getElem?_append_right (Nat.le_refl _)]; simp
    rw [List.getElem?_eq_getElem h'] at this
    simpa using this
  have hel : ∀ j (h : j < els.length) (h' : j < (els ++ [e]).length), (els ++ [e])[j] = els[j] := fun j h h' => List.getElem_append_left h
  have hee : ∀ (h' : els.length < (els ++ [e]).length), (els ++ [e])[els.length] = e := fun h' => by simp
  have main := LF.mk (w := w') (T := T) (v := v') (xs := ys) (els := els ++ [e]) (k := k') (f1 := fun j => if j < els.length then f1 j else G1) (f2 := fun j => if j < els.length then f2 j else G2) (f3 := fun j => if j < els.length then f3 j else G3)
    (by rw [hys]; exact ho') (by rw [hys]; exact hn) (by rw [List.length_append, hy, List.length_append, he]; rfl)
    (fun j h h' => by
      by_cases hj : j < els.length
      · rw [hel j hj, hit j (he ▸ hj)]; exact hk j hj (he ▸ hj)
      · have hje : j = els.length := by rw [List.length_append] at h; simp at h; omega
        subst hje
        rw [hee, hlast]; exact hk')
    (fun j h h' => by
      by_cases hj : j < els.length
      · rw [hel j hj, hit j (he ▸ hj)]; simp only [if_pos hj]; exact (g1 j hj (he ▸ hj)).frame fun b hb => keep j hj b (List.mem_append_left _ hb)
      · have hje : j = els.length := by rw [List.length_append] at h; simp at h; omega
        subst hje
        rw [hee, hlast]; simp only [Nat.lt_irrefl, if_false]; exact a1)
    (fun j h h' => by
      by_cases hj : j < els.length
      · rw [hel j hj, hit j (he ▸ hj)]; simp only [if_pos hj]; exact (g2 j hj (he ▸ hj)).frame fun b hb => keep j hj b (List.mem_append_right _ (List.mem_append_left _ hb))
      · have hje : j = els.length := by rw [List.length_append] at h; simp at h; omega
        subst hje
        rw [hee, hlast]; simp only [Nat.lt_irrefl, if_false]; exact a2)
    (fun j h h' => by
      by_cases hj : j < els.length
      · rw [hel j hj, hit j (he ▸ hj)]; simp only [if_pos hj]; exact (g3 j hj (he ▸ hj)).frame fun b hb => keep j hj b (List.mem_append_right _ (List.mem_append_right _ hb))
      · have hje : j = els.length := by rw [List.length_append] at h; simp at h; omega
        subst hje
        rw [hee, hlast]; simp only [Nat.lt_irrefl, if_false]; exact a3)
  have hF : ((List.range (els ++ [e]).length).flatMap fun j => (if j < els.length then f1 j else G1) ++ ((if j < els.length then f2 j else G2) ++ (if j < els.length then f3 j else G3))) = ((List.range els.length).flatMap fun j => f1 j ++ (f2 j ++ f3 j)) ++ (G1 ++ (G2 ++ G3)) := by
    rw [List.length_append, List.length_singleton, List.range_succ, List.flatMap_append]
    congr 1
    · refine flatMap_same fun j hj => ?_
      have := List.mem_range.1 hj
      simp only [if_pos this]
    · simp
  rw [hF] at main
  exact main

/-- One new block. -/
theorem own_lit (w : World) (T : TypeId) (n size : Nat) (cs : List Value) (h : cs.length = n * size) (hn : n ≤ maxLen) : Own (w.alloc (.cells cs.toArray T)) T size (.slice (some ⟨w.heap.size, 0, none⟩) n n) n cs (some w.heap.size) :=
  ⟨h, .inr ⟨w.heap.size, 0, n, cs.toArray, rfl, rfl, heap_alloc_new w _, Nat.le_refl _, hn, by simp [h], by rw [← h]; simp⟩⟩
end Go.My

/- Nodes in new memory: lists out of nodes, and one more behind. No program in sight. -/
namespace Go.My
open Go.RowKit Go.Nd

theorem LF.of_nodes {w : World} {T : TypeId} {v : Value} {xs : Ns} {els : List El} {k : Option Nat} (Fs : Nat → List Nat) (ho : Own w T 5 v xs.len (elCells els) k) (hn : xs.len * 96 ≤ 140737488351232) (he : els.length = xs.items.length)
    (h : ∀ j (h : j < els.length) (h' : j < xs.items.length), NF w T (Fs j) els[j] xs.items[j]) : LF w T (k.toList ++ (List.range els.length).flatMap Fs) v xs := by
  have hc : ∀ j, ∃ p : List Nat × List Nat × List Nat, ∀ (hj : j < els.length), Fs j = p.1 ++ (p.2.1 ++ p.2.2) ∧ ((els[j].kind = (xs.items[j]'(he ▸ hj)).kind ∧ (xs.items[j]'(he ▸ hj)).kind < 256) ∧ els[j].text = (xs.items[j]'(he ▸ hj)).text ∧ (xs.items[j]'(he ▸ hj)).text.length ≤ 140737488351232) ∧
      LF w T p.1 els[j].v1 (xs.items[j]'(he ▸ hj)).l ∧ LF w T p.2.1 els[j].v2 (xs.items[j]'(he ▸ hj)).body ∧ LF w T p.2.2 els[j].v3 (xs.items[j]'(he ▸ hj)).els := by
    intro j
    by_cases hj : j < els.length
    · obtain ⟨F1, F2, F3, h1, h2, h3, h4, h5⟩ := h j hj (he ▸ hj)
      exact ⟨(F1, F2, F3), fun _ => ⟨h1, h2, h3, h4, h5⟩⟩
    · exact ⟨([], [], []), fun hj' => absurd hj' hj⟩
  have main := LF.mk (w := w) (T := T) (v := v) (xs := xs) (els := els) (k := k) (f1 := fun j => (Classical.choose (hc j)).1) (f2 := fun j => (Classical.choose (hc j)).2.1) (f3 := fun j => (Classical.choose (hc j)).2.2) ho hn he
    (fun j hj _ => (Classical.choose_spec (hc j) hj).2.1) (fun j hj _ => (Classical.choose_spec (hc j) hj).2.2.1) (fun j hj _ => (Classical.choose_spec (hc j) hj).2.2.2.1) (fun j hj _ => (Classical.choose_spec (hc j) hj).2.2.2.2)
  have hF : ((List.range els.length).flatMap fun j => (Classical.choose (hc j)).1 ++ ((Classical.choose (hc j)).2.1 ++ (Classical.choose (hc j)).2.2)) = (List.range els.length).flatMap Fs :=
    flatMap_same fun j hj => ((Classical.choose_spec (hc j) (List.mem_range.1 hj)).1).symm
  rw [hF] at main
  exact main

theorem elCells_one (e : El) : elCells [e] = [.int .u8 (e.kind : Int), .string (tx e.text), e.v1, e.v2, e.v3] := by simp [elCells, El.cells]
theorem elCells_two (e f : El) : elCells [e, f] = [.int .u8 (e.kind : Int), .string (tx e.text), e.v1, e.v2, e.v3, .int .u8 (f.kind : Int), .string (tx f.text), f.v1, f.v2, f.v3] := by simp [elCells, El.cells]

theorem NR.later {w w' : World} {T : TypeId} {lo hi : Nat} {v : Value} {x : Nd} (h : NR w T lo hi v x) (hb : Below w.heap.size w w') (hh : hi ≤ w.heap.size) : NR w' T lo hi v x := h.frame fun b _ hb' => hb.block b (by omega)
theorem LR.later {w w' : World} {T : TypeId} {lo hi : Nat} {v : Value} {xs : Ns} (h : LR w T lo hi v xs) (hb : Below w.heap.size w w') (hh : hi ≤ w.heap.size) : LR w' T lo hi v xs := h.frame fun b _ hb' => hb.block b (by omega)

/-- A list of one. -/
theorem LR.one {w : World} {T : TypeId} {lo hi : Nat} {c0 c1 c2 c3 c4 : Value} {x : Nd} (h : NR w T lo hi (.agg #[c0, c1, c2, c3, c4]) x) (h1 : lo ≤ hi) (h2 : hi ≤ w.heap.size) :
    LR (w.alloc (.cells #[c0, c1, c2, c3, c4] T)) T lo (w.heap.size + 1) (.slice (some ⟨w.heap.size, 0, none⟩) 1 1) (Ns.of [x]) := by
  obtain ⟨e, F, h0, hN, hr⟩ := h.later (Below.alloc (Below.refl _ w) (Nat.le_refl _) (.cells #[c0, c1, c2, c3, c4] T)) h2
  simp only [Value.agg.injEq, Array.mk.injEq, List.cons.injEq, and_true] at h0
  obtain ⟨rfl, rfl, rfl, rfl, rfl⟩ := h0
  have main := LF.of_nodes (xs := Ns.of [x]) (els := [e]) (fun _ => F) (own_lit w T 1 5 (elCells [e]) (by rw [elCells_length]; rfl) (by decide)) (by show 1 * 96 ≤ _; decide) rfl (fun j h _ => by
    have : j = 0 := by simp at h; omega
    subst this
    have hN' := hN
    rw [show (#[Value.int IntKind.u8 (e.kind : Int), Value.string (tx e.text), e.v1, e.v2, e.v3] : Array Value) = (elCells [e]).toArray by rw [elCells_one]] at hN'
    exact hN')
  simp only [elCells_one] at main
  refine ⟨_, main, ?_⟩
  have e1 : (List.range [e].length).flatMap (fun _ => F) = F := by simp [List.range_succ]
  rw [e1]
  exact ((hr.mono (Nat.le_refl _) h2).app InR.one (by omega) (Nat.le_succ _)).perm List.perm_append_comm

/-- A node in blocks of S, each once. -/
def NS (w : World) (T : TypeId) (S : Nat → Prop) (v : Value) (x : Nd) : Prop := ∃ e F, v = .agg #[.int .u8 (e.kind : Int), .string (tx e.text), e.v1, e.v2, e.v3] ∧ NF w T F e x ∧ F.Nodup ∧ ∀ b ∈ F, S b
theorem NR.ns {w : World} {T : TypeId} {lo hi : Nat} {v : Value} {x : Nd} (h : NR w T lo hi v x) {S : Nat → Prop} (hS : ∀ b, lo ≤ b → b < hi → S b) : NS w T S v x := by
  obtain ⟨e, F, h0, h1, h2⟩ := h
  exact ⟨e, F, h0, h1, h2.1, fun b hb => hS b (h2.2 b hb).1 (h2.2 b hb).2⟩
theorem NF.lt {w : World} {T : TypeId} {F : List Nat} {e : El} {x : Nd} (h : NF w T F e x) : ∀ b ∈ F, b < w.heap.size := by
  obtain ⟨F1, F2, F3, rfl, _, h1, h2, h3⟩ := h
  intro b hb
  rcases List.mem_append.1 hb with hb | hb
  · exact h1.lt b hb
  · rcases List.mem_append.1 hb with hb | hb
    · exact h2.lt b hb
    · exact h3.lt b hb
theorem NS.nr {w : World} {T : TypeId} {S : Nat → Prop} {v : Value} {x : Nd} (h : NS w T S v x) {lo : Nat} (hS : ∀ b, S b → lo ≤ b) : NR w T lo w.heap.size v x := by
  obtain ⟨e, F, h0, h1, h2, h3⟩ := h
  exact ⟨e, F, h0, h1, h2, fun b hb => ⟨hS b (h3 b hb), h1.lt b hb⟩⟩
theorem NS.frame {w w' : World} {T : TypeId} {S : Nat → Prop} {v : Value} {x : Nd} (h : NS w T S v x) (hs : ∀ b, S b → b < w.heap.size → w'.heap[b]? = w.heap[b]?) : NS w' T S v x := by
  obtain ⟨e, F, h0, h1, h2, h3⟩ := h
  exact ⟨e, F, h0, h1.frame fun b hb => hs b (h3 b hb) (h1.lt b hb), h2, h3⟩
theorem NS.later {w w' : World} {T : TypeId} {S : Nat → Prop} {v : Value} {x : Nd} (h : NS w T S v x) (hb : Below w.heap.size w w') : NS w' T S v x := h.frame fun b _ hlt => hb.block b hlt
theorem NS.mono {w : World} {T : TypeId} {S U : Nat → Prop} {v : Value} {x : Nd} (h : NS w T S v x) (hs : ∀ b, S b → b < w.heap.size → U b) : NS w T U v x := by
  obtain ⟨e, F, h0, h1, h2, h3⟩ := h
  exact ⟨e, F, h0, h1, h2, fun b hb => hs b (h3 b hb) (h1.lt b hb)⟩
theorem NS.form {w : World} {T : TypeId} {S : Nat → Prop} {v : Value} {x : Nd} (h : NS w T S v x) : ∃ a1 c1 a2 c2 a3 c3, v = .agg #[.int .u8 (x.kind : Int), .string (tx x.text), .slice a1 x.l.len c1, .slice a2 x.body.len c2, .slice a3 x.els.len c3] :=
  (h.nr (lo := 0) fun _ _ => Nat.zero_le _).form

/-- A list of two. -/
theorem NS.two {w : World} {T : TypeId} {S U : Nat → Prop} {c0 c1 c2 c3 c4 d0 d1 d2 d3 d4 : Value} {x y : Nd} (h : NS w T S (.agg #[c0, c1, c2, c3, c4]) x) (k : NS w T U (.agg #[d0, d1, d2, d3, d4]) y) (hd : ∀ b, S b → U b → False) :
    ∃ F, LF (w.alloc (.cells #[c0, c1, c2, c3, c4, d0, d1, d2, d3, d4] T)) T F (.slice (some ⟨w.heap.size, 0, none⟩) 2 2) (Ns.of [x, y]) ∧ F.Nodup ∧ ∀ b ∈ F, S b ∨ U b ∨ w.heap.size ≤ b := by
  have hA := Below.alloc (Below.refl w.heap.size w) (Nat.le_refl _) (.cells #[c0, c1, c2, c3, c4, d0, d1, d2, d3, d4] T)
  obtain ⟨e, F, h0, hN', hr1, hr2⟩ := h
  obtain ⟨f, G, k0, kN', kr1, kr2⟩ := k
  have hlt := hN'.lt
  have klt := kN'.lt
  have hN := hN'.frame fun b hb => hA.block b (hlt b hb)
  have kN := kN'.frame fun b hb => hA.block b (klt b hb)
  simp only [Value.agg.injEq, Array.mk.injEq, List.cons.injEq, and_true] at h0 k0
  obtain ⟨rfl, rfl, rfl, rfl, rfl⟩ := h0
  obtain ⟨rfl, rfl, rfl, rfl, rfl⟩ := k0
  have main := LF.of_nodes (xs := Ns.of [x, y]) (els := [e, f]) (fun j => if j = 0 then F else G) (own_lit w T 2 5 (elCells [e, f]) (by rw [elCells_length]; rfl) (by decide)) (by show 2 * 96 ≤ _; decide) rfl (fun j h _ => by
    have : j = 0 ∨ j = 1 := by simp at h; omega
    have hN' := hN
    have kN' := kN
    rw [show (#[Value.int IntKind.u8 (e.kind : Int), Value.string (tx e.text), e.v1, e.v2, e.v3, Value.int IntKind.u8 (f.kind : Int), Value.string (tx f.text), f.v1, f.v2, f.v3] : Array Value) = (elCells [e, f]).toArray by rw [elCells_two]] at hN' kN'
    rcases this with rfl | rfl
    · exact hN'
    · exact kN')
  simp only [elCells_two] at main
  refine ⟨_, main, ?_⟩
  have e1 : (List.range [e, f].length).flatMap (fun j => if j = 0 then F else G) = F ++ G := by simp [List.range_succ]
  rw [e1]
  refine ⟨List.nodup_append.2 ⟨by simp, List.nodup_append.2 ⟨hr1, kr1, fun a ha b hb e => hd a (hr2 a ha) (by subst e; exact kr2 a hb)⟩, fun a ha b hb e => ?_⟩, fun b hb => ?_⟩
  · simp at ha
    rcases List.mem_append.1 hb with hb | hb
    · have := hlt b hb; omega
    · have := klt b hb; omega
  · rcases List.mem_append.1 hb with hb | hb
    · simp at hb; exact .inr (.inr (by omega))
    · rcases List.mem_append.1 hb with hb | hb
      · exact .inl (hr2 b hb)
      · exact .inr (.inl (kr2 b hb))

theorem LF.oneCell {w : World} {T : TypeId} {F : List Nat} {v : Value} {xs : Ns} (h : LF w T F v xs) : v.oneCell' = true := by obtain ⟨a, c, rfl⟩ := h.form; rfl
theorem NF.oneCells {w : World} {T : TypeId} {F : List Nat} {e : El} {x : Nd} (h : NF w T F e x) : ∀ u ∈ elCells [e], u.oneCell' = true := by
  obtain ⟨F1, F2, F3, _, _, h1, h2, h3⟩ := h
  intro u hu
  rw [elCells_one] at hu
  simp at hu
  rcases hu with rfl | rfl | rfl | rfl | rfl
  · rfl
  · rfl
  · exact h1.oneCell
  · exact h2.oneCell
  · exact h3.oneCell

theorem Ns.len_of (l : List Nd) : (Ns.of l).len = l.length := by unfold Ns.len; rw [Ns.items_of]

/-- One more, appended: what is so behind it. -/
theorem LR.app {w : World} {T : TypeId} {lo hi hi2 : Nat} {v : Value} {l : List Nd} {cs : Array Value} {x : Nd} (h : LR w T lo hi v (Ns.of l)) (hN : NR w T hi hi2 (.agg cs) x) (h1 : lo ≤ hi) (h2 : hi ≤ hi2) (h3 : hi2 ≤ w.heap.size) (hn : (l.length + 1) * 96 ≤ 140737488351232) :
    (∀ u ∈ cs.toList, u.oneCell' = true) ∧ ∃ xs k, Own w T 5 v l.length xs k ∧ (∀ b, k = some b → lo ≤ b ∧ b < hi) ∧ ∀ w' v' k', Own w' T 5 v' (l.length + 1) (xs ++ cs.toList) k' → Step w w' k → (k' = k ∨ ∃ j, k' = some j ∧ w.heap.size ≤ j) → LR w' T lo w'.heap.size v' (Ns.of (l ++ [x])) := by
  obtain ⟨F, hF, hr⟩ := h
  obtain ⟨e, G, h0, hG, kr⟩ := hN
  cases h0
  refine ⟨by simpa [elCells_one] using hG.oneCells, ?_⟩
  cases hF with
  | @mk _ _ els k f1 f2 f3 ho hn' he hk g1 g2 g3 =>
    rw [Ns.len_of] at ho
    have hk1 : ∀ b, k = some b → lo ≤ b ∧ b < hi := fun b hb => hr.2 b (by subst hb; simp)
    refine ⟨elCells els, k, ho, hk1, fun w' v' k' ho' st hk' => ?_⟩
    have hkC : ∀ b, k = some b → b ∉ (List.range els.length).flatMap fun j => f1 j ++ (f2 j ++ f3 j) := fun b hb hm => by
      subst hb
      exact (List.nodup_append.1 hr.1).2.2 b (by simp) b hm rfl
    have hC : InR lo hi ((List.range els.length).flatMap fun j => f1 j ++ (f2 j ++ f3 j)) := ⟨(List.nodup_append.1 hr.1).2.1, fun b hb => hr.2 b (List.mem_append_right _ hb)⟩
    have hG' : NF w' T G e x := hG.frame fun b hb => st.block b (by have := (kr.2 b hb).2; omega) fun hbk => by have := (hk1 b hbk.symm).2; have := (kr.2 b hb).1; omega
    have main := LF.snoc (w' := w') (v' := v') (ys := Ns.of (l ++ [x])) he hk g1 g2 g3 hG' (by rw [Ns.items_of, Ns.items_of]) (by rw [Ns.len_of]; exact hn)
      (fun b hb => st.block b (by have := (hC.2 b hb).2; omega) fun hbk => hkC b hbk.symm hb) (k' := k') (by rw [Ns.len_of, elCells_append, elCells_one]; exact ho')
    refine ⟨_, main, ?_⟩
    have hs := st.size
    rcases hk' with rfl | ⟨j, rfl, hj⟩
    · rw [← List.append_assoc]
      exact (hr.app kr h1 h2).mono (Nat.le_refl _) (by omega)
    · have hjlt := ho'.lt j rfl
      exact (((hC.app kr h1 h2).mono (Nat.le_refl _) (show hi2 ≤ j by omega)).app (InR.one.mono (Nat.le_refl j) hjlt) (by omega) (by omega)).perm (by
        show List.Perm (_ ++ [j]) ([j] ++ _)
        exact List.perm_append_comm)

section
variable {P : Program} (w : World)
/-- APPEND OF A NODE, FOR THE WALK. -/
theorem wpList_node {ops : Array Oper} {rest : List Oper} {o : Oper} {a : Act} {Q : Exit → Act → World → Prop} (hgd : o.guard = none) (s x : Operand) {t e : TypeId}
    (ho : o.op = .call { callee := .builtin .append, args := #[s, x], argTypes := #[t, t] }) {z : Value} (E : Elem P t e 5 96 z) {v : Value} {l : List Nd} {lo hi hi2 : Nat} {cs : Array Value} {y : Value} {nd : Nd}
    (hs : a.eval s = v) (hown : LR w e lo hi v (Ns.of l)) (hN : NR w e hi hi2 (.agg cs) nd) (hy : a.eval x = y) (hx : Src w 5 y 1 cs.toList) (h1 : lo ≤ hi) (h2 : hi ≤ hi2) (h3 : hi2 ≤ w.heap.size) (hn : (l.length + 1) * 96 ≤ 140737488351232)
    (h : ∀ ao cap w', LR w' e lo w'.heap.size (.slice ao (l.length + 1) cap) (Ns.of (l ++ [nd])) → Below lo w w' → wpList P ops Q rest (a.put o.dst (.slice ao (l.length + 1) cap)) w') : wpList P ops Q (o :: rest) a w := by
  obtain ⟨hc, xs, k, ho', hk, go⟩ := hown.app hN h1 h2 h3 hn
  refine wpList_append w hgd s x ho E hs ho' hy hx hc (by simp only [maxLen]; omega) (by omega) fun v' w' k' q1 q2 q3 => ?_
  obtain ⟨ao, cap, rfl⟩ := own_form q1
  exact h ao cap w' (go w' _ k' q1 q2 q3) (q2.below (by omega) fun b hb => (hk b hb).1)
end
end Go.My

/- A struct in a block of its own: its cells written one by one. No program in sight. -/
namespace Go.My
open Go.RowKit

/-- From w to w': block c now holds these cells; all else is as it was. -/
structure Put (w w' : World) (c : Nat) (cs : Array Value) (T : TypeId) : Prop where
  row : w'.heap[c]? = some (.cells cs T (0, 0))
  os : w'.os = w.os
  tape : w'.tape = w.tape
  output : w'.output = w.output
  size : w'.heap.size = w.heap.size
  oth : ∀ k, k ≠ c → w'.heap[k]? = w.heap[k]?

theorem Put.one {w : World} {c : Nat} {cs : Array Value} {T : TypeId} (h : w.heap[c]? = some (.cells cs T (0, 0))) (i : Nat) (v : Value) : Put w (w.setCell ⟨c, i, none⟩ v) c (cs.setIfInBounds i v) T :=
  ⟨heap_setCell_same w c i _ _ v h, rfl, rfl, rfl, by simp, fun k hk => Below.heap_setCell w ⟨c, i, none⟩ v k (by simpa using hk)⟩
theorem Put.trans {w w1 w2 : World} {c : Nat} {cs ds : Array Value} {T : TypeId} (h : Put w w1 c cs T) (k : Put w1 w2 c ds T) : Put w w2 c ds T :=
  ⟨k.row, k.os.trans h.os, k.tape.trans h.tape, k.output.trans h.output, k.size.trans h.size, fun j hj => (k.oth j hj).trans (h.oth j hj)⟩
theorem Put.below {w0 w w' : World} {n c : Nat} {cs : Array Value} {T : TypeId} (h : Put w w' c cs T) (hb : Below n w0 w) (hn : n ≤ c) : Below n w0 w' :=
  ⟨h.os.trans hb.os, h.tape.trans hb.tape, h.output.trans hb.output, by rw [h.size]; exact hb.size, fun k hk => (h.oth k (by omega)).trans (hb.block k hk)⟩
theorem Put.step {w w' : World} {c : Nat} {cs : Array Value} {T : TypeId} (h : Put w w' c cs T) : Step w w' (some c) :=
  ⟨h.os, h.tape, h.output, by rw [h.size]; exact Nat.le_refl _, fun k _ hk => h.oth k fun e => hk (by rw [e])⟩
theorem Put.cells {w w' : World} {c : Nat} {cs : Array Value} {T : TypeId} (h : Put w w' c cs T) (i : Nat) : w'.cell? ⟨c, i, none⟩ = cs[i]? ∧ w'.frozen? ⟨c, i, none⟩ = false := ⟨cell_of_row _ _ _ _ _ _ h.row, frozen_of_row _ _ _ _ _ h.row⟩

theorem put2 {w : World} {c : Nat} {z0 z1 : Value} {T : TypeId} (h : w.heap[c]? = some (.cells #[z0, z1] T (0, 0))) (v0 v1 : Value) : Put w ((w.setCell ⟨c, 0, none⟩ v0).setCell ⟨c, 1, none⟩ v1) c #[v0, v1] T :=
  (Put.one h 0 v0).trans (Put.one (Put.one h 0 v0).row 1 v1)
theorem put3 {w : World} {c : Nat} {z0 z1 z2 : Value} {T : TypeId} (h : w.heap[c]? = some (.cells #[z0, z1, z2] T (0, 0))) (v0 v1 v2 : Value) : Put w (((w.setCell ⟨c, 0, none⟩ v0).setCell ⟨c, 1, none⟩ v1).setCell ⟨c, 2, none⟩ v2) c #[v0, v1, v2] T :=
  have h1 := put2' h v0 v1
  h1.trans (Put.one h1.row 2 v2)
where put2' {w : World} {c : Nat} {z0 z1 z2 : Value} {T : TypeId} (h : w.heap[c]? = some (.cells #[z0, z1, z2] T (0, 0))) (v0 v1 : Value) : Put w ((w.setCell ⟨c, 0, none⟩ v0).setCell ⟨c, 1, none⟩ v1) c #[v0, v1, z2] T :=
  (Put.one h 0 v0).trans (Put.one (Put.one h 0 v0).row 1 v1)
theorem put5 {w : World} {c : Nat} {z0 z1 z2 z3 z4 : Value} {T : TypeId} (h : w.heap[c]? = some (.cells #[z0, z1, z2, z3, z4] T (0, 0))) (v0 v1 v2 v3 v4 : Value) :
    Put w (((((w.setCell ⟨c, 0, none⟩ v0).setCell ⟨c, 1, none⟩ v1).setCell ⟨c, 2, none⟩ v2).setCell ⟨c, 3, none⟩ v3).setCell ⟨c, 4, none⟩ v4) c #[v0, v1, v2, v3, v4] T := by
  have h0 : Put w _ c #[v0, z1, z2, z3, z4] T := Put.one h 0 v0
  have h1 : Put w _ c #[v0, v1, z2, z3, z4] T := h0.trans (Put.one h0.row 1 v1)
  have h2 : Put w _ c #[v0, v1, v2, z3, z4] T := h1.trans (Put.one h1.row 2 v2)
  have h3 : Put w _ c #[v0, v1, v2, v3, z4] T := h2.trans (Put.one h2.row 3 v3)
  exact h3.trans (Put.one h3.row 4 v4)

/-- A new block. -/
theorem Put.new (w : World) (cs : Array Value) (T : TypeId) : Below w.heap.size w (w.alloc (.cells cs T)) ∧ (w.alloc (.cells cs T)).heap[w.heap.size]? = some (.cells cs T (0, 0)) ∧ (w.alloc (.cells cs T)).heap.size = w.heap.size + 1 :=
  ⟨Below.alloc (Below.refl _ w) (Nat.le_refl _) _, heap_alloc_new w _, World.size_alloc _ _⟩

theorem row5 {w : World} {c : Nat} {v0 v1 v2 v3 v4 : Value} {T : TypeId} (h : w.heap[c]? = some (.cells #[v0, v1, v2, v3, v4] T (0, 0))) :
    w.cell? ⟨c, 0, none⟩ = some v0 ∧ w.cell? ⟨c, 1, none⟩ = some v1 ∧ w.cell? ⟨c, 2, none⟩ = some v2 ∧ w.cell? ⟨c, 3, none⟩ = some v3 ∧ w.cell? ⟨c, 4, none⟩ = some v4 ∧
    w.frozen? ⟨c, 0, none⟩ = false ∧ w.frozen? ⟨c, 1, none⟩ = false ∧ w.frozen? ⟨c, 2, none⟩ = false ∧ w.frozen? ⟨c, 3, none⟩ = false ∧ w.frozen? ⟨c, 4, none⟩ = false :=
  ⟨cell_of_row w c 0 _ _ _ h, cell_of_row w c 1 _ _ _ h, cell_of_row w c 2 _ _ _ h, cell_of_row w c 3 _ _ _ h, cell_of_row w c 4 _ _ _ h, frozen_of_row w c 0 _ _ h, frozen_of_row w c 1 _ _ h, frozen_of_row w c 2 _ _ h, frozen_of_row w c 3 _ _ h, frozen_of_row w c 4 _ _ h⟩

/-- What a cell of a struct holds gives the result. -/
theorem results_cell1 {fn : Func} {p : Tmp} {tp : TypeId} (h : fn.results = #[.cell p tp]) (tmps : Array Value) (P : Program) (w : World) {a : Addr} {va : Value}
    (ea : tmps.getD p undef = .pointer (some a)) (ra : (loadVar tp a).run P w = .ok va w) : (results fn tmps).run P w = .ok va w := by
  have ea' : tmps[p]?.getD undef = .pointer (some a) := by simpa using ea
  simp [results, h, ea', asAddr, ra]
/-- A block that was there is as it was behind a step of the reader. -/
theorem Step.kept {w w' : World} {rb c : Nat} (h : Step w w' (some rb)) (hc : c < w.heap.size) (hne : c ≠ rb) : w'.heap[c]? = w.heap[c]? := h.block c hc fun e => hne (by cases e; rfl)
/-- What is written into a new block is no step in what was there. -/
theorem Step.put {w w1 w2 : World} {rb c : Nat} {cs : Array Value} {T : TypeId} (hs : Step w w1 (some rb)) (hp : Put w1 w2 c cs T) (hc : w.heap.size ≤ c) : Step w w2 (some rb) :=
  ⟨hp.os.trans hs.os, hp.tape.trans hs.tape, hp.output.trans hs.output, by rw [hp.size]; exact hs.size, fun k hk hk' => (hp.oth k (by omega)).trans (hs.block k hk hk')⟩
end Go.My

/- Tokens: run, the kinds, silence. -/
namespace Go.Proofs.YtcldcigopkfmmaaGreatDoor
open Go.RowKit Go.My

/-- A text. -/
def bs (l : List UInt8) : ByteArray := ⟨l.toArray⟩
theorem bs_size (l : List UInt8) : (bs l).size = l.length := by simp [bs, ByteArray.size]
theorem bs_list (l : List UInt8) : (bs l).data.toList = l := by simp [bs]
theorem bs_of (s : ByteArray) : s = bs s.data.toList := by cases s; simp [bs]

theorem drop_run (p : UInt8 → Bool) (l : List UInt8) : l.dropWhile p = l.drop (To.run p l) := by
  induction l with
  | nil => rfl
  | cons c l ih =>
    unfold To.run
    rw [List.dropWhile_cons]
    by_cases h : p c = true
    · rw [if_pos h, if_pos h, List.drop_succ_cons, ih]
    · rw [if_neg h, if_neg h, List.drop_zero]

/-- A cutset, and what it is of. -/
structure Cut (cs : List UInt8) (p : UInt8 → Bool) : Prop where
  ascii : ∀ (j : Nat) b, cs[j]? = some b → b.toNat < 128
  is : ∀ c, cs.contains c = p c
  small : cs.length < 1000

theorem trim_t {w : World} {cs : List UInt8} {p : UInt8 → Bool} (hc : Cut cs p) (l : List UInt8) {Q : Ending → World → Prop} (h : ∀ w', Below w.heap.size w w' → Q (.returned (.string (bs (l.drop (To.run p l))))) w') :
    Calls Tryz.prog 145 #[.string (bs l), .string (bs cs)] w Q := by
  have hcon := Any.strings_TrimLeft_laid Tryz.lays161 (by kernel_rfl) (bs l) (bs cs) w (by rw [bs_size]; have := hc.small; omega) (by rw [bs_list]; exact hc.ascii)
  refine Calls.mono (P := Tryz.prog) (f := 145) hcon ?_
  rintro e w' ⟨rfl, hB⟩
  have e1 : (⟨(Lib.trimLeftS (bs l).data.toList (bs cs).data.toList).toArray⟩ : ByteArray) = bs (l.drop (To.run p l)) := by
    rw [bs_list, bs_list]
    unfold Lib.trimLeftS
    have : (fun x => cs.contains x) = p := funext hc.is
    rw [this, drop_run]; rfl
  rw [e1]
  exact h w' hB

set_option maxHeartbeats 1000000 in
theorem run_t {w : World} {cs : List UInt8} {p : UInt8 → Bool} (hc : Cut cs p) (l : List UInt8) (hl : l.length ≤ 9223372036854775807) {Q : Ending → World → Prop} (h : ∀ w', Below w.heap.size w w' → Q (.returned (.int .i64 (To.run p l : Nat))) w') :
    Calls Tryz.prog 120 #[.string (bs l), .string (bs cs)] w Q := by
  have H := Lib.hid h
  have hr := To.run_le p l
  have hs1 := bs_size l
  have hs2 := bs_size (l.drop (To.run p l))
  rw [List.length_drop] at hs2
  have hr1 : ((l.length - To.run p l : Nat) : Int) = (l.length : Int) - (To.run p l : Int) := by omega
  have hl1 : (l.length : Int) ≤ 9223372036854775807 := by omega
  clear h
  go_enter Tryz.func120, Tryz.ntmps120
  go_wp2_with fail
  refine trim_t hc l fun w' hB => ?_
  have HB := Lib.hid hB
  clear hB
  go_wp2_with fail
  have e : (l.length : Int) - ((l.length : Int) - (To.run p l : Int)) = (To.run p l : Int) := by omega
  have h2 := H.out w' HB.out
  rw [← e] at h2
  exact h2

def letters : List UInt8 := [97, 98, 99, 100, 101, 102, 103, 104, 105, 106, 107, 108, 109, 110, 111, 112, 113, 114, 115, 116, 117, 118, 119, 120, 121, 122, 65, 66, 67, 68, 69, 70, 71, 72, 73, 74, 75, 76, 77, 78, 79, 80, 81, 82, 83, 84, 85, 86, 87, 88, 89, 90]
def digits : List UInt8 := [48, 49, 50, 51, 52, 53, 54, 55, 56, 57]
def blanks : List UInt8 := [32, 9, 10, 13]

theorem cut_of {cs : List UInt8} {p : UInt8 → Bool} (h1 : cs.all (fun b => decide (b.toNat < 128)) = true) (h2 : (List.range 256).all (fun n => cs.contains (UInt8.ofNat n) == p (UInt8.ofNat n)) = true) (h3 : cs.length < 1000) : Cut cs p := by
  refine ⟨fun j b hj => ?_, fun c => ?_, h3⟩
  · have := List.all_eq_true.1 h1 b (List.mem_of_getElem? hj)
    simpa using this
  · have := List.all_eq_true.1 h2 c.toNat (List.mem_range.2 c.toNat_lt)
    simpa using this
set_option maxRecDepth 100000 in
theorem cutL : Cut letters To.isL := cut_of (by decide +kernel) (by decide +kernel) (by decide +kernel)
set_option maxRecDepth 100000 in
theorem cutD : Cut digits To.isD := cut_of (by decide +kernel) (by decide +kernel) (by decide +kernel)
set_option maxRecDepth 100000 in
theorem cutB : Cut blanks To.isB := cut_of (by decide +kernel) (by decide +kernel) (by decide +kernel)
set_option maxRecDepth 100000 in
theorem cutW : Cut (letters ++ digits ++ [95]) To.isW := cut_of (by decide +kernel) (by decide +kernel) (by decide +kernel)

set_option maxHeartbeats 1000000 in
theorem word_t {w : World} (l : List UInt8) (hl : l.length ≤ 9223372036854775807) {Q : Ending → World → Prop} (h : ∀ w', Below w.heap.size w w' → Q (.returned (.int .i64 (To.word l : Nat))) w') :
    Calls Tryz.prog 122 #[.string (bs l)] w Q := by
  have H := Lib.hid h
  clear h
  by_cases h0 : To.run To.isL l = 0
  · have e : To.word l = 0 := by unfold To.word; rw [if_pos h0]
    rw [e] at H
    have HZ := Lib.hid h0
    clear h0 e
    go_enter Tryz.func122, Tryz.ntmps122
    go_wp2_with fail
    refine run_t cutL l hl fun w' hB => ?_
    rw [HZ.out]
    have HB := Lib.hid hB
    clear hB
    go_wp2_with fail
    exact H.out w' HB.out
  · have e : To.word l = To.run To.isW l := by unfold To.word; rw [if_neg h0]
    rw [e] at H
    obtain ⟨n, hn⟩ : ∃ n, n = To.run To.isL l := ⟨_, rfl⟩
    rw [← hn] at h0
    have h1 : ((n : Int) == 0) = false := by simp; omega
    have HN := Lib.hid hn
    clear h0 e hn
    go_enter Tryz.func122, Tryz.ntmps122
    go_wp2_with fail
    refine run_t cutL l hl fun w' hB => ?_
    rw [← HN.out]
    have HB := Lib.hid hB
    clear hB
    go_wp2_with fail
    refine run_t cutW l hl fun w2 hB2 => ?_
    have HB2 := Lib.hid (HB.out.trans (hB2.mono HB.out.size))
    clear hB2
    go_wp2_with fail
    exact H.out w2 HB2.out

set_option maxHeartbeats 1000000 in
theorem number_t {w : World} (l : List UInt8) (hl : l.length ≤ 9223372036854775807) {Q : Ending → World → Prop} (h : ∀ w', Below w.heap.size w w' → Q (.returned (.int .i64 (To.number l : Nat))) w') :
    Calls Tryz.prog 123 #[.string (bs l)] w Q := by
  have H := Lib.hid h
  clear h
  go_enter Tryz.func123, Tryz.ntmps123
  go_wp2_with fail
  refine run_t cutD l hl fun w' hB => ?_
  have HB := Lib.hid hB
  clear hB
  go_wp2_with fail
  exact H.out w' HB.out
end Go.Proofs.YtcldcigopkfmmaaGreatDoor

/- Tokens: the signs, the table of kinds, silence. -/
namespace Go.To
def pre2 (x y : UInt8) (l : List UInt8) : Bool := l.head? == some x && l.tail.head? == some y
theorem sign_pre (l : List UInt8) : sign l = if pre2 61 61 l || pre2 33 61 l || pre2 60 61 l then 2 else if l.any (fun _ => true) && (l.head?.map isS).getD false then 1 else 0 := by
  cases l with
  | nil => rfl
  | cons c r =>
    rw [sign_cons]
    have hc : ∀ n : Nat, n < 256 → ((c == UInt8.ofNat n) = decide (c.toNat = n)) := fun n hn => by
      rw [Bool.eq_iff_iff]; simp
      constructor
      · rintro rfl; simp; omega
      · intro h; rw [← h]; simp
    have e1 : pre2 61 61 (c :: r) = (decide (c.toNat = 61) && decide (r.head? = some 61)) := by
      unfold pre2; rw [show (61 : UInt8) = UInt8.ofNat 61 from rfl]; simp only [List.head?_cons, List.tail_cons]
      rw [← hc 61 (by decide)]; congr 1; rw [Bool.eq_iff_iff]; simp
    have e2 : pre2 33 61 (c :: r) = (decide (c.toNat = 33) && decide (r.head? = some 61)) := by
      unfold pre2; simp only [List.head?_cons, List.tail_cons]
      rw [← hc 33 (by decide)]; congr 1; rw [Bool.eq_iff_iff]; simp
    have e3 : pre2 60 61 (c :: r) = (decide (c.toNat = 60) && decide (r.head? = some 61)) := by
      unfold pre2; simp only [List.head?_cons, List.tail_cons]
      rw [← hc 60 (by decide)]; congr 1; rw [Bool.eq_iff_iff]; simp
    rw [e1, e2, e3]
    by_cases h1 : r.head? = some 61
    · simp [h1, or_assoc]
    · simp [h1]
end Go.To
namespace Go.Proofs.YtcldcigopkfmmaaGreatDoor
open Go.RowKit Go.My

theorem ix_s (l : List UInt8) (k : IntKind) (i : Nat) {z : Int} (hz : z = (i : Int)) (h : i < l.length) : ∀ wx, (Instr.index 9 (.string (bs l)) (.int k z)).run Tryz.prog wx = .ok (.int .u8 ((l[i]).toNat : Int)) wx := by
  intro wx
  subst hz
  have hs := bs_size l
  rw [run_index_string (P := Tryz.prog) wx 9 (bs l) k (i : Int) Tryz.underlying9, dif_pos ⟨by omega, by omega⟩]
  congr 3

theorem bs_drop (l : List UInt8) (k : Nat) : (bs l).extract k (bs l).size = bs (l.drop k) := by
  rw [bs_of ((bs l).extract k (bs l).size), Lib.extract_to_end, bs_list]
theorem bs_cut (l : List UInt8) (k j : Nat) : (bs l).extract k j = bs ((l.drop k).take (j - k)) := by
  rw [bs_of ((bs l).extract k j), Lib.extract_data, bs_list]

theorem sl_s (l : List UInt8) (kl : IntKind) (k : Nat) {z : Int} (hz : z = (k : Int)) (h : k ≤ l.length) : ∀ wx, (Instr.slice 9 (.string (bs l)) (some (.int kl z)) none none).run Tryz.prog wx = .ok (.string (bs (l.drop k))) wx := by
  intro wx
  subst hz
  have hs := bs_size l
  rw [run_slice_string_l wx 9 (bs l) Tryz.underlying9 kl (k : Int) (by omega) (by omega), Int.toNat_natCast, bs_drop]

/-- IndexByte, at a text. -/
theorem idx_t {w : World} (l : List UInt8) (c : UInt8) {ci : Int} (hc : ci = (c.toNat : Int)) {Q : Ending → World → Prop} (h : Q (.returned (.int .i64 (Lib.indexByte l c))) w) : Calls Tryz.prog 121 #[.string (bs l), .int .u8 ci] w Q := by
  subst hc
  refine Calls.mono (Tryz.strings_IndexByte (bs l) (c.toNat : Int) w) ?_
  rintro e w' ⟨rfl, rfl⟩
  have e1 : ((c.toNat : Int)).toNat.toUInt8 = c := by simp
  rw [bs_list, e1]
  exact h
theorem idx_pos (l : List UInt8) (c : UInt8) : -1 ≤ Lib.indexByte l c ∧ (0 ≤ Lib.indexByte l c ↔ c ∈ l) ∧ Lib.indexByte l c < l.length := by
  induction l with
  | nil => simp [Lib.indexByte]
  | cons b l ih =>
    unfold Lib.indexByte
    by_cases h : b == c
    · rw [if_pos h]
      have : b = c := by simpa using h
      simp [this]
    · rw [if_neg h]
      have hne : c ≠ b := fun e => h (by simp [e])
      by_cases h2 : Lib.indexByte l c == -1
      · rw [if_pos h2]
        have h3 : Lib.indexByte l c = -1 := by simpa using h2
        have : c ∉ l := fun hm => by have := ih.2.1.2 hm; omega
        simp [hne, this]; omega
      · rw [if_neg h2]
        have h3 : Lib.indexByte l c ≠ -1 := fun e => h2 (by simp [e])
        have h4 : 0 ≤ Lib.indexByte l c := by have := ih.1; omega
        have h5 := ih.2.1.1 h4
        have h6 := ih.2.2
        simp [h5]; omega

theorem has_t {w : World} (l : List UInt8) (x y : UInt8) {Q : Ending → World → Prop} (h : Q (.returned (.bool (To.pre2 x y l))) w) : Calls Tryz.prog 125 #[.string (bs l), .string (bs [x, y])] w Q := by
  refine Calls.mono (Tryz.strings_HasPrefix (bs l) (bs [x, y]) w) ?_
  rintro e w' ⟨rfl, rfl⟩
  have e1 : Lib.hasPrefix (bs l).data.toList (bs [x, y]).data.toList = To.pre2 x y l := by
    rw [bs_list, bs_list]
    unfold Lib.hasPrefix To.pre2
    cases l with
    | nil => rfl
    | cons c r => cases r with
      | nil => simp [List.isPrefixOf]
      | cons d r => simp [List.isPrefixOf]; rw [Bool.eq_iff_iff]; simp; exact ⟨fun ⟨a, b⟩ => ⟨a.symm, b.symm⟩, fun ⟨a, b⟩ => ⟨a.symm, b.symm⟩⟩
  rw [e1]
  exact h

def signs : List UInt8 := [43, 45, 42, 47, 94, 40, 41, 91, 93, 44, 59, 123, 125, 61, 60]
theorem signs_is (c : UInt8) : c ∈ signs ↔ To.isS c = true := by
  have h : (List.range 256).all (fun n => signs.contains (UInt8.ofNat n) == To.isS (UInt8.ofNat n)) = true := by decide +kernel
  have := List.all_eq_true.1 h c.toNat (List.mem_range.2 c.toNat_lt)
  have e : signs.contains c = To.isS c := by simpa using this
  rw [← e]; simp

set_option maxHeartbeats 2000000 in
theorem sign_t {w : World} (l : List UInt8) (hl : l.length ≤ 9223372036854775807) {Q : Ending → World → Prop} (h : Q (.returned (.int .i64 (To.sign l : Nat))) w) :
    Calls Tryz.prog 124 #[.string (bs l)] w Q := by
  have H := Lib.hid h
  clear h
  obtain ⟨p1, h1⟩ : ∃ p, p = To.pre2 61 61 l := ⟨_, rfl⟩
  obtain ⟨p2, h2⟩ : ∃ p, p = To.pre2 33 61 l := ⟨_, rfl⟩
  obtain ⟨p3, h3⟩ : ∃ p, p = To.pre2 60 61 l := ⟨_, rfl⟩
  have hsp := To.sign_pre l
  rw [← h1, ← h2, ← h3] at hsp
  have HP := Lib.hid (And.intro h1.symm (And.intro h2.symm h3.symm))
  clear h1 h2 h3
  cases p1 with
  | true =>
    have e : To.sign l = 2 := by rw [hsp]; simp
    rw [e] at H
    clear e hsp
    go_enter Tryz.func124, Tryz.ntmps124
    go_wp2_with fail
    refine has_t l 61 61 ?_
    rw [HP.out.1]
    go_wp2_with fail
    exact H.out
  | false =>
    cases p2 with
    | true =>
      have e : To.sign l = 2 := by rw [hsp]; simp
      rw [e] at H
      clear e hsp
      go_enter Tryz.func124, Tryz.ntmps124
      go_wp2_with fail
      refine has_t l 61 61 ?_
      rw [HP.out.1]
      go_wp2_with fail
      refine has_t l 33 61 ?_
      rw [HP.out.2.1]
      go_wp2_with fail
      exact H.out
    | false =>
      cases p3 with
      | true =>
        have e : To.sign l = 2 := by rw [hsp]; simp
        rw [e] at H
        clear e hsp
        go_enter Tryz.func124, Tryz.ntmps124
        go_wp2_with fail
        refine has_t l 61 61 ?_
        rw [HP.out.1]
        go_wp2_with fail
        refine has_t l 33 61 ?_
        rw [HP.out.2.1]
        go_wp2_with fail
        refine has_t l 60 61 ?_
        rw [HP.out.2.2]
        go_wp2_with fail
        exact H.out
      | false =>
        clear hsp
        go_enter Tryz.func124, Tryz.ntmps124
        go_wp2_with fail
        refine has_t l 61 61 ?_
        rw [HP.out.1]
        go_wp2_with fail
        refine has_t l 33 61 ?_
        rw [HP.out.2.1]
        go_wp2_with fail
        refine has_t l 60 61 ?_
        rw [HP.out.2.2]
        cases l with
        | nil =>
          have e : To.sign [] = 0 := rfl
          rw [e] at H
          have hem : (bs []).toList = [] := by rw [ByteArray.toList_eq, bs_list]
          go_wp2_with fail
          exact H.out
        | cons c r =>
          have hix := ix_s (c :: r) .i64 0 (z := 0) rfl (by simp)
          have hne : (bs (c :: r)).toList.isEmpty = false := by rw [ByteArray.toList_eq, bs_list]; rfl
          have hsg : To.sign (c :: r) = if To.isS c = true then 1 else 0 := by
            rw [To.sign_pre, HP.out.1, HP.out.2.1, HP.out.2.2]; simp
          rw [hsg] at H
          clear hsg
          have hi := idx_pos signs c
          rw [signs_is] at hi
          by_cases hs : To.isS c = true
          · rw [if_pos hs] at H
            have hn := hi.2.1.2 hs
            have hn2 := hi.2.2
            obtain ⟨n, he⟩ : ∃ n, n = Lib.indexByte signs c := ⟨_, rfl⟩
            rw [← he] at hn hn2
            have HE := Lib.hid he
            clear hi he hs
            go_wp2_with fail
            refine idx_t signs c rfl ?_
            rw [← HE.out]
            go_wp2_with fail
            exact H.out
          · rw [if_neg hs] at H
            have hn : Lib.indexByte signs c < 0 := by rcases Int.lt_or_le (Lib.indexByte signs c) 0 with h | h; exact h; exact absurd (hi.2.1.1 h) hs
            obtain ⟨n, he⟩ : ∃ n, n = Lib.indexByte signs c := ⟨_, rfl⟩
            rw [← he] at hn
            have HE := Lib.hid he
            clear hi he hs
            go_wp2_with fail
            refine idx_t signs c rfl ?_
            rw [← HE.out]
            go_wp2_with fail
            exact H.out
end Go.Proofs.YtcldcigopkfmmaaGreatDoor

/- Tokens: the table of kinds. -/
namespace Go.Proofs.YtcldcigopkfmmaaGreatDoor
open Go.RowKit Go.My

theorem kinds_t {w : World} {Q : Ending → World → Prop} (h : ∀ w', Below w.heap.size w w' → Q (.returned (.agg #[.int .u8 1, .func (.func 122) #[] #[], .int .u8 2, .func (.func 123) #[] #[], .int .u8 3, .func (.func 124) #[] #[]])) w') :
    Calls Tryz.prog 68 #[] w Q := by
  have H := Lib.hid h
  clear h
  go_enter Tryz.func68, Tryz.ntmps68
  go_wp2_with fail
  exact bodyPost_ret (v := .agg #[.int .u8 1, .func (.func 122) #[] #[], .int .u8 2, .func (.func 123) #[] #[], .int .u8 3, .func (.func 124) #[] #[]]) (by simp [results, Tryz.results68, go_sem]) rfl (H.out _ ((Below.refl _ w).alloc (Nat.le_refl _) _))

theorem kix (wx : World) : (Instr.index 83 (.agg #[.int .u8 1, .func (.func 122) #[] #[], .int .u8 2, .func (.func 123) #[] #[], .int .u8 3, .func (.func 124) #[] #[]]) (.int .i64 0)).run Tryz.prog wx = .ok (.agg #[.int .u8 1, .func (.func 122) #[] #[]]) wx ∧
    (Instr.index 83 (.agg #[.int .u8 1, .func (.func 122) #[] #[], .int .u8 2, .func (.func 123) #[] #[], .int .u8 3, .func (.func 124) #[] #[]]) (.int .i64 1)).run Tryz.prog wx = .ok (.agg #[.int .u8 2, .func (.func 123) #[] #[]]) wx ∧
    (Instr.index 83 (.agg #[.int .u8 1, .func (.func 122) #[] #[], .int .u8 2, .func (.func 123) #[] #[], .int .u8 3, .func (.func 124) #[] #[]]) (.int .i64 2)).run Tryz.prog wx = .ok (.agg #[.int .u8 3, .func (.func 124) #[] #[]]) wx := ⟨by kernel_rfl, by kernel_rfl, by kernel_rfl⟩

theorem kfield (wx : World) : (Instr.field 82 (.agg #[.int .u8 1, .func (.func 122) #[] #[]]) 1).run Tryz.prog wx = .ok (.func (.func 122) #[] #[]) wx := by kernel_rfl

end Go.Proofs.YtcldcigopkfmmaaGreatDoor

/- Tokens: Name. -/
namespace Go.Proofs.YtcldcigopkfmmaaGreatDoor
open Go.RowKit Go.My

theorem contains_own (l : List UInt8) : Lib.containsS (To.own.map bs) (bs l) = To.own.contains l := by
  rw [Bool.eq_iff_iff, Lib.containsS_iff]
  simp only [List.mem_map, List.contains_iff_mem]
  constructor
  · rintro ⟨x, hx, he⟩
    have := congrArg (fun s : ByteArray => s.data.toList) he
    simp only [bs_list] at this
    rw [← this]; exact hx
  · intro h; exact ⟨l, h, rfl⟩

theorem own_t {w : World} (l : List UInt8) {Q : Ending → World → Prop} (h : Q (.returned (.bool (To.own.contains l))) (w.alloc (.cells #[.string (bs [102, 110]), .string (bs [105, 102]), .string (bs [101, 108, 115, 101]), .string (bs [119, 104, 105, 108, 101]), .string (bs [114, 101, 116, 117, 114, 110]), .string (bs [116, 101, 108, 108]), .string (bs [110, 111, 116])] 9))) :
    Calls Tryz.prog 163 #[.slice (some ⟨w.heap.size, 0, none⟩) 7 7, .string (bs l)] (w.alloc (.cells #[.string (bs [102, 110]), .string (bs [105, 102]), .string (bs [101, 108, 115, 101]), .string (bs [119, 104, 105, 108, 101]), .string (bs [114, 101, 116, 117, 114, 110]), .string (bs [116, 101, 108, 108]), .string (bs [110, 111, 116])] 9)) Q := by
  refine Calls.mono (Tryz.slices_Contains_string w.heap.size 0 7 7 (To.own.map bs) (bs l) _ (by decide) (by decide) (fun j hj => ?_)) ?_
  · rw [cell_of_row _ w.heap.size (0 + j) _ 9 (0, 0) (_root_.Go.heap_alloc_new w _)]
    have hj7 : j < 7 := hj
    match j, hj7 with
    | 0, _ => rfl
    | 1, _ => rfl
    | 2, _ => rfl
    | 3, _ => rfl
    | 4, _ => rfl
    | 5, _ => rfl
    | 6, _ => rfl
  · rintro e w' ⟨rfl, rfl⟩
    rw [show (To.own.map bs).take 7 = To.own.map bs from rfl, contains_own]
    exact h

set_option maxHeartbeats 1000000 in
theorem name_t {w : World} (l : List UInt8) (hl : l.length ≤ 9223372036854775807) {Q : Ending → World → Prop} (h : ∀ w', Below w.heap.size w w' → Q (.returned (.bool (To.name l))) w') :
    Calls Tryz.prog 151 #[.string (bs l)] w Q := by
  have H := Lib.hid h
  clear h
  have hB0 := Lib.hid ((Below.refl w.heap.size w).alloc (Nat.le_refl _) (.cells #[.string (bs [102, 110]), .string (bs [105, 102]), .string (bs [101, 108, 115, 101]), .string (bs [119, 104, 105, 108, 101]), .string (bs [114, 101, 116, 117, 114, 110]), .string (bs [116, 101, 108, 108]), .string (bs [110, 111, 116])] 9))
  obtain ⟨b, hb⟩ : ∃ b, b = To.own.contains l := ⟨_, rfl⟩
  have HBo := Lib.hid hb
  cases b with
  | true =>
    have e : To.name l = false := by unfold To.name; rw [← hb]; rfl
    rw [e] at H
    clear e hb
    go_enter Tryz.func151, Tryz.ntmps151
    go_wp2_with fail
    refine own_t l ?_
    rw [← HBo.out]
    go_wp2_with fail
    exact H.out _ hB0.out
  | false =>
    cases l with
    | nil =>
      have e : To.name [] = false := rfl
      rw [e] at H
      have hem : (bs []).toList = [] := by rw [ByteArray.toList_eq, bs_list]
      clear e hb
      go_enter Tryz.func151, Tryz.ntmps151
      go_wp2_with fail
      refine own_t [] ?_
      rw [← HBo.out]
      go_wp2_with fail
      exact H.out _ hB0.out
    | cons c r =>
      have hne : (bs (c :: r)).toList.isEmpty = false := by rw [ByteArray.toList_eq, bs_list]; rfl
      have e : To.name (c :: r) = (To.word (c :: r) == (c :: r).length) := by unfold To.name; rw [← hb]; simp
      rw [e] at H
      have hsz := bs_size (c :: r)
      obtain ⟨n, hn⟩ : ∃ n, n = (c :: r).length := ⟨_, rfl⟩
      rw [← hn] at hsz hl H
      obtain ⟨x, hx⟩ : ∃ x, x = To.word (c :: r) := ⟨_, rfl⟩
      have hdec : (To.word (c :: r) == n) = decide ((x : Int) = (n : Int)) := by rw [← hx, Bool.eq_iff_iff]; simp; omega
      rw [hdec] at H
      have HN := Lib.hid (And.intro hn hx)
      clear e hb hn hx hdec
      go_enter Tryz.func151, Tryz.ntmps151
      go_wp2_with fail
      refine own_t (c :: r) ?_
      rw [← HBo.out]
      have hk0 := fun wx => (kix wx).1
      have hk1 := fun wx => kfield wx
      go_wp2_with fail
      refine kinds_t fun w1 hB1 => ?_
      have HB1 := Lib.hid (hB0.out.trans (hB1.mono hB0.out.size))
      clear hB1
      go_wp2_with fail
      refine word_t (c :: r) (by rw [← HN.out.1]; exact hl) fun w2 hB2 => ?_
      have HB2 := Lib.hid (HB1.out.trans (hB2.mono HB1.out.size))
      clear hB2
      rw [← HN.out.2]
      go_wp2_with fail
      exact H.out _ HB2.out
end Go.Proofs.YtcldcigopkfmmaaGreatDoor

/- Tokens: the reference's words and names; the walk of TokensNames. -/
namespace Go.To
theorem word_zero (l : List UInt8) (h : l = [] ∨ ∃ c r, l = c :: r ∧ isL c = false) : word l = 0 := by
  rcases h with rfl | ⟨c, r, rfl, h⟩
  · rfl
  · unfold word; rw [if_pos]; unfold run; rw [if_neg (by simp [h])]
theorem word_one (c : UInt8) (r : List UInt8) (h : isL c = true) : word (c :: r) = 1 + run isW r := by
  have hw : isW c = true := by unfold isW; rw [h]; rfl
  unfold word
  rw [if_neg (by unfold run; rw [if_pos h]; omega)]
  conv => lhs; unfold run
  rw [if_pos hw]; omega
theorem run_cons (p : UInt8 → Bool) (c : UInt8) (r : List UInt8) : run p (c :: r) = if p c then run p r + 1 else 0 := rfl
end Go.To
namespace Go.Proofs.YtcldcigopkfmmaaGreatDoor
open Go.RowKit Go.My

theorem isL_of (c : UInt8) : (97 ≤ c.toNat ∧ c.toNat ≤ 122 → To.isL c = true) ∧ (65 ≤ c.toNat ∧ c.toNat ≤ 90 → To.isL c = true) ∧ (c.toNat < 65 → To.isL c = false) ∧ (90 < c.toNat ∧ c.toNat < 97 → To.isL c = false) ∧ (122 < c.toNat → To.isL c = false) := by
  unfold To.isL
  simp
  omega

set_option maxHeartbeats 1000000 in
theorem letter_t {w : World} (c : UInt8) {ci : Int} (hci : ci = (c.toNat : Int)) {Q : Ending → World → Prop} (h : Q (.returned (.bool (To.isL c))) w) : Calls Tryz.prog 69 #[.int .u8 ci] w Q := by
  subst hci
  have H := Lib.hid h
  obtain ⟨l1, l2, l3, l4, l5⟩ := isL_of c
  have hx := c.toNat_lt
  clear h
  by_cases h1 : c.toNat < 65
  · rw [l3 h1] at H
    generalize c.toNat = x at *
    have j1 : (x : Int) < 65 := by omega
    have j2 : (x : Int) < 97 := by omega
    clear l1 l2 l3 l4 l5 h1 hx
    go_enter Tryz.func69, Tryz.ntmps69
    go_wp2_with fail
    exact H.out
  by_cases h2 : c.toNat ≤ 90
  · rw [l2 ⟨by omega, h2⟩] at H
    generalize c.toNat = x at *
    have j1 : (65 : Int) ≤ (x : Int) := by omega
    have j2 : (x : Int) ≤ 90 := by omega
    have j3 : (x : Int) < 97 := by omega
    clear l1 l2 l3 l4 l5 h1 hx h2
    go_enter Tryz.func69, Tryz.ntmps69
    go_wp2_with fail
    exact H.out
  by_cases h3 : c.toNat < 97
  · rw [l4 ⟨by omega, h3⟩] at H
    generalize c.toNat = x at *
    have j1 : (90 : Int) < (x : Int) := by omega
    have j2 : (65 : Int) ≤ (x : Int) := by omega
    have j3 : (x : Int) < 97 := by omega
    have d1 : decide ((x : Int) ≤ 90) = false := by simp; omega
    clear l1 l2 l3 l4 l5 h1 hx h2 h3
    go_enter Tryz.func69, Tryz.ntmps69
    go_wp2_with fail
    exact H.out
  by_cases h4 : c.toNat ≤ 122
  · rw [l1 ⟨by omega, h4⟩] at H
    generalize c.toNat = x at *
    have j1 : (97 : Int) ≤ (x : Int) := by omega
    have j2 : (x : Int) ≤ 122 := by omega
    clear l1 l2 l3 l4 l5 h1 hx h2 h3 h4
    go_enter Tryz.func69, Tryz.ntmps69
    go_wp2_with fail
    exact H.out
  · rw [l5 (by omega)] at H
    generalize c.toNat = x at *
    have j1 : (122 : Int) < (x : Int) := by omega
    have j2 : (97 : Int) ≤ (x : Int) := by omega
    have j3 : (90 : Int) < (x : Int) := by omega
    have j4 : (65 : Int) ≤ (x : Int) := by omega
    have d1 : decide ((x : Int) ≤ 90) = false := by simp; omega
    have d2 : decide ((x : Int) ≤ 122) = false := by simp; omega
    clear l1 l2 l3 l4 l5 h1 hx h2 h3 h4
    go_enter Tryz.func69, Tryz.ntmps69
    go_wp2_with fail
    exact H.out

theorem isD_of (c : UInt8) : (48 ≤ c.toNat ∧ c.toNat ≤ 57 → To.isD c = true) ∧ (c.toNat < 48 → To.isD c = false) ∧ (57 < c.toNat → To.isD c = false) := by
  unfold To.isD
  simp
  omega

set_option maxHeartbeats 1000000 in
theorem digit_t {w : World} (c : UInt8) {ci : Int} (hci : ci = (c.toNat : Int)) {Q : Ending → World → Prop} (h : Q (.returned (.bool (To.isD c))) w) : Calls Tryz.prog 70 #[.int .u8 ci] w Q := by
  subst hci
  have H := Lib.hid h
  obtain ⟨l1, l2, l3⟩ := isD_of c
  have hx := c.toNat_lt
  clear h
  by_cases h1 : c.toNat < 48
  · rw [l2 h1] at H
    generalize c.toNat = x at *
    have j1 : (x : Int) < 48 := by omega
    clear l1 l2 l3 h1 hx
    go_enter Tryz.func70, Tryz.ntmps70
    go_wp2_with fail
    exact H.out
  by_cases h2 : c.toNat ≤ 57
  · rw [l1 ⟨by omega, h2⟩] at H
    generalize c.toNat = x at *
    have j1 : (48 : Int) ≤ (x : Int) := by omega
    have j2 : (x : Int) ≤ 57 := by omega
    clear l1 l2 l3 h1 hx h2
    go_enter Tryz.func70, Tryz.ntmps70
    go_wp2_with fail
    exact H.out
  · rw [l3 (by omega)] at H
    generalize c.toNat = x at *
    have j1 : (48 : Int) ≤ (x : Int) := by omega
    have j2 : (57 : Int) < (x : Int) := by omega
    have d1 : decide ((x : Int) ≤ 57) = false := by simp; omega
    clear l1 l2 l3 h1 hx h2
    go_enter Tryz.func70, Tryz.ntmps70
    go_wp2_with fail
    exact H.out

def WordAt (w : World) (l : List UInt8) (gk : Nat) (vn : Value) (wr : World) : Prop :=
  ∃ n : Nat, n ≤ l.length ∧ gk = l.length - n ∧ vn = .int .i64 (n : Int) ∧ (n = 0 ∨ To.word l = n + To.run To.isW (l.drop n)) ∧ w = wr

theorem word_step {l : List UInt8} {n : Nat} {c : UInt8} {r : List UInt8} (h : n = 0 ∨ To.word l = n + To.run To.isW (l.drop n)) (hd : l.drop n = c :: r) (hc : To.isL c = true ∨ (0 < n ∧ To.isW c = true)) : To.word l = (n + 1) + To.run To.isW (l.drop (n + 1)) := by
  have hr : l.drop (n + 1) = r := by rw [← List.drop_drop, hd]; rfl
  rw [hr]
  rcases Nat.eq_zero_or_pos n with h0 | h0
  · subst h0
    rcases hc with hc | hc
    · rw [List.drop_zero] at hd; rw [hd, To.word_one c r hc]
    · omega
  · have hw : To.isW c = true := by
      rcases hc with hc | hc
      · unfold To.isW; rw [hc]; rfl
      · exact hc.2
    rcases h with h | h
    · omega
    · rw [h, hd, To.run_cons, if_pos hw]; omega
theorem word_done {l : List UInt8} {n : Nat} (h : n = 0 ∨ To.word l = n + To.run To.isW (l.drop n)) (hd : l.drop n = [] ∨ ∃ c r, l.drop n = c :: r ∧ To.isL c = false ∧ (n = 0 ∨ To.isW c = false)) : To.word l = n := by
  rcases Nat.eq_zero_or_pos n with h0 | h0
  · subst h0
    rw [List.drop_zero] at hd
    refine To.word_zero l ?_
    rcases hd with hd | ⟨c, r, h1, h2, _⟩
    · exact .inl hd
    · exact .inr ⟨c, r, h1, h2⟩
  · rcases h with h | h
    · omega
    · rw [h]
      rcases hd with hd | ⟨c, r, h1, h2, h3⟩
      · rw [hd]; rfl
      · rw [h1, To.run_cons, if_neg (by rcases h3 with h3 | h3; omega; simp [h3])]; rfl

set_option maxHeartbeats 4000000 in
theorem refword_t {w : World} (l : List UInt8) (hl : l.length ≤ 9223372036854775807) {Q : Ending → World → Prop} (h : Q (.returned (.int .i64 (To.word l : Nat))) w) :
    Calls Tryz.prog 16 #[.string (bs l)] w Q := by
  have H := Lib.hid h
  have hs0 := bs_size l
  have hl1 : (l.length : Int) ≤ 9223372036854775807 := by omega
  clear h
  go_enter Tryz.func16, Tryz.ntmps16
  go_wp2_with fail
  go_loopg [3] l.length (fun gk vn wr => WordAt w l gk vn wr)
  case atStart => exact ⟨0, Nat.zero_le _, rfl, rfl, .inl rfl, rfl⟩
  case round =>
    obtain ⟨n, hn, rfl, rfl, hw, rfl⟩ := hrel
    have HW := Lib.hid hw
    have n0 : (0 : Int) ≤ (n : Int) := by omega
    clear hw
    by_cases hlt : n < l.length
    · have hei : (n : Int) < (l.length : Int) := by omega
      have hix := ix_s l .i64 n (z := (n : Int)) rfl hlt
      have hd := List.drop_eq_getElem_cons hlt
      generalize l[n] = c at *
      have HD := Lib.hid hd
      clear hd
      cases hL : To.isL c with
      | true =>
        have X := Lib.hid (word_step HW.out HD.out (.inl hL))
        have HL := Lib.hid hL
        clear hL
        go_wp2_with fail
        refine letter_t c rfl ?_
        rw [HL.out]
        go_wp2_with fail
        go_roundg (l.length - (n + 1))
        case measure => omega
        case rel => exact ⟨n + 1, hlt, rfl, by go_num, .inr X.out, rfl⟩
      | false =>
        by_cases hz : n = 0
        · have X := Lib.hid (word_done HW.out (.inr ⟨c, _, HD.out, hL, .inl hz⟩))
          have HL := Lib.hid hL
          have hz1 : (n : Int) ≤ 0 := by omega
          clear hL hz
          go_wp2_with fail
          refine letter_t c rfl ?_
          rw [HL.out]
          have h2 := Lib.hid H.out
          rw [X.out] at h2
          go_wp2_with fail
          exact h2.out
        · have hz1 : (0 : Int) < (n : Int) := by omega
          have hz2 : 0 < n := by omega
          clear hz
          cases hD : To.isD c with
          | true =>
            have X := Lib.hid (word_step HW.out HD.out (.inr ⟨hz2, by unfold To.isW; rw [hL, hD]; rfl⟩))
            have HL := Lib.hid (And.intro hL hD)
            clear hL hD
            go_wp2_with fail
            refine letter_t c rfl ?_
            rw [HL.out.1]
            go_wp2_with fail
            refine digit_t c rfl ?_
            rw [HL.out.2]
            go_wp2_with fail
            go_roundg (l.length - (n + 1))
            case measure => omega
            case rel => exact ⟨n + 1, hlt, rfl, by go_num, .inr X.out, rfl⟩
          | false =>
            by_cases h95 : c.toNat = 95
            · have X := Lib.hid (word_step HW.out HD.out (.inr ⟨hz2, by unfold To.isW; rw [hL, hD, h95]; rfl⟩))
              have HL := Lib.hid (And.intro hL hD)
              have h951 : (c.toNat : Int) = 95 := by omega
              clear hL hD h95
              go_wp2_with fail
              refine letter_t c h951.symm ?_
              rw [HL.out.1]
              go_wp2_with fail
              refine digit_t c h951.symm ?_
              rw [HL.out.2]
              go_wp2_with fail
              go_roundg (l.length - (n + 1))
              case measure => omega
              case rel => exact ⟨n + 1, hlt, rfl, by go_num, .inr X.out, rfl⟩
            · have X := Lib.hid (word_done HW.out (.inr ⟨c, _, HD.out, hL, .inr (by unfold To.isW; rw [hL, hD]; simp [h95])⟩))
              have HL := Lib.hid (And.intro hL hD)
              have h951 : ((c.toNat : Int) == 95) = false := by simp; omega
              clear hL hD h95
              go_wp2_with fail
              refine letter_t c rfl ?_
              rw [HL.out.1]
              go_wp2_with fail
              refine digit_t c rfl ?_
              rw [HL.out.2]
              have h2 := Lib.hid H.out
              rw [X.out] at h2
              go_wp2_with fail
              exact h2.out
    · obtain rfl : n = l.length := by omega
      have X := Lib.hid (word_done HW.out (.inl (List.drop_length)))
      have h2 := Lib.hid H.out
      rw [X.out] at h2
      go_wp2_with fail
      exact h2.out
end Go.Proofs.YtcldcigopkfmmaaGreatDoor

/- Trees: digits without a needless nought, as the document has it. -/
namespace Go.Proofs.YtcldcigopkfmmaaGreatDoor
open Go.RowKit Go.My

theorem bs_tlp (l : List UInt8) : (bs l).toList = l := by rw [ByteArray.toList_eq, bs_list]

theorem plain_two (s : List UInt8) (hpos : 0 < s.length) (h1 : ¬ s.length = 1) (hall : s.all To.isD = true) : Nd.plain s = ((s[0]).toNat != 48) := by
  obtain ⟨c, d, r, rfl⟩ : ∃ c d r, s = c :: d :: r := by
    cases s with
    | nil => exact absurd hpos (Nat.lt_irrefl _)
    | cons c r =>
      cases r with
      | nil => exact absurd rfl h1
      | cons d r => exact ⟨c, d, r, rfl⟩
  unfold Nd.plain
  rw [hall, Bool.true_and, List.getElem_cons_zero]

def PlAt (s : List UInt8) (w : World) (gk : Nat) (v3 : Value) (wr : World) : Prop :=
  ∃ i : Nat, i ≤ s.length ∧ gk = s.length - i ∧ v3 = .int .i64 (i : Int) ∧ (s.drop i).all To.isD = s.all To.isD ∧ wr = w

set_option maxRecDepth 100000 in
set_option maxHeartbeats 4000000 in
theorem rplain_t {w : World} (s : List UInt8) (hs : s.length ≤ 9223372036854775807) {Q : Ending → World → Prop} (h : Q (.returned (.bool (Nd.plain s))) w) :
    Calls Tryz.prog 185 #[.string (bs s)] w Q := by
  have H := Lib.hid h
  have hs1 := bs_size s
  have s0 : (0 : Int) ≤ (s.length : Int) := by omega
  have s1 : (s.length : Int) ≤ 9223372036854775807 := by omega
  clear h
  go_enter Tryz.func185, Tryz.ntmps185
  go_wp2_with fail
  go_loopg [3] s.length (fun gk v3 wr => PlAt s w gk v3 wr)
  case atStart => exact ⟨0, Nat.zero_le _, rfl, rfl, rfl, rfl⟩
  case round =>
    obtain ⟨i, hi, rfl, rfl, hd, rfl⟩ := hrel
    have i0 : (0 : Int) ≤ (i : Int) := by omega
    by_cases hlt : i < s.length
    · have i1 : (i : Int) < (s.length : Int) := by omega
      have hix := ix_s s .i64 i (z := (i : Int)) rfl hlt
      have hdr := List.drop_eq_getElem_cons hlt
      generalize s[i] = c at *
      rw [hdr, List.all_cons] at hd
      have HD := Lib.hid hd
      clear hd hdr
      go_wp2_with fail
      refine digit_t c rfl ?_
      cases hc : To.isD c with
      | true =>
        have HC := Lib.hid hc
        clear hc
        go_wp2_with fail
        go_roundg (s.length - (i + 1))
        case measure => omega
        case rel => exact ⟨i + 1, hlt, rfl, by go_num, by have := HD.out; rw [HC.out, Bool.true_and] at this; exact this, rfl⟩
      | false =>
        have HC := Lib.hid hc
        clear hc
        have hp : Nd.plain s = false := by unfold Nd.plain; rw [← HD.out, HC.out]; rfl
        rw [hp] at H
        clear hp
        go_wp2_with fail
        exact H.out
    · obtain rfl : i = s.length := by omega
      have hall : s.all To.isD = true := by rw [← hd, List.drop_length]; rfl
      have e1 := bs_tlp s
      clear hlt hd hi
      by_cases hn : s = []
      · subst hn
        have hp : Nd.plain [] = false := rfl
        rw [hp] at H
        clear hp hall
        go_wp2_with fail
        exact H.out
      · have he : s.isEmpty = false := by cases s with | nil => exact absurd rfl hn | cons _ _ => rfl
        have hpos : 0 < s.length := List.length_pos_iff.2 hn
        have hpi : (0 : Int) < (s.length : Int) := by omega
        by_cases h1 : s.length = 1
        · have hp : Nd.plain s = true := by
            unfold Nd.plain; rw [hall]
            match s, h1 with
            | [_], _ => rfl
          rw [hp] at H
          obtain ⟨c, rfl⟩ : ∃ c, s = [c] := by match s, h1 with | [c], _ => exact ⟨c, rfl⟩
          have hl1 := Lib.hid h1
          clear hp hall h1 hn
          go_wp2_with fail
          exact H.out
        · have h1' : ((s.length : Int) == 1) = false := by simp; omega
          have hix := ix_s s .i64 0 (z := (0 : Int)) rfl hpos
          have hp : Nd.plain s = ((s[0]).toNat != 48) := plain_two s hpos h1 hall
          rw [hp] at H
          generalize s[0] = c at *
          by_cases hc : c.toNat = 48
          · have hcf : ((c.toNat : Int) != 48) = false := by simp [hc]
            have hcb : (c.toNat != 48) = false := by simp [hc]
            rw [hcb] at H
            clear hp hall h1 hn hc hcb
            go_wp2_with fail
            exact H.out
          · have hcf : ((c.toNat : Int) != 48) = true := by simp; omega
            have hcb : (c.toNat != 48) = true := by simp [hc]
            rw [hcb] at H
            clear hp hall h1 hn hc hcb
            go_wp2_with fail
            exact H.out
end Go.Proofs.YtcldcigopkfmmaaGreatDoor

/- Trees: digits without a needless nought. -/
namespace Go.My
theorem mem_drop (p : UInt8 → Bool) (c : UInt8) (hp : p c = false) : ∀ l : List UInt8, c ∈ l → c ∈ l.dropWhile p := by
  intro l
  induction l with
  | nil => intro h; cases h
  | cons d l ih =>
    intro h
    rw [List.dropWhile_cons]
    by_cases hd : p d = true
    · rw [if_pos hd]
      rcases List.mem_cons.1 h with rfl | h
      · rw [hp] at hd; cases hd
      · exact ih h
    · rw [if_neg hd]; exact h
theorem drop_none (p : UInt8 → Bool) : ∀ l : List UInt8, (∀ c ∈ l, p c = true) → l.dropWhile p = [] := by
  intro l
  induction l with
  | nil => intro _; rfl
  | cons d l ih => intro h; rw [List.dropWhile_cons, if_pos (h d (List.mem_cons_self ..))]; exact ih fun c hc => h c (List.mem_cons_of_mem _ hc)
theorem trim_all (l cs : List UInt8) (h : ∀ c ∈ l, cs.contains c = true) : Lib.trimS l cs = [] := by
  unfold Lib.trimS Lib.trimLeftS Lib.trimRightS
  rw [drop_none (cs.contains ·) l.reverse (fun c hc => h c (List.mem_reverse.1 hc))]; rfl
theorem trim_not (l cs : List UInt8) {c : UInt8} (hc : c ∈ l) (hn : cs.contains c = false) : Lib.trimS l cs ≠ [] := by
  intro h
  have h1 := mem_drop (cs.contains ·) c hn l.reverse (List.mem_reverse.2 hc)
  have h2 := mem_drop (cs.contains ·) c hn _ (List.mem_reverse.2 h1)
  unfold Lib.trimS Lib.trimLeftS Lib.trimRightS at h
  rw [h] at h2; cases h2
end Go.My
namespace Go.Proofs.YtcldcigopkfmmaaGreatDoor
open Go.RowKit Go.My

theorem trims_t {w : World} (l : List UInt8) (hl : l.length ≤ 9223372036854775807) {Q : Ending → World → Prop} (h : ∀ w', Below w.heap.size w w' → Q (.returned (.string (bs (Lib.trimS l digits)))) w') :
    Calls Tryz.prog 194 #[.string (bs l), .string (bs digits)] w Q := by
  have hcon := Any.strings_Trim_laid Tryz.lays160 (by kernel_rfl) (bs l) (bs digits) w (by rw [bs_size]; exact hl) (by rw [bs_size]; decide) (by rw [bs_list]; exact cutD.ascii)
  refine Calls.mono (P := Tryz.prog) (f := 194) hcon ?_
  rintro e w' ⟨rfl, hB⟩
  rw [bs_list, bs_list]
  exact h w' hB

theorem isD_in (c : UInt8) : digits.contains c = To.isD c := cutD.is c

theorem plain_zero : Nd.plain [48] = true := by decide
theorem plain_some (s : List UInt8) (hpos : 0 < s.length) (hz : s ≠ [48]) (hall : s.all To.isD = true) : Nd.plain s = ((s[0]).toNat != 48) := by
  by_cases h1 : s.length = 1
  · obtain ⟨c, rfl⟩ : ∃ c, s = [c] := by
      cases s with
      | nil => exact absurd hpos (Nat.lt_irrefl _)
      | cons c r => cases r with
        | nil => exact ⟨c, rfl⟩
        | cons d r => simp at h1
    have hc : c.toNat ≠ 48 := fun h => hz (by rw [show c = 48 from UInt8.toNat_inj.1 h])
    unfold Nd.plain
    rw [hall, Bool.true_and, List.getElem_cons_zero]
    simp [hc]
  · exact plain_two s hpos h1 hall

set_option maxRecDepth 100000 in
set_option maxHeartbeats 4000000 in
theorem plain_t {w : World} (s : List UInt8) (hs : s.length ≤ 9223372036854775807) {Q : Ending → World → Prop} (h : ∀ w', Below w.heap.size w w' → Q (.returned (.bool (Nd.plain s))) w') :
    Calls Tryz.prog 183 #[.string (bs s)] w Q := by
  have H := Lib.hid h
  have hs1 := bs_size s
  have e1 := bs_tlp s
  have e9 := bs_tlp []
  clear h
  by_cases hn : s = []
  · subst hn
    have hp : Nd.plain [] = false := rfl
    rw [hp] at H
    clear hp
    go_enter Tryz.func183, Tryz.ntmps183
    go_wp2_with fail
    exact H.out _ (Below.refl _ _)
  · have he : s.isEmpty = false := by cases s with | nil => exact absurd rfl hn | cons _ _ => rfl
    have hpos : 0 < s.length := List.length_pos_iff.2 hn
    have hpi : (0 : Int) < (s.length : Int) := by omega
    have HS := Lib.hid hs
    by_cases hall : s.all To.isD = true
    · have hr : Lib.trimS s digits = [] := trim_all s digits fun c hc => by rw [isD_in]; exact List.all_eq_true.1 hall c hc
      have HRR := Lib.hid hr
      clear hr
      by_cases hz : s = [48]
      · subst hz
        rw [plain_zero] at H
        clear hall hn
        go_enter Tryz.func183, Tryz.ntmps183
        go_wp2_with fail
        refine trims_t [48] HS.out fun w' hB => ?_
        rw [HRR.out]
        have HB := Lib.hid hB
        clear hB
        go_wp2_with fail
        exact H.out _ HB.out
      · have hix := ix_s s .i64 0 (z := (0 : Int)) rfl hpos
        have hp := plain_some s hpos hz hall
        rw [hp] at H
        have hzb : (s == [48]) = false := by simp [hz]
        generalize s[0] = c at *
        by_cases hc : c.toNat = 48
        · have hcf : ((c.toNat : Int) != 48) = false := by simp [hc]
          have hcb : (c.toNat != 48) = false := by simp [hc]
          rw [hcb] at H
          clear hp hall hn hc hcb hz
          go_enter Tryz.func183, Tryz.ntmps183
          go_wp2_with fail
          refine trims_t s HS.out fun w' hB => ?_
          rw [HRR.out]
          have HB := Lib.hid hB
          clear hB
          go_wp2_with fail
          exact H.out _ HB.out
        · have hcf : ((c.toNat : Int) != 48) = true := by simp; omega
          have hcb : (c.toNat != 48) = true := by simp [hc]
          rw [hcb] at H
          clear hp hall hn hc hcb hz
          go_enter Tryz.func183, Tryz.ntmps183
          go_wp2_with fail
          refine trims_t s HS.out fun w' hB => ?_
          rw [HRR.out]
          have HB := Lib.hid hB
          clear hB
          go_wp2_with fail
          exact H.out _ HB.out
    · have hf : s.all To.isD = false := by simpa using hall
      have hp : Nd.plain s = false := by unfold Nd.plain; rw [hf]; rfl
      rw [hp] at H
      obtain ⟨c, hc, hcn⟩ : ∃ c ∈ s, To.isD c = false := by
        have := List.all_eq_false.1 hf
        obtain ⟨c, h1, h2⟩ := this
        exact ⟨c, h1, by simpa using h2⟩
      have hr := trim_not s digits hc (by rw [isD_in]; exact hcn)
      obtain ⟨r, hrr⟩ : ∃ r, r = Lib.trimS s digits := ⟨_, rfl⟩
      rw [← hrr] at hr
      have e2 := bs_tlp r
      have he2 : r.isEmpty = false := by cases r with | nil => exact absurd rfl hr | cons _ _ => rfl
      have HRR := Lib.hid hrr
      clear hp hall hn hf hc hcn hr hrr
      go_enter Tryz.func183, Tryz.ntmps183
      go_wp2_with fail
      refine trims_t s HS.out fun w' hB => ?_
      rw [← HRR.out]
      have HB := Lib.hid hB
      clear hB
      go_wp2_with fail
      exact H.out _ HB.out
end Go.Proofs.YtcldcigopkfmmaaGreatDoor

/- Trees: the reader of tokens: what it is in memory, and its small functions. -/
namespace Go.Proofs.YtcldcigopkfmmaaGreatDoor
open Go.RowKit Go.My Go.Nd

/-- v reads as the tokens xs. -/
def TokIn (w : World) (S : Nat → Prop) (v : Value) (xs : List To.T) : Prop :=
  ∃ ao cap, v = .slice ao xs.length cap ∧ xs.length ≤ cap ∧ cap ≤ maxLen ∧
    (0 < xs.length → ∃ b off, ao = some ⟨b, off, none⟩ ∧ S b ∧ b < w.heap.size ∧ ∀ j (hj : j < xs.length),
      w.cell? ⟨b, off + j * 3, none⟩ = some (.int .u8 ((xs[j]).kind : Int)) ∧ w.cell? ⟨b, off + j * 3 + 1, none⟩ = some (.string (bs (xs[j]).text)) ∧ w.cell? ⟨b, off + j * 3 + 2, none⟩ = some (.int .i64 ((xs[j]).pos : Int)))
theorem TokIn.frame {w w' : World} {S : Nat → Prop} {v : Value} {xs : List To.T} (h : TokIn w S v xs) (hz : w.heap.size ≤ w'.heap.size) (hs : ∀ b, S b → b < w.heap.size → w'.heap[b]? = w.heap[b]?) : TokIn w' S v xs := by
  obtain ⟨ao, cap, h1, h2, h3, h4⟩ := h
  refine ⟨ao, cap, h1, h2, h3, fun hl => ?_⟩
  obtain ⟨b, off, e, hS, hlt, hc⟩ := h4 hl
  have q : ∀ o, w'.cell? ⟨b, o, none⟩ = w.cell? ⟨b, o, none⟩ := fun o => World.cell?_of_block (hs b hS hlt)
  exact ⟨b, off, e, hS, Nat.lt_of_lt_of_le hlt hz, fun j hj => ⟨(q _).trans (hc j hj).1, (q _).trans (hc j hj).2.1, (q _).trans (hc j hj).2.2⟩⟩

/-- The reader at block rb: of the tokens xs those of ts are left; inn: it is in a function. -/
structure Rd (w : World) (rb : Nat) (tv : Value) (xs : List To.T) (ts : List Tx) (inn : Bool) : Prop where
  row : w.heap[rb]? = some (.cells #[tv, .int .i64 ((xs.length - ts.length : Nat) : Int), .bool inn] 61 (0, 0))
  suf : ts <:+ xs.map (·.text)
  toks : TokIn w (· < rb) tv xs
  len : xs.length ≤ 65536
  short : ∀ x ∈ xs, x.text.length ≤ 65536

theorem Rd.lt {w : World} {rb : Nat} {tv : Value} {xs : List To.T} {ts : List Tx} {inn : Bool} (h : Rd w rb tv xs ts inn) : rb < w.heap.size := (Array.getElem?_eq_some_iff.1 h.row).1
theorem Rd.le {w : World} {rb : Nat} {tv : Value} {xs : List To.T} {ts : List Tx} {inn : Bool} (h : Rd w rb tv xs ts inn) : ts.length ≤ xs.length := by have := h.suf.length_le; simpa using this
theorem Rd.later {w w' : World} {rb : Nat} {tv : Value} {xs : List To.T} {ts : List Tx} {inn : Bool} (h : Rd w rb tv xs ts inn) (hb : Below w.heap.size w w') : Rd w' rb tv xs ts inn :=
  ⟨(hb.block rb h.lt).trans h.row, h.suf, h.toks.frame hb.size fun b _ hlt => hb.block b hlt, h.len, h.short⟩
theorem Rd.cell {w : World} {rb : Nat} {tv : Value} {xs : List To.T} {ts : List Tx} {inn : Bool} (h : Rd w rb tv xs ts inn) :
    w.cell? ⟨rb, 0, none⟩ = some tv ∧ w.cell? ⟨rb, 1, none⟩ = some (.int .i64 ((xs.length - ts.length : Nat) : Int)) ∧ w.cell? ⟨rb, 2, none⟩ = some (.bool inn) ∧ w.frozen? ⟨rb, 1, none⟩ = false ∧ w.frozen? ⟨rb, 2, none⟩ = false :=
  ⟨cell_of_row w rb 0 _ _ _ h.row, cell_of_row w rb 1 _ _ _ h.row, cell_of_row w rb 2 _ _ _ h.row, frozen_of_row w rb 1 _ _ h.row, frozen_of_row w rb 2 _ _ h.row⟩

/-- What is behind the reader counts for nothing. -/
theorem Rd.keep {w w' : World} {rb : Nat} {tv : Value} {xs : List To.T} {ts : List Tx} {inn : Bool} (h : Rd w rb tv xs ts inn) (hz : w.heap.size ≤ w'.heap.size) (hk : ∀ k, k ≤ rb → w'.heap[k]? = w.heap[k]?) : Rd w' rb tv xs ts inn :=
  ⟨(hk rb (Nat.le_refl _)).trans h.row, h.suf, h.toks.frame hz fun b hb _ => hk b (Nat.le_of_lt hb), h.len, h.short⟩

theorem suffix_at {α : Type} {ts us : List α} (h : ts <:+ us) (k : Nat) (hk : k < ts.length) : us[us.length - ts.length + k]? = some ts[k] := by
  obtain ⟨p, rfl⟩ := h
  rw [List.length_append, Nat.add_sub_cancel, List.getElem?_append_right (by omega), Nat.add_sub_cancel_left, List.getElem?_eq_getElem hk]

/-- The token so much further. -/
theorem Rd.token {w : World} {rb : Nat} {tv : Value} {xs : List To.T} {ts : List Tx} {inn : Bool} (h : Rd w rb tv xs ts inn) (k : Nat) (hk : k < ts.length) :
    ∃ b off cap a c, tv = .slice (some ⟨b, off, none⟩) xs.length cap ∧ b ≠ rb ∧ w.cell? ⟨b, off + (xs.length - ts.length + k) * 3, none⟩ = some a ∧ w.cell? ⟨b, off + (xs.length - ts.length + k) * 3 + 1, none⟩ = some (.string (bs ts[k])) ∧ w.cell? ⟨b, off + (xs.length - ts.length + k) * 3 + 2, none⟩ = some c ∧
      (∃ i, a = .int .u8 i) ∧ (∃ i, c = .int .i64 i) ∧ ts[k].length ≤ 65536 := by
  obtain ⟨ao, cap, rfl, h1, h2, h3⟩ := h.toks
  have hle := h.le
  obtain ⟨b, off, rfl, hne, _, hc⟩ := h3 (by omega)
  have hj : xs.length - ts.length + k < xs.length := by omega
  obtain ⟨c0, c1, c2⟩ := hc _ hj
  have := suffix_at h.suf k hk
  rw [List.length_map, List.getElem?_map, List.getElem?_eq_getElem hj] at this
  have e : (xs[xs.length - ts.length + k]).text = ts[k] := by simpa using this
  rw [e] at c1
  exact ⟨b, off, cap, _, _, rfl, Nat.ne_of_lt hne, c0, c1, c2, ⟨_, rfl⟩, ⟨_, rfl⟩, by rw [← e]; exact h.short _ (List.getElem_mem hj)⟩

theorem tokVar (w : World) (c : Nat) (v0 v1 v2 : Value) (c0 : w.cell? ⟨c, 0, none⟩ = some v0) (c1 : w.cell? ⟨c, 1, none⟩ = some v1) (c2 : w.cell? ⟨c, 2, none⟩ = some v2) : (loadVar 55 ⟨c, 0, none⟩).run Tryz.prog w = .ok (.agg #[v0, v1, v2]) w := by
  simp [loadVar, go_sem, c0, c1, c2]

set_option maxRecDepth 100000 in
set_option maxHeartbeats 2000000 in
theorem look_t {w : World} {rb : Nat} {tv : Value} {xs : List To.T} {ts : List Tx} {inn : Bool} (h : Rd w rb tv xs ts inn) (k : Nat) (hk : k ≤ 1) {Q : Ending → World → Prop} (hQ : ∀ (i j : Int) w', Below w.heap.size w w' → Q (.returned (.agg #[.int .u8 i, .string (bs (ts.getD k [])), .int .i64 j])) w') :
    Calls Tryz.prog 127 #[.pointer (some ⟨rb, 0, none⟩), .int .i64 (k : Int)] w Q := by
  have H := Lib.hid hQ
  have hle := h.le
  have hlen := h.len
  obtain ⟨hA, hnew, _⟩ := Put.new w #[.int .u8 0, .string ⟨#[]⟩, .int .i64 0] 55
  have h4 := h.later hA
  obtain ⟨c0, c1, _, _⟩ := h4.cell
  obtain ⟨p, hp⟩ : ∃ p, p = xs.length - ts.length := ⟨_, rfl⟩
  have p0 : (0 : Int) ≤ (p : Int) := by omega
  have k0 : (0 : Int) ≤ (k : Int) := by omega
  have e1 : IntKind.i64.wrap ((p : Int) + (k : Int)) = ((p + k : Nat) : Int) := by rw [IntWalk.i64_in _ (by omega)]; omega
  have n0 := cell_of_row _ w.heap.size 0 _ _ _ hnew
  have n1 := cell_of_row _ w.heap.size 1 _ _ _ hnew
  have n2 := cell_of_row _ w.heap.size 2 _ _ _ hnew
  simp at n0 n1 n2
  by_cases hlt : k < ts.length
  · obtain ⟨b, off, cap, a, c, rfl, hne, d0, d1, d2, ⟨i, rfl⟩, ⟨j, rfl⟩, _⟩ := h4.token k hlt
    rw [← hp] at c1 d0 d1 d2
    have hi : ((p + k : Nat) : Int) < (xs.length : Int) := by omega
    have hg : ts.getD k [] = ts[k] := by rw [List.getD_eq_getElem?_getD, List.getElem?_eq_getElem hlt]; rfl
    rw [hg] at H
    generalize ts[k] = s at *
    have HA := Lib.hid (And.intro hA hnew)
    clear hp hlt h h4 hQ hle hA hg hnew n0 n1 n2
    go_enter Tryz.func127, Tryz.ntmps127
    go_wp2_with fail
    go_quiet (fail)
    go_wp2_with fail
    go_region
    have P1 := put3 (w := (w.alloc (.cells #[.int .u8 0, .string ⟨#[]⟩, .int .i64 0] 55)).drewN (nq + 1)) (by rw [heap_drewN']; exact HA.out.2) (.int .u8 i) (.string (bs s)) (.int .i64 j)
    obtain ⟨wz, hz⟩ : ∃ wz, wz = ((((w.alloc (.cells #[.int .u8 0, .string ⟨#[]⟩, .int .i64 0] 55)).drewN (nq + 1)).setCell ⟨w.heap.size, 0, none⟩ (.int .u8 i)).setCell ⟨w.heap.size, 1, none⟩ (.string (bs s))).setCell ⟨w.heap.size, 2, none⟩ (.int .i64 j) := ⟨_, rfl⟩
    rw [← hz] at P1 ⊢
    have hB := P1.below ((HA.out.1).trans ((below_drewN' _ (nq + 1)).mono HA.out.1.size)) (Nat.le_refl _)
    obtain ⟨q0, g0⟩ := P1.cells 0
    obtain ⟨q1, g1⟩ := P1.cells 1
    obtain ⟨q2, g2⟩ := P1.cells 2
    simp at q0 q1 q2
    have HP := Lib.hid (And.intro hB P1.row)
    clear hz P1 hB c0 c1 d0 d1 d2 HA
    go_wp2_with fail
    have P2 := put3 HP.out.2 (.int .u8 i) (.string (bs s)) (.int .i64 j)
    refine bodyPost_ret (results_cell1 rfl _ _ _ rfl (tokVar _ _ (.int .u8 i) (.string (bs s)) (.int .i64 j) (P2.cells 0).1 (P2.cells 1).1 (P2.cells 2).1)) rfl (H.out _ _ _ (P2.below HP.out.1 (Nat.le_refl _)))
  · obtain ⟨ao, cap, rfl, _, _, _⟩ := h4.toks
    rw [← hp] at c1
    have hi : (xs.length : Int) ≤ ((p + k : Nat) : Int) := by omega
    have hg : ts.getD k [] = [] := by rw [List.getD_eq_getElem?_getD, List.getElem?_eq_none (by omega)]; rfl
    rw [hg] at H
    have HA := Lib.hid (And.intro hA hnew)
    clear hp hlt h h4 hQ hle hA hg hnew
    go_enter Tryz.func127, Tryz.ntmps127
    go_wp2_with fail
    go_quiet (fail)
    go_wp2_with fail
    have P2 := put3 (w := (w.alloc (.cells #[.int .u8 0, .string ⟨#[]⟩, .int .i64 0] 55)).drewN nq) (by rw [heap_drewN']; exact HA.out.2) (.int .u8 0) (.string ⟨#[]⟩) (.int .i64 0)
    refine bodyPost_ret (results_cell1 rfl _ _ _ rfl (tokVar _ _ (.int .u8 0) (.string ⟨#[]⟩) (.int .i64 0) (P2.cells 0).1 (P2.cells 1).1 (P2.cells 2).1)) rfl (H.out _ _ _ (P2.below ((HA.out.1).trans ((below_drewN' _ nq).mono HA.out.1.size)) (Nat.le_refl _)))
end Go.Proofs.YtcldcigopkfmmaaGreatDoor

/- Trees: the reader: takes, must, next, named, name, number, bin. -/
namespace Go.Proofs.YtcldcigopkfmmaaGreatDoor
open Go.RowKit Go.My Go.Nd

theorem tokText (i j : Int) (s : ByteArray) (wx : World) : (Instr.field 55 (.agg #[.int .u8 i, .string s, .int .i64 j]) 1).run Tryz.prog wx = .ok (.string s) wx := by kernel_rfl

theorem Rd.next {w w' : World} {rb : Nat} {tv : Value} {xs : List To.T} {s : Tx} {r : List Tx} {inn : Bool} (h : Rd w rb tv xs (s :: r) inn) (hp : Put w w' rb #[tv, .int .i64 ((xs.length - r.length : Nat) : Int), .bool inn] 61) : Rd w' rb tv xs r inn :=
  ⟨hp.row, (List.suffix_cons s r).trans h.suf, h.toks.frame (by rw [hp.size]; exact Nat.le_refl _) fun b hb _ => hp.oth b (Nat.ne_of_lt hb), h.len, h.short⟩

theorem Rd.put1 {w : World} {rb : Nat} {tv : Value} {xs : List To.T} {s : Tx} {r : List Tx} {inn : Bool} (h : Rd w rb tv xs (s :: r) inn) : Put w (w.setCell ⟨rb, 1, none⟩ (.int .i64 ((xs.length - r.length : Nat) : Int))) rb #[tv, .int .i64 ((xs.length - r.length : Nat) : Int), .bool inn] 61 :=
  Put.one h.row 1 _
theorem Rd.one_more {w : World} {rb : Nat} {tv : Value} {xs : List To.T} {s : Tx} {r : List Tx} {inn : Bool} (h : Rd w rb tv xs (s :: r) inn) : ((xs.length - (s :: r).length : Nat) : Int) + 1 = ((xs.length - r.length : Nat) : Int) := by
  have := h.le; rw [List.length_cons] at *; omega

set_option maxRecDepth 100000 in
set_option maxHeartbeats 2000000 in
theorem takes_yes {w : World} {rb : Nat} {tv : Value} {xs : List To.T} {s : Tx} {r : List Tx} {inn : Bool} (h : Rd w rb tv xs (s :: r) inn) (hs : s ≠ []) {Q : Ending → World → Prop} (hQ : ∀ w', Step w w' (some rb) → Rd w' rb tv xs r inn → Q (.returned (.bool true)) w') :
    Calls Tryz.prog 97 #[.pointer (some ⟨rb, 0, none⟩), .string (bs s)] w Q := by
  have H := Lib.hid hQ
  have HR := Lib.hid h
  have hs1 := bs_tlp s
  have hsz : (s == []) = false := by simpa using hs
  clear hQ h
  have ht := tokText
  go_enter Tryz.func97, Tryz.ntmps97
  go_wp2_with fail
  refine look_t HR.out 0 (by decide) fun i j w1 hb => ?_
  have h1 := HR.out.later hb
  have hm := h1.one_more
  have hl := h1.len
  obtain ⟨c0, c1, c2, f1, _⟩ := h1.cell
  obtain ⟨q, hq⟩ : ∃ q, q = xs.length - (s :: r).length := ⟨_, rfl⟩
  obtain ⟨q', hq'⟩ : ∃ q', q' = xs.length - r.length := ⟨_, rfl⟩
  rw [← hq, ← hq'] at hm
  rw [← hq] at c1
  have q0 : (0 : Int) ≤ (q : Int) := by omega
  have q1 : (q : Int) < 65536 := by omega
  have HX := Lib.hid (And.intro hb (And.intro h1 (And.intro hq' hm)))
  clear hb h1 hq hq' hm
  rw [show (s :: r).getD 0 [] = s from rfl]
  go_wp2_with fail
  have hp := HX.out.2.1.put1
  rw [← HX.out.2.2.1, ← HX.out.2.2.2] at hp
  exact H.out _ ((Step.of_below HX.out.1).trans hp.step) (HX.out.2.1.next (by rw [HX.out.2.2.2, HX.out.2.2.1] at hp; rw [HX.out.2.2.2, HX.out.2.2.1]; exact hp))

set_option maxRecDepth 100000 in
set_option maxHeartbeats 2000000 in
theorem takes_no {w : World} {rb : Nat} {tv : Value} {xs : List To.T} {ts : List Tx} {inn : Bool} (h : Rd w rb tv xs ts inn) (s : Tx) (hs : s ≠ []) (hn : ts.head? ≠ some s) {Q : Ending → World → Prop} (hQ : ∀ w', Below w.heap.size w w' → Q (.returned (.bool false)) w') :
    Calls Tryz.prog 97 #[.pointer (some ⟨rb, 0, none⟩), .string (bs s)] w Q := by
  have H := Lib.hid hQ
  have HR := Lib.hid h
  have hs1 := bs_tlp s
  obtain ⟨u, hu⟩ : ∃ u, u = ts.getD 0 [] := ⟨_, rfl⟩
  have hne : (u == s) = false := by
    rw [hu]
    cases ts with
    | nil => simpa using hs
    | cons x r => simpa using hn
  have hs2 := bs_tlp u
  have ht := tokText
  clear hQ h hn hs
  go_enter Tryz.func97, Tryz.ntmps97
  go_wp2_with fail
  refine look_t HR.out 0 (by decide) fun i j w1 hb => ?_
  have HX := Lib.hid hb
  rw [← hu]
  clear hb hu
  go_wp2_with fail
  exact H.out _ HX.out

/-- The panic that says that the text does not go on so. -/
def wrongChain : List PanicEntry := [{ v := .iface 163 (.agg #[]), recovered := false }]

set_option maxRecDepth 100000 in
theorem must_yes {w : World} {Q : Ending → World → Prop} (hQ : Q (.returned (.tuple #[])) w) : Calls Tryz.prog 129 #[.bool true] w Q := by
  go_enter Tryz.func129, Tryz.ntmps129
  go_wp2_with fail
  go_end0
  exact hQ
set_option maxRecDepth 100000 in
theorem must_no {w : World} {Q : Ending → World → Prop} (hQ : Q (.panicked wrongChain) w) : Calls Tryz.prog 129 #[.bool false] w Q := by
  go_enter Tryz.func129, Tryz.ntmps129
  go_wp2_with fail
  exact ⟨rfl, hQ⟩

set_option maxRecDepth 100000 in
set_option maxHeartbeats 2000000 in
theorem next_yes {w : World} {rb : Nat} {tv : Value} {xs : List To.T} {s : Tx} {r : List Tx} {inn : Bool} (h : Rd w rb tv xs (s :: r) inn) {Q : Ending → World → Prop} (hQ : ∀ w', Step w w' (some rb) → Rd w' rb tv xs r inn → Q (.returned (.string (bs s))) w') :
    Calls Tryz.prog 149 #[.pointer (some ⟨rb, 0, none⟩), .bool true] w Q := by
  have H := Lib.hid hQ
  have hm := h.one_more
  have hl := h.len
  have hle := h.le
  have hp := h.put1
  obtain ⟨c0, c1, c2, f1, _⟩ := h.cell
  obtain ⟨b, off, cap, a, c, rfl, hne, d0, d1, d2, ⟨i, rfl⟩, ⟨j, rfl⟩, _⟩ := h.token 0 (by simp)
  obtain ⟨q, hq⟩ : ∃ q, q = xs.length - (s :: r).length := ⟨_, rfl⟩
  have HR := Lib.hid (And.intro h (And.intro hp hm))
  rw [List.length_cons] at hle
  obtain ⟨q', hq'⟩ : ∃ q', q' = xs.length - r.length := ⟨_, rfl⟩
  rw [← hq, ← hq'] at hm
  rw [← hq] at d0 d1 d2
  simp only [Nat.add_zero] at d0 d1 d2
  rw [← hq] at c1
  have HM := Lib.hid (And.intro hm hq')
  have q0 : (0 : Int) ≤ (q : Int) := by omega
  have q1 : (q : Int) < (xs.length : Int) := by rw [List.length_cons] at hq; omega
  have q2 : (xs.length : Int) ≤ 65536 := by omega
  simp only [List.getElem_cons_zero] at d1
  have e0 : ∀ o, (w.setCell ⟨rb, 1, none⟩ (.int .i64 ((xs.length - r.length : Nat) : Int))).cell? ⟨b, o, none⟩ = w.cell? ⟨b, o, none⟩ := fun o => World.cell?_of_block (hp.oth b hne)
  obtain ⟨wz, hwz⟩ : ∃ wz, wz = w.setCell ⟨rb, 1, none⟩ (.int .i64 ((xs.length - r.length : Nat) : Int)) := ⟨_, rfl⟩
  rw [← hwz] at hp e0
  rw [← hq'] at hwz hp
  rw [← e0] at d0 d1 d2
  have k0 := (hp.cells 0).1
  have k1 := (hp.cells 1).1
  simp at k0 k1
  have HZ := Lib.hid (And.intro hp hwz)
  clear hQ h hp hq hm hq' hl hle e0 hwz
  go_enter Tryz.func149, Tryz.ntmps149
  go_upto_region 3 with (refine must_yes ?_)
  rw [HM.out.1, ← HZ.out.2]
  have w1 : IntKind.i64.wrap ((q' : Int) - 1) = (q : Int) := by have := HM.out.1; rw [IntWalk.i64_in _ (by omega)]; omega
  clear c0 c1 c2
  go_quiet (fail)
  go_wp2_with fail
  have hp := HZ.out.1
  rw [HM.out.2] at hp
  exact H.out _ (hp.step.trans (Step.of_below (below_drewN' _ _))) ((HR.out.1.next hp).later (below_drewN' _ _))

set_option maxRecDepth 100000 in
theorem next_no {w : World} {rb : Nat} {Q : Ending → World → Prop} (hQ : Q (.panicked wrongChain) w) :
    Calls Tryz.prog 149 #[.pointer (some ⟨rb, 0, none⟩), .bool false] w Q := by
  go_enter Tryz.func149, Tryz.ntmps149
  go_wp2_with (refine must_no ?_)
  exact ⟨rfl, hQ⟩

set_option maxRecDepth 100000 in
theorem named_t {w : World} {rb : Nat} {tv : Value} {xs : List To.T} {ts : List Tx} {inn : Bool} (h : Rd w rb tv xs ts inn) {Q : Ending → World → Prop} (hQ : ∀ w', Below w.heap.size w w' → Q (.returned (.bool (To.name (ts.getD 0 [])))) w') :
    Calls Tryz.prog 136 #[.pointer (some ⟨rb, 0, none⟩)] w Q := by
  have H := Lib.hid hQ
  have HR := Lib.hid h
  have ht := tokText
  have hl : (ts.getD 0 []).length ≤ 9223372036854775807 := by
    cases ts with
    | nil => exact Nat.zero_le _
    | cons s r => obtain ⟨_, _, _, _, _, _, _, _, _, _, _, _, hs⟩ := h.token 0 (by simp); simp at hs ⊢; omega
  have HL := Lib.hid hl
  clear hQ h hl
  go_enter Tryz.func136, Tryz.ntmps136
  go_wp2_with fail
  refine look_t HR.out 0 (by decide) fun i j w1 hb => ?_
  have HX := Lib.hid hb
  clear hb
  generalize ts.getD 0 [] = u at *
  go_wp2_with fail
  refine name_t u HL.out fun w2 hb2 => ?_
  have K2 := Lib.hid (HX.out.trans (hb2.mono HX.out.size))
  clear hb2
  go_wp2_with fail
  exact H.out _ K2.out
set_option maxRecDepth 100000 in
theorem rname_yes {w : World} {rb : Nat} {tv : Value} {xs : List To.T} {s : Tx} {r : List Tx} {inn : Bool} (h : Rd w rb tv xs (s :: r) inn) (hs : To.name s = true) {Q : Ending → World → Prop} (hQ : ∀ w', Step w w' (some rb) → Rd w' rb tv xs r inn → Q (.returned (.string (bs s))) w') :
    Calls Tryz.prog 128 #[.pointer (some ⟨rb, 0, none⟩)] w Q := by
  have H := Lib.hid hQ
  have HR := Lib.hid h
  have HS := Lib.hid hs
  clear hQ h hs
  go_enter Tryz.func128, Tryz.ntmps128
  go_wp2_with fail
  refine named_t HR.out fun w1 hb => ?_
  rw [show To.name ((s :: r).getD 0 []) = true from HS.out]
  have HX := Lib.hid (And.intro hb (HR.out.later hb))
  clear hb
  go_wp2_with fail
  refine next_yes HX.out.2 fun w2 hs2 h2 => ?_
  have K2 := Lib.hid (And.intro ((Step.of_below HX.out.1).trans hs2) h2)
  clear hs2 h2
  go_wp2_with fail
  exact H.out _ K2.out.1 K2.out.2
set_option maxRecDepth 100000 in
theorem rname_no {w : World} {rb : Nat} {tv : Value} {xs : List To.T} {ts : List Tx} {inn : Bool} (h : Rd w rb tv xs ts inn) (hs : To.name (ts.getD 0 []) = false) {Q : Ending → World → Prop} (hQ : ∀ w', Below w.heap.size w w' → Q (.panicked wrongChain) w') :
    Calls Tryz.prog 128 #[.pointer (some ⟨rb, 0, none⟩)] w Q := by
  have H := Lib.hid hQ
  have HR := Lib.hid h
  have HS := Lib.hid hs
  clear hQ h hs
  go_enter Tryz.func128, Tryz.ntmps128
  go_wp2_with fail
  refine named_t HR.out fun w1 hb => ?_
  rw [HS.out]
  have HX := Lib.hid hb
  clear hb
  go_wp2_with fail
  refine next_no ?_
  go_wp2_with fail
  exact ⟨rfl, H.out _ HX.out⟩
end Go.Proofs.YtcldcigopkfmmaaGreatDoor

/- Programs in memory: texts, functions. No program in sight. -/
namespace Go.My
open Go.RowKit Go.Nd

def spare : List UInt8 := [115, 112, 97, 114, 101]

/-- v reads as these texts, in blocks of S; tw: a mark stands behind them. -/
def TextsIn (w : World) (S : Nat → Prop) (tw : Bool) (v : Value) (ts : List (List UInt8)) : Prop :=
  ∃ a c, v = .slice a ts.length c ∧ ts.length ≤ c ∧ c ≤ maxLen ∧ ts.length * 16 ≤ 140737488351232 ∧
    (tw = true → ts.length < c ∧ ∃ b off, a = some ⟨b, off, none⟩ ∧ S b ∧ w.cell? ⟨b, off + ts.length, none⟩ = some (.string (tx spare))) ∧
    ∀ i (hi : i < ts.length), ∃ b off, a = some ⟨b, off, none⟩ ∧ S b ∧ w.cell? ⟨b, off + i, none⟩ = some (.string (tx ts[i])) ∧ (ts[i]).length ≤ 140737488351232

/-- The three cells of a function. -/
structure FnAt (w : World) (S : Nat → Prop) (tw : Bool) (b off : Nat) (f : Nd.Fn) (v1 v2 : Value) : Prop where
  name : f.name.length ≤ 140737488351232
  d0 : w.cell? ⟨b, off, none⟩ = some (.string (tx f.name))
  d1 : w.cell? ⟨b, off + 1, none⟩ = some v1
  d2 : w.cell? ⟨b, off + 2, none⟩ = some v2
  args : TextsIn w S tw v1 f.args
  body : Nodes w S tw v2 f.body

/-- The mark that stands behind a copy's functions. -/
def FnMark (w : World) (b off : Nat) : Prop := w.cell? ⟨b, off, none⟩ = some (.string (tx spare)) ∧ w.cell? ⟨b, off + 1, none⟩ = some (.slice none 0 0) ∧ w.cell? ⟨b, off + 2, none⟩ = some (.slice none 0 0)
theorem FnMark.frame {w w' : World} {b off : Nat} (h : FnMark w b off) (hs : w'.heap[b]? = w.heap[b]?) : FnMark w' b off := by
  have e : ∀ o, w'.cell? ⟨b, o, none⟩ = w.cell? ⟨b, o, none⟩ := fun o => World.cell?_of_block hs
  exact ⟨(e _).trans h.1, (e _).trans h.2.1, (e _).trans h.2.2⟩
theorem FnMark.lt {w : World} {b off : Nat} (h : FnMark w b off) : b < w.heap.size := World.block_lt_of_cell? w _ h.1

def FuncsIn (w : World) (S : Nat → Prop) (tw : Bool) (v : Value) (fs : List Nd.Fn) : Prop :=
  ∃ a c, v = .slice a fs.length c ∧ fs.length ≤ c ∧ c ≤ maxLen ∧ fs.length * 64 ≤ 140737488351232 ∧
    (tw = true → fs.length < c ∧ ∃ b off, a = some ⟨b, off, none⟩ ∧ S b ∧ FnMark w b (off + fs.length * 3)) ∧
    ∀ i (hi : i < fs.length), ∃ b off v1 v2, a = some ⟨b, off, none⟩ ∧ S b ∧ FnAt w S tw b (off + i * 3) fs[i] v1 v2

theorem TextsIn.frame {w w' : World} {S : Nat → Prop} {tw : Bool} {v : Value} {ts : List (List UInt8)} (h : TextsIn w S tw v ts) (hs : ∀ b, S b → b < w.heap.size → w'.heap[b]? = w.heap[b]?) : TextsIn w' S tw v ts := by
  obtain ⟨a, c, h1, h2, h3, h4, h5, h6⟩ := h
  have cell : ∀ b o u, S b → w.cell? ⟨b, o, none⟩ = some u → w'.cell? ⟨b, o, none⟩ = some u := fun b o u hS h =>
    (World.cell?_of_block (hs b hS (World.block_lt_of_cell? w _ h))).trans h
  refine ⟨a, c, h1, h2, h3, h4, fun e => ?_, fun i hi => ?_⟩
  · obtain ⟨k1, b, off, k2, k3, k4⟩ := h5 e
    exact ⟨k1, b, off, k2, k3, cell _ _ _ k3 k4⟩
  · obtain ⟨b, off, k1, k2, k3, k4⟩ := h6 i hi
    exact ⟨b, off, k1, k2, cell _ _ _ k2 k3, k4⟩
theorem TextsIn.mono {w : World} {S T : Nat → Prop} {tw : Bool} {v : Value} {ts : List (List UInt8)} (h : TextsIn w S tw v ts) (hs : ∀ b, b < w.heap.size → S b → T b) : TextsIn w T tw v ts := by
  obtain ⟨a, c, h1, h2, h3, h4, h5, h6⟩ := h
  refine ⟨a, c, h1, h2, h3, h4, fun e => ?_, fun i hi => ?_⟩
  · obtain ⟨k1, b, off, k2, k3, k4⟩ := h5 e
    exact ⟨k1, b, off, k2, hs _ (World.block_lt_of_cell? w _ k4) k3, k4⟩
  · obtain ⟨b, off, k1, k2, k3, k4⟩ := h6 i hi
    exact ⟨b, off, k1, hs _ (World.block_lt_of_cell? w _ k3) k2, k3, k4⟩
theorem TextsIn.form {w : World} {S : Nat → Prop} {tw : Bool} {v : Value} {ts : List (List UInt8)} (h : TextsIn w S tw v ts) : ∃ a c, v = .slice a ts.length c := by obtain ⟨a, c, e, _⟩ := h; exact ⟨a, c, e⟩
theorem FuncsIn.form {w : World} {S : Nat → Prop} {tw : Bool} {v : Value} {fs : List Nd.Fn} (h : FuncsIn w S tw v fs) : ∃ a c, v = .slice a fs.length c := by obtain ⟨a, c, e, _⟩ := h; exact ⟨a, c, e⟩
theorem Nodes.form {w : World} {S : Nat → Prop} {tw : Bool} {v : Value} {x : Ns} (h : Nodes w S tw v x) : ∃ a c, v = .slice a x.len c := by obtain ⟨a, c, e, _⟩ := h; exact ⟨a, c, e⟩
theorem FnAt.frame {w w' : World} {S : Nat → Prop} {tw : Bool} {b off : Nat} {f : Nd.Fn} {v1 v2 : Value} (h : FnAt w S tw b off f v1 v2) (hS : S b) (hs : ∀ b, S b → b < w.heap.size → w'.heap[b]? = w.heap[b]?) : FnAt w' S tw b off f v1 v2 := by
  have hlt := World.block_lt_of_cell? w _ h.d0
  have e : ∀ o, w'.cell? ⟨b, o, none⟩ = w.cell? ⟨b, o, none⟩ := fun o => World.cell?_of_block (hs b hS hlt)
  exact ⟨h.name, (e _).trans h.d0, (e _).trans h.d1, (e _).trans h.d2, h.args.frame hs, h.body.frame hs⟩
theorem FnAt.mono {w : World} {S T : Nat → Prop} {tw : Bool} {b off : Nat} {f : Nd.Fn} {v1 v2 : Value} (h : FnAt w S tw b off f v1 v2) (hs : ∀ b, b < w.heap.size → S b → T b) : FnAt w T tw b off f v1 v2 :=
  ⟨h.name, h.d0, h.d1, h.d2, h.args.mono hs, h.body.mono hs⟩
theorem FuncsIn.frame {w w' : World} {S : Nat → Prop} {tw : Bool} {v : Value} {fs : List Nd.Fn} (h : FuncsIn w S tw v fs) (hs : ∀ b, S b → b < w.heap.size → w'.heap[b]? = w.heap[b]?) : FuncsIn w' S tw v fs := by
  obtain ⟨a, c, h1, h2, h3, h4, h5, h6⟩ := h
  refine ⟨a, c, h1, h2, h3, h4, fun e => ?_, fun i hi => ?_⟩
  · obtain ⟨k1, b, off, k2, k3, k4⟩ := h5 e
    exact ⟨k1, b, off, k2, k3, k4.frame (hs b k3 k4.lt)⟩
  · obtain ⟨b, off, v1, v2, k1, k2, k3⟩ := h6 i hi
    exact ⟨b, off, v1, v2, k1, k2, k3.frame k2 hs⟩
theorem FuncsIn.mono {w : World} {S T : Nat → Prop} {tw : Bool} {v : Value} {fs : List Nd.Fn} (h : FuncsIn w S tw v fs) (hs : ∀ b, b < w.heap.size → S b → T b) : FuncsIn w T tw v fs := by
  obtain ⟨a, c, h1, h2, h3, h4, h5, h6⟩ := h
  refine ⟨a, c, h1, h2, h3, h4, fun e => ?_, fun i hi => ?_⟩
  · obtain ⟨k1, b, off, k2, k3, k4⟩ := h5 e
    exact ⟨k1, b, off, k2, hs _ k4.lt k3, k4⟩
  · obtain ⟨b, off, v1, v2, k1, k2, k3⟩ := h6 i hi
    exact ⟨b, off, v1, v2, k1, hs _ (World.block_lt_of_cell? w _ k3.d0) k2, k3.mono hs⟩
theorem TextsIn.below {w w' : World} {B : Nat} {tw : Bool} {v : Value} {ts : List (List UInt8)} (h : TextsIn w (· < B) tw v ts) (hb : Below B w w') : TextsIn w' (· < B) tw v ts := h.frame fun b hB _ => hb.block b hB
theorem FuncsIn.below {w w' : World} {B : Nat} {tw : Bool} {v : Value} {fs : List Nd.Fn} (h : FuncsIn w (· < B) tw v fs) (hb : Below B w w') : FuncsIn w' (· < B) tw v fs := h.frame fun b hB _ => hb.block b hB
end Go.My

/- Lists of texts, functions in new memory: each in a block of its own. -/
namespace Go.Proofs.YtcldcigopkfmmaaGreatDoor
open Go.RowKit Go.My Go.Nd

abbrev TN : TypeId := 74
abbrev TS : TypeId := 9
theorem strEl : Elem Tryz.prog 68 9 1 16 (.string ⟨#[]⟩) := Elem.mk' Tryz.underlying68 (by kernel_rfl) rfl (by decide)

/-- A list of texts; F: its block. -/
def TF (w : World) (F : List Nat) (v : Value) (l : List Tx) : Prop := ∃ k, F = k.toList ∧ Go.My.Own w TS 1 v l.length (l.map fun t => .string (tx t)) k ∧ l.length * 16 ≤ 140737488351232 ∧ ∀ t ∈ l, t.length ≤ 140737488351232
def TR (w : World) (lo hi : Nat) (v : Value) (l : List Tx) : Prop := ∃ F, TF w F v l ∧ InR lo hi F

theorem TF.frame {w w' : World} {F : List Nat} {v : Value} {l : List Tx} (h : TF w F v l) (hs : ∀ b ∈ F, w'.heap[b]? = w.heap[b]?) : TF w' F v l := by
  obtain ⟨k, rfl, h1, h2⟩ := h
  exact ⟨k, rfl, h1.frame fun b hb => hs b (by subst hb; simp), h2⟩
theorem TR.frame {w w' : World} {lo hi : Nat} {v : Value} {l : List Tx} (h : TR w lo hi v l) (hs : ∀ b, lo ≤ b → b < hi → w'.heap[b]? = w.heap[b]?) : TR w' lo hi v l := by
  obtain ⟨F, h1, h2⟩ := h
  exact ⟨F, h1.frame fun b hb => hs b (h2.2 b hb).1 (h2.2 b hb).2, h2⟩
theorem TR.mono {w : World} {lo hi lo' hi' : Nat} {v : Value} {l : List Tx} (h : TR w lo hi v l) (h1 : lo' ≤ lo) (h2 : hi ≤ hi') : TR w lo' hi' v l := by obtain ⟨F, k1, k2⟩ := h; exact ⟨F, k1, k2.mono h1 h2⟩
theorem TR.nil (w : World) (lo hi : Nat) : TR w lo hi (.slice none 0 0) [] := ⟨[], ⟨none, rfl, Go.My.Own.nil w TS 1, Nat.zero_le _, fun _ h => by cases h⟩, InR.nil _ _⟩
theorem TR.form {w : World} {lo hi : Nat} {v : Value} {l : List Tx} (h : TR w lo hi v l) : ∃ a c, v = .slice a l.length c := by obtain ⟨F, ⟨k, _, h, _⟩, _⟩ := h; exact own_form h
theorem TR.later {w w' : World} {lo hi : Nat} {v : Value} {l : List Tx} (h : TR w lo hi v l) (hb : Below w.heap.size w w') (hh : hi ≤ w.heap.size) : TR w' lo hi v l := h.frame fun b _ hb' => hb.block b (by omega)
theorem TR.kept {w w' : World} {rb lo hi : Nat} {v : Value} {l : List Tx} (h : TR w lo hi v l) (hs : Step w w' (some rb)) (hrb : rb < lo) (hh : hi ≤ w.heap.size) : TR w' lo hi v l := h.frame fun b h1 h2 => hs.kept (by omega) (by omega)

theorem TF.texts {w : World} {S : Nat → Prop} {F : List Nat} {v : Value} {l : List Tx} (h : TF w F v l) (hS : ∀ b ∈ F, S b) : TextsIn w S false v l := by
  obtain ⟨k, rfl, ho, h3, h4⟩ := h
  obtain ⟨h1, h2⟩ := ho
  rcases h2 with ⟨rfl, h0, _⟩ | ⟨b, off, cap, cur, rfl, rfl, hh, h5, h6, h7, h8⟩
  · have : l = [] := List.eq_nil_of_length_eq_zero h0
    subst this
    exact ⟨none, 0, rfl, Nat.le_refl _, Nat.zero_le _, Nat.zero_le _, fun e => (by cases e), fun i hi => absurd hi (Nat.not_lt_zero _)⟩
  · refine ⟨_, cap, rfl, h5, h6, h3, fun e => (by cases e), fun i hi => ⟨b, off, rfl, hS b (by simp), ?_, h4 _ (List.getElem_mem hi)⟩⟩
    have hj : i < l.length * 1 := by omega
    have : (l.map fun t => Value.string (tx t))[i]? = some (.string (tx l[i])) := by simp [hi]
    rw [cell_of_row w b (off + i) cur TS (0, 0) hh, ← this, ← h8, List.getElem?_take, List.getElem?_drop, if_pos hj]
    simp

abbrev TFn : TypeId := 70

/-- A function's cells, and its blocks. -/
structure FV where
  f : Nd.Fn
  va : Value
  vb : Value
  F1 : List Nat
  F2 : List Nat
def FV.cells (x : FV) : List Value := [.string (tx x.f.name), x.va, x.vb]
structure FV.Ok (w : World) (x : FV) : Prop where
  name : x.f.name.length ≤ 140737488351232
  args : TF w x.F1 x.va x.f.args
  body : LF w TN x.F2 x.vb x.f.body
def FR (w : World) (lo hi : Nat) (v : Value) (f : Nd.Fn) : Prop := ∃ x : FV, v = .agg x.cells.toArray ∧ x.Ok w ∧ x.f = f ∧ InR lo hi (x.F1 ++ x.F2)

theorem FV.Ok.frame {w w' : World} {x : FV} (h : x.Ok w) (hs : ∀ b ∈ x.F1 ++ x.F2, w'.heap[b]? = w.heap[b]?) : x.Ok w' :=
  ⟨h.name, h.args.frame fun b hb => hs b (List.mem_append_left _ hb), h.body.frame fun b hb => hs b (List.mem_append_right _ hb)⟩
theorem FR.frame {w w' : World} {lo hi : Nat} {v : Value} {f : Nd.Fn} (h : FR w lo hi v f) (hs : ∀ b, lo ≤ b → b < hi → w'.heap[b]? = w.heap[b]?) : FR w' lo hi v f := by
  obtain ⟨x, h0, h1, h2, h3⟩ := h
  exact ⟨x, h0, h1.frame fun b hb => hs b (h3.2 b hb).1 (h3.2 b hb).2, h2, h3⟩
theorem FR.mono {w : World} {lo hi lo' hi' : Nat} {v : Value} {f : Nd.Fn} (h : FR w lo hi v f) (h1 : lo' ≤ lo) (h2 : hi ≤ hi') : FR w lo' hi' v f := by
  obtain ⟨x, k0, k1, k2, k3⟩ := h; exact ⟨x, k0, k1, k2, k3.mono h1 h2⟩
theorem FR.later {w w' : World} {lo hi : Nat} {v : Value} {f : Nd.Fn} (h : FR w lo hi v f) (hb : Below w.heap.size w w') (hh : hi ≤ w.heap.size) : FR w' lo hi v f := h.frame fun b _ hb' => hb.block b (by omega)
theorem fnEl : Elem Tryz.prog 44 70 3 64 (.agg #[.string ⟨#[]⟩, .slice none 0 0, .slice none 0 0]) := Elem.mk' Tryz.underlying44 (by kernel_rfl) rfl (by decide)

/-- A list of functions; F: the blocks of it, and of all in it. -/
def FsF (w : World) (F : List Nat) (v : Value) (fs : List Nd.Fn) : Prop :=
  ∃ (els : List FV) (k : Option Nat), F = k.toList ++ els.flatMap (fun x => x.F1 ++ x.F2) ∧ els.map (·.f) = fs ∧ Go.My.Own w TFn 3 v els.length (els.flatMap FV.cells) k ∧ els.length * 64 ≤ 140737488351232 ∧ ∀ x ∈ els, x.Ok w
def FsR (w : World) (lo hi : Nat) (v : Value) (fs : List Nd.Fn) : Prop := ∃ F, FsF w F v fs ∧ InR lo hi F

theorem FsF.frame {w w' : World} {F : List Nat} {v : Value} {fs : List Nd.Fn} (h : FsF w F v fs) (hs : ∀ b ∈ F, w'.heap[b]? = w.heap[b]?) : FsF w' F v fs := by
  obtain ⟨els, k, rfl, h1, h2, h3, h4⟩ := h
  refine ⟨els, k, rfl, h1, h2.frame fun b hb => hs b (by subst hb; simp), h3, fun x hx => (h4 x hx).frame fun b hb => hs b (List.mem_append_right _ (List.mem_flatMap.2 ⟨x, hx, hb⟩))⟩
theorem FsR.frame {w w' : World} {lo hi : Nat} {v : Value} {fs : List Nd.Fn} (h : FsR w lo hi v fs) (hs : ∀ b, lo ≤ b → b < hi → w'.heap[b]? = w.heap[b]?) : FsR w' lo hi v fs := by
  obtain ⟨F, h1, h2⟩ := h
  exact ⟨F, h1.frame fun b hb => hs b (h2.2 b hb).1 (h2.2 b hb).2, h2⟩
theorem FsR.mono {w : World} {lo hi lo' hi' : Nat} {v : Value} {fs : List Nd.Fn} (h : FsR w lo hi v fs) (h1 : lo' ≤ lo) (h2 : hi ≤ hi') : FsR w lo' hi' v fs := by obtain ⟨F, k1, k2⟩ := h; exact ⟨F, k1, k2.mono h1 h2⟩
theorem FsR.nil (w : World) (lo hi : Nat) : FsR w lo hi (.slice none 0 0) [] := ⟨[], ⟨[], none, rfl, rfl, Go.My.Own.nil w TFn 3, Nat.zero_le _, fun _ h => by cases h⟩, InR.nil _ _⟩
theorem FsR.form {w : World} {lo hi : Nat} {v : Value} {fs : List Nd.Fn} (h : FsR w lo hi v fs) : ∃ a c, v = .slice a fs.length c := by
  obtain ⟨F, ⟨els, k, _, h1, h2, _⟩, _⟩ := h
  have := own_form h2
  rwa [show els.length = fs.length by rw [← h1, List.length_map]] at this
theorem FsR.later {w w' : World} {lo hi : Nat} {v : Value} {fs : List Nd.Fn} (h : FsR w lo hi v fs) (hb : Below w.heap.size w w') (hh : hi ≤ w.heap.size) : FsR w' lo hi v fs := h.frame fun b _ hb' => hb.block b (by omega)
theorem FsR.kept {w w' : World} {rb lo hi : Nat} {v : Value} {fs : List Nd.Fn} (h : FsR w lo hi v fs) (hs : Step w w' (some rb)) (hrb : rb < lo) (hh : hi ≤ w.heap.size) : FsR w' lo hi v fs := h.frame fun b h1 h2 => hs.kept (by omega) (by omega)

/-- One more, appended: what is so behind it. -/
theorem FsR.app {w : World} {lo hi hi2 : Nat} {v : Value} {fs : List Nd.Fn} {cs : Array Value} {f : Nd.Fn} (h : FsR w lo hi v fs) (hN : FR w hi hi2 (.agg cs) f) (h1 : lo ≤ hi) (h2 : hi ≤ hi2) (h3 : hi2 ≤ w.heap.size) (hn : (fs.length + 1) * 64 ≤ 140737488351232) :
    (∀ u ∈ cs.toList, u.oneCell' = true) ∧ ∃ xs k, Go.My.Own w TFn 3 v fs.length xs k ∧ (∀ b, k = some b → lo ≤ b ∧ b < hi) ∧ ∀ w' v' k', Go.My.Own w' TFn 3 v' (fs.length + 1) (xs ++ cs.toList) k' → Step w w' k → (k' = k ∨ ∃ j, k' = some j ∧ w.heap.size ≤ j) → FsR w' lo w'.heap.size v' (fs ++ [f]) := by
  obtain ⟨F, ⟨els, k, rfl, hmap, ho, hle, hok⟩, hr⟩ := h
  obtain ⟨x, h0, hx, hf, kr⟩ := hN
  cases h0
  have hlen : els.length = fs.length := by rw [← hmap, List.length_map]
  have hc1 : ∀ u ∈ x.cells, u.oneCell' = true := by
    intro u hu
    obtain ⟨k1, _, ha, _⟩ := hx.args
    obtain ⟨a1, c1, e1⟩ := own_form ha
    obtain ⟨a2, c2, e2⟩ := hx.body.form
    unfold FV.cells at hu
    simp at hu
    rcases hu with rfl | rfl | rfl
    · rfl
    · rw [e1]; rfl
    · rw [e2]; rfl
  refine ⟨by simpa using hc1, els.flatMap FV.cells, k, hlen ▸ ho, fun b hb => hr.2 b (by subst hb; simp), fun w' v' k' ho' st hk' => ?_⟩
  have hk1 : ∀ b, k = some b → lo ≤ b ∧ b < hi := fun b hb => hr.2 b (by subst hb; simp)
  have hC : InR lo hi (els.flatMap fun x => x.F1 ++ x.F2) := ⟨(List.nodup_append.1 hr.1).2.1, fun b hb => hr.2 b (List.mem_append_right _ hb)⟩
  have hkC : ∀ b, k = some b → b ∉ els.flatMap (fun x => x.F1 ++ x.F2) := fun b hb hm => by
    subst hb
    exact (List.nodup_append.1 hr.1).2.2 b (by simp) b hm rfl
  have hx' : x.Ok w' := hx.frame fun b hb => st.block b (by have := (kr.2 b hb).2; omega) fun hbk => by have := (hk1 b hbk.symm).2; have := (kr.2 b hb).1; omega
  have hok' : ∀ y ∈ els, y.Ok w' := fun y hy => (hok y hy).frame fun b hb => by
    have hm : b ∈ els.flatMap (fun x => x.F1 ++ x.F2) := List.mem_flatMap.2 ⟨y, hy, hb⟩
    exact st.block b (by have := (hC.2 b hm).2; omega) fun hbk => hkC b hbk.symm hm
  refine ⟨k'.toList ++ (els ++ [x]).flatMap (fun x => x.F1 ++ x.F2), ⟨els ++ [x], k', rfl, by rw [List.map_append, hmap]; simp [hf], ?_, by rw [List.length_append, List.length_singleton, hlen]; exact hn, fun y hy => ?_⟩, ?_⟩
  · rw [List.length_append, List.length_singleton, List.flatMap_append, List.flatMap_singleton, hlen]; simpa using ho'
  · rcases List.mem_append.1 hy with hy | hy
    · exact hok' y hy
    · simp at hy; subst hy; exact hx'
  · rw [List.flatMap_append, List.flatMap_singleton]
    have hs := st.size
    rcases hk' with rfl | ⟨j, rfl, hj⟩
    · rw [← List.append_assoc]
      exact (hr.app kr h1 h2).mono (Nat.le_refl _) (by omega)
    · have hjlt := ho'.lt j rfl
      exact (((hC.app kr h1 h2).mono (Nat.le_refl _) (show hi2 ≤ j by omega)).app (InR.one.mono (Nat.le_refl j) hjlt) (by omega) (by omega)).perm (by
        show List.Perm (_ ++ [j]) ([j] ++ _)
        exact List.perm_append_comm)

/-- It reads as these functions. -/
theorem FsR.funcs {w : World} {lo hi : Nat} {v : Value} {fs : List Nd.Fn} {S : Nat → Prop} (h : FsR w lo hi v fs) (hS : ∀ b, lo ≤ b → b < hi → S b) : FuncsIn w S false v fs := by
  obtain ⟨F, ⟨els, k, rfl, hmap, ho, hle, hok⟩, hr⟩ := h
  have hlen : els.length = fs.length := by rw [← hmap, List.length_map]
  have hS' : ∀ b ∈ k.toList ++ els.flatMap (fun x => x.F1 ++ x.F2), S b := fun b hb => hS b (hr.2 b hb).1 (hr.2 b hb).2
  obtain ⟨h1, h2⟩ := ho
  rcases h2 with ⟨rfl, h0, _⟩ | ⟨b, off, cap, cur, rfl, rfl, hh, h5, h6, h7, h8⟩
  · have : fs = [] := List.eq_nil_of_length_eq_zero (by omega)
    subst this
    exact ⟨none, 0, rfl, Nat.le_refl _, Nat.zero_le _, Nat.zero_le _, fun e => (by cases e), fun i hi => absurd hi (Nat.not_lt_zero _)⟩
  · rw [hlen]
    refine ⟨_, cap, rfl, hlen ▸ h5, h6, hlen ▸ hle, fun e => (by cases e), fun i hi => ?_⟩
    have hi' : i < els.length := by omega
    have hx := hok _ (List.getElem_mem hi')
    have hfi : els[i].f = fs[i] := by
      have : (els.map (·.f))[i]? = fs[i]? := by rw [hmap]
      simpa [List.getElem?_map, List.getElem?_eq_getElem hi', List.getElem?_eq_getElem hi] using this
    have hcell : ∀ j (hj : j < 3), w.cell? ⟨b, off + i * 3 + j, none⟩ = (els[i].cells)[j]? := by
      intro j hj
      have hidx : ∀ (l : List FV) (i : Nat) (hi : i < l.length), (l.flatMap FV.cells)[i * 3 + j]? = (l[i].cells)[j]? := by
        intro l
        induction l with
        | nil => intro i hi; exact absurd hi (Nat.not_lt_zero _)
        | cons y l ih =>
          intro i hi
          rw [List.flatMap_cons]
          have hy : y.cells.length = 3 := rfl
          cases i with
          | zero => rw [List.getElem?_append_left (by rw [hy]; omega)]; simp
          | succ i =>
            rw [List.getElem?_append_right (by rw [hy]; omega), hy, show (i + 1) * 3 + j - 3 = i * 3 + j by omega, ih i (by simpa using hi)]
            simp
      have hlt : i * 3 + j < els.length * 3 := by omega
      have e1 := hidx els i hi'
      rw [cell_of_row w b (off + i * 3 + j) cur TFn (0, 0) hh, ← e1, ← h8, List.getElem?_take, List.getElem?_drop, if_pos hlt]
      simp [Nat.add_assoc]
    have m1 : ∀ b ∈ els[i].F1 ++ els[i].F2, S b := fun b hb => hS' b (List.mem_append_right _ (List.mem_flatMap.2 ⟨els[i], List.getElem_mem hi', hb⟩))
    refine ⟨b, off, els[i].va, els[i].vb, rfl, hS' b (by simp), ?_⟩
    rw [← hfi]
    exact ⟨hx.name, hcell 0 (by decide), hcell 1 (by decide), hcell 2 (by decide), hx.args.texts fun b hb => m1 b (List.mem_append_left _ hb), hx.body.nodes fun b hb => m1 b (List.mem_append_right _ hb)⟩

end Go.Proofs.YtcldcigopkfmmaaGreatDoor

/- Trees: the reader: a number; a node of two. -/
namespace Go.Proofs.YtcldcigopkfmmaaGreatDoor
open Go.RowKit Go.My Go.Nd

theorem nodeVar (w : World) (c : Nat) (v0 v1 v2 v3 v4 : Value) (h : w.heap[c]? = some (.cells #[v0, v1, v2, v3, v4] TN (0, 0))) : (loadVar 74 ⟨c, 0, none⟩).run Tryz.prog w = .ok (.agg #[v0, v1, v2, v3, v4]) w := by
  have c0 := cell_of_row w c 0 _ _ _ h
  have c1 := cell_of_row w c 1 _ _ _ h
  have c2 := cell_of_row w c 2 _ _ _ h
  have c3 := cell_of_row w c 3 _ _ _ h
  have c4 := cell_of_row w c 4 _ _ _ h
  simp at c0 c1 c2 c3 c4
  simp [loadVar, go_sem, c0, c1, c2, c3, c4]

theorem txbs (s : List UInt8) : tx s = bs s := rfl

/-- What a call that reads a node does. -/
def Got (w : World) (rb : Nat) (tv : Value) (xs : List To.T) (inn : Bool) (r : R Nd) (e : Ending) (w' : World) : Prop :=
  Step w w' (some rb) ∧ Rd w' rb tv xs r.rest inn ∧ match r with | .ok x _ => ∃ v, e = .returned v ∧ NR w' TN w.heap.size w'.heap.size v x | .bad _ => e = .panicked wrongChain

/-- The end of a function that gives a node: it is written into the result's cell. -/
theorem Put.node {w : World} {c : Nat} {z0 z1 z2 z3 z4 v0 v1 v2 v3 v4 : Value} (h : w.heap[c]? = some (.cells #[z0, z1, z2, z3, z4] TN (0, 0))) : Put w (((((w.setCell ⟨c, 0, none⟩ v0).setCell ⟨c, 1, none⟩ v1).setCell ⟨c, 2, none⟩ v2).setCell ⟨c, 3, none⟩ v3).setCell ⟨c, 4, none⟩ v4) c #[v0, v1, v2, v3, v4] TN := put5 h v0 v1 v2 v3 v4

theorem Rd.put {w1 w2 : World} {rb : Nat} {tv : Value} {xs : List To.T} {ts : List Tx} {inn : Bool} {c : Nat} {cs : Array Value} {T : TypeId} (h : Rd w1 rb tv xs ts inn) (hp : Put w1 w2 c cs T) (hc : rb < c) : Rd w2 rb tv xs ts inn :=
  h.keep (by rw [hp.size]; exact Nat.le_refl _) fun k hk => hp.oth k (by omega)

set_option maxRecDepth 100000 in
set_option maxHeartbeats 2000000 in
theorem rnum_t {w : World} {rb : Nat} {tv : Value} {xs : List To.T} {ts : List Tx} {inn : Bool} (h : Rd w rb tv xs ts inn) :
    Calls Tryz.prog 172 #[.pointer (some ⟨rb, 0, none⟩)] w (Got w rb tv xs inn (number ts)) := by
  have hl : (ts.getD 0 []).length ≤ 65536 := by
    cases ts with
    | nil => exact Nat.zero_le _
    | cons s r => obtain ⟨_, _, _, _, _, _, _, _, _, _, _, _, hs⟩ := h.token 0 (by simp); simpa using hs
  obtain ⟨hA, hnew, _⟩ := Put.new w #[.int .u8 0, .string ⟨#[]⟩, .slice none 0 0, .slice none 0 0, .slice none 0 0] 74
  obtain ⟨u, hu⟩ : ∃ u, u = ts.getD 0 [] := ⟨_, rfl⟩
  have HB0 := Lib.hid hA
  have HR := Lib.hid (And.intro hA (And.intro (h.later hA) (And.intro hnew (And.intro h (And.intro hl hu)))))
  have ht := tokText
  obtain ⟨c, hc⟩ : ∃ c, c = w.heap.size := ⟨_, rfl⟩
  have HC := Lib.hid hc
  clear h hl hA hnew hu
  go_enter Tryz.func172, Tryz.ntmps172
  go_upto_region 1 with fail
  rw [← hc]
  obtain ⟨wA, hwA⟩ : ∃ wA, wA = w.alloc (.cells #[.int .u8 0, .string ⟨#[]⟩, .slice none 0 0, .slice none 0 0, .slice none 0 0] 74) := ⟨_, rfl⟩
  rw [← hwA] at HR HB0 ⊢
  rw [← hc] at HR
  clear hwA hc
  go_wp2_with fail
  refine look_t HR.out.2.1 0 (by decide) fun i j w1 hb => ?_
  rw [← HR.out.2.2.2.2.2]
  have K1 := Lib.hid hb
  clear hb
  go_wp2_with fail
  refine plain_t u (by have := HR.out.2.2.2.2; rw [this.2]; omega) fun w2 hb2 => ?_
  have K2 := Lib.hid (K1.out.trans (hb2.mono K1.out.size))
  clear hb2
  obtain ⟨p, hp⟩ : ∃ p, p = plain u := ⟨_, rfl⟩
  have HP := Lib.hid hp
  rw [← hp]
  clear hp
  cases p with
  | true =>
    obtain ⟨r, hts⟩ : ∃ r, ts = u :: r := by
      have hu := HR.out.2.2.2.2.2
      cases ts with
      | nil => have hp := HP.out; rw [hu] at hp; simp [plain] at hp
      | cons s r => exact ⟨r, by rw [hu]; rfl⟩
    subst hts
    go_wp2_with fail
    refine next_yes (HR.out.2.1.later K2.out) fun w3 hs3 h3 => ?_
    have hlt : c < wA.heap.size := (Array.getElem?_eq_some_iff.1 HR.out.2.2.1).1
    have hrb : rb < c := by have := HR.out.2.2.2.1.lt; rw [HC.out]; exact this
    have hrow := (hs3.kept (Nat.lt_of_lt_of_le hlt K2.out.size) (Nat.ne_of_gt hrb)).trans ((K2.out.block c hlt).trans HR.out.2.2.1)
    have hst := ((Step.of_below HB0.out).trans (Step.of_below (K2.out))).trans hs3
    have q0 := cell_of_row w3 c 0 _ _ _ hrow
    have q1 := cell_of_row w3 c 1 _ _ _ hrow
    have q2 := cell_of_row w3 c 2 _ _ _ hrow
    have q3 := cell_of_row w3 c 3 _ _ _ hrow
    have q4 := cell_of_row w3 c 4 _ _ _ hrow
    simp at q0 q1 q2 q3 q4
    have f0 := frozen_of_row w3 c 0 _ _ hrow
    have f1 := frozen_of_row w3 c 1 _ _ hrow
    have f2 := frozen_of_row w3 c 2 _ _ hrow
    have f3 := frozen_of_row w3 c 3 _ _ hrow
    have f4 := frozen_of_row w3 c 4 _ _ hrow
    have HX := Lib.hid (And.intro hst (And.intro h3 (And.intro hrow hrb)))
    clear hst h3 hrow hs3 hlt hrb
    go_wp2_with fail
    have hp := put5 HX.out.2.2.1 (.int .u8 1) (.string (bs u)) (.slice none 0 0) (.slice none 0 0) (.slice none 0 0)
    refine bodyPost_ret (results_cell1 rfl _ _ _ rfl (nodeVar _ c _ _ _ _ _ hp.row)) rfl ?_
    have hz := HX.out.1.size
    have hz' := hp.size
    rw [show number (u :: r) = .ok (leaf 1 u) r by unfold number; simp only; rw [if_pos HP.out.symm]]
    exact ⟨HX.out.1.put hp (by rw [HC.out]; exact Nat.le_refl _), HX.out.2.1.put hp HX.out.2.2.2, _, rfl, NR.mk (by decide) (by have := HR.out.2.2.2.2; rw [this.2]; omega) (LR.nil _ _ _ w.heap.size) (LR.nil _ _ _ w.heap.size) (LR.nil _ _ _ _) (Nat.le_refl _) (Nat.le_refl _) (by omega)⟩
  | false =>
    go_wp2_with fail
    refine next_no ?_
    go_wp2_with fail
    have hr : number ts = .bad ts := by
      have hu := HR.out.2.2.2.2.2
      cases ts with
      | nil => rfl
      | cons s r =>
        have hus : u = s := hu
        unfold number; simp only; rw [← hus, if_neg (by rw [← HP.out]; decide)]
    rw [hr]
    exact ⟨rfl, Step.of_below (HB0.out.trans (K2.out.mono HB0.out.size)), HR.out.2.1.later K2.out, rfl⟩

set_option maxRecDepth 100000 in
set_option maxHeartbeats 2000000 in
theorem bin_t {w : World} {S U : Nat → Prop} {s : Tx} {va vb : Value} {a b : Nd} (ha : NS w TN S va a) (hb : NS w TN U vb b) (hd : ∀ b, S b → U b → False) (hs : s.length ≤ 65536) {Q : Ending → World → Prop}
    (hQ : ∀ v w', Below w.heap.size w w' → NS w' TN (fun b => S b ∨ U b ∨ w.heap.size ≤ b) v (bin s a b) → Q (.returned v) w') : Calls Tryz.prog 170 #[.string (bs s), va, vb] w Q := by
  obtain ⟨a1, c1, a2, c2, a3, c3, rfl⟩ := ha.form
  obtain ⟨b1, d1, b2, d2, b3, d3, rfl⟩ := hb.form
  have H := Lib.hid (And.intro ha (And.intro hb (And.intro hd hs)))
  have HQ := Lib.hid hQ
  clear ha hb hQ
  go_enter Tryz.func170, Tryz.ntmps170
  go_wp2_with fail
  obtain ⟨hA1, hn1, hz1⟩ := Put.new w #[.int .u8 (a.kind : Int), .string (tx a.text), .slice a1 a.l.len c1, .slice a2 a.body.len c2, .slice a3 a.els.len c3] 74
  generalize w.alloc (.cells #[.int .u8 (a.kind : Int), .string (tx a.text), .slice a1 a.l.len c1, .slice a2 a.body.len c2, .slice a3 a.els.len c3] 74) = w1 at *
  obtain ⟨hA2, hn2, hz2⟩ := Put.new w1 #[.int .u8 (b.kind : Int), .string (tx b.text), .slice b1 b.l.len d1, .slice b2 b.body.len d2, .slice b3 b.els.len d3] 74
  generalize w1.alloc (.cells #[.int .u8 (b.kind : Int), .string (tx b.text), .slice b1 b.l.len d1, .slice b2 b.body.len d2, .slice b3 b.els.len d3] 74) = w2 at *
  obtain ⟨hA3, hn3, hz3⟩ := Put.new w2 #[.int .u8 5, .string (bs s), .slice (some ⟨w.heap.size + 1 + 1 + 1, 0, none⟩) 2 2, .slice none 0 0, .slice none 0 0] 74
  generalize w2.alloc (.cells #[.int .u8 5, .string (bs s), .slice (some ⟨w.heap.size + 1 + 1 + 1, 0, none⟩) 2 2, .slice none 0 0, .slice none 0 0] 74) = w3 at *
  have z3 : w3.heap.size = w.heap.size + 1 + 1 + 1 := by omega
  have hb3 := (hA1.trans (hA2.mono hA1.size)).trans (hA3.mono (by omega))
  have h0 := H.out
  obtain ⟨F, hF, hn, hS⟩ := NS.two (h0.1.later hb3) (h0.2.1.later hb3) h0.2.2.1
  obtain ⟨hA4, _, hz4⟩ := Put.new w3 #[.int .u8 (a.kind : Int), .string (tx a.text), .slice a1 a.l.len c1, .slice a2 a.body.len c2, .slice a3 a.els.len c3, .int .u8 (b.kind : Int), .string (tx b.text), .slice b1 b.l.len d1, .slice b2 b.body.len d2, .slice b3 b.els.len d3] 74
  generalize w3.alloc (.cells #[.int .u8 (a.kind : Int), .string (tx a.text), .slice a1 a.l.len c1, .slice a2 a.body.len c2, .slice a3 a.els.len c3, .int .u8 (b.kind : Int), .string (tx b.text), .slice b1 b.l.len d1, .slice b2 b.body.len d2, .slice b3 b.els.len d3] 74) = w4 at *
  have hrow := (hA4.block w2.heap.size (by omega)).trans hn3
  have e2 : w2.heap.size = w.heap.size + 1 + 1 := by omega
  rw [e2] at hrow
  refine bodyPost_ret (results_cell1 rfl _ _ _ rfl (nodeVar _ (w.heap.size + 1 + 1) _ _ _ _ _ hrow)) rfl (HQ.out _ _ (hb3.trans (hA4.mono hb3.size)) ?_)
  rw [z3] at hF
  refine ⟨⟨5, s, .slice (some ⟨w.heap.size + 1 + 1 + 1, 0, none⟩) 2 2, .slice none 0 0, .slice none 0 0⟩, F, rfl, ⟨F, [], [], by simp, ⟨⟨rfl, (by decide : (5:Nat) < 256)⟩, rfl, (by have := h0.2.2.2; show s.length ≤ _; omega)⟩, hF, LF.nil _ _, LF.nil _ _⟩, hn, fun b hb => ?_⟩
  rcases hS b hb with h | h | h
  · exact .inl h
  · exact .inr (.inl h)
  · exact .inr (.inr (by omega))
end Go.Proofs.YtcldcigopkfmmaaGreatDoor

/- Trees: the reader: one, and then, so often at most, a sign and one more. -/
namespace Go.Proofs.YtcldcigopkfmmaaGreatDoor
open Go.RowKit Go.My Go.Nd

/-- Signs in a block of their own. -/
def SignsAt (w : World) (sb : Nat) (sg : List Tx) : Prop := w.heap[sb]? = some (.cells (sg.map fun s => Value.string (bs s)).toArray 9 (0, 0)) ∧ sg.length ≤ 9223372036854775807

theorem has_sign {w : World} {sb : Nat} {sg : List Tx} (h : SignsAt w sb sg) (s : Tx) {Q : Ending → World → Prop} (hQ : Q (.returned (.bool (sg.contains s))) w) :
    Calls Tryz.prog 163 #[.slice (some ⟨sb, 0, none⟩) sg.length sg.length, .string (bs s)] w Q := by
  refine Calls.mono (Tryz.slices_Contains_string sb 0 sg.length sg.length (sg.map bs) (bs s) w (by simp) h.2 (fun j hj => ?_)) ?_
  · rw [Nat.zero_add, cell_of_row _ _ _ _ _ _ h.1]
    have hj' : j < sg.length := by simpa using hj
    simp [List.getElem?_map, List.getElem?_eq_getElem hj', List.getD_eq_getElem?_getD]
  · rintro e w' ⟨rfl, rfl⟩
    have : Lib.containsS ((sg.map bs).take sg.length) (bs s) = sg.contains s := by
      rw [List.take_of_length_le (by simp), Bool.eq_iff_iff, Lib.containsS_iff]
      simp only [List.mem_map, List.contains_iff_mem]
      constructor
      · rintro ⟨x, hx, he⟩
        have := congrArg (fun s : ByteArray => s.data.toList) he
        simp only [bs_list] at this
        rw [← this]; exact hx
      · intro h; exact ⟨s, h, rfl⟩
    rw [this]; exact hQ

/-- What a row's function holds on to. -/
structure RowCap (w : World) (rb : Nat) (fv : Value) (most : Nat) (sg : List Tx) (k0 k1 k2 k3 sb : Nat) : Prop where
  read : w.heap[k0]? = some (.cells #[fv] 75 (0, 0))
  most : w.heap[k1]? = some (.cells #[.int .i64 (most : Int)] 3 (0, 0))
  signs : w.heap[k2]? = some (.cells #[.slice (some ⟨sb, 0, none⟩) sg.length sg.length] 68 (0, 0))
  rd : w.heap[k3]? = some (.cells #[.pointer (some ⟨rb, 0, none⟩)] 59 (0, 0))
  list : SignsAt w sb sg
  n0 : k0 ≠ rb
  n1 : k1 ≠ rb
  n2 : k2 ≠ rb
  n3 : k3 ≠ rb
  nb : sb ≠ rb

theorem heap_lt {w : World} {b : Nat} {o : Obj} (h : w.heap[b]? = some o) : b < w.heap.size := (Array.getElem?_eq_some_iff.1 h).1

theorem RowCap.step {w w' : World} {rb : Nat} {fv : Value} {most : Nat} {sg : List Tx} {k0 k1 k2 k3 sb : Nat} (h : RowCap w rb fv most sg k0 k1 k2 k3 sb) (hs : Step w w' (some rb)) : RowCap w' rb fv most sg k0 k1 k2 k3 sb :=
  ⟨(hs.kept (heap_lt h.read) h.n0).trans h.read, (hs.kept (heap_lt h.most) h.n1).trans h.most, (hs.kept (heap_lt h.signs) h.n2).trans h.signs, (hs.kept (heap_lt h.rd) h.n3).trans h.rd, ⟨(hs.kept (heap_lt h.list.1) h.nb).trans h.list.1, h.list.2⟩, h.n0, h.n1, h.n2, h.n3, h.nb⟩

/-- A function value that reads a node, as often as it is called, while K holds and so many tokens are left at most. -/
def Reads (fn : FuncId) (args : Array Value) (rb : Nat) (tv : Value) (xs : List To.T) (inn : Bool) (K : World → Prop) (n : Nat) (read : List Tx → R Nd) : Prop :=
  ∀ (w : World) (ts : List Tx), ts.length ≤ n → K w → Rd w rb tv xs ts inn → Calls Tryz.prog fn args w (Got w rb tv xs inn (read ts))

/-- At the head of a round. -/
structure RowSt (w : World) (rb : Nat) (tv : Value) (xs : List To.T) (inn : Bool) (K : World → Prop) (n : Nat) (fv : Value) (most : Nat) (sg : List Tx) (k0 k1 k2 k3 sb c b5 : Nat) (tot : R Nd) (read : List Tx → R Nd) (i : Nat) (x : Nd) (ts : List Tx) (v : Value) (wr : World) : Prop where
  left : i ≤ most
  plain : more sg read (most - i) x ts = tot
  len : ts.length ≤ n
  step : Step w wr (some rb)
  rd : Rd wr rb tv xs ts inn
  keep : K wr
  cap : RowCap wr rb fv most sg k0 k1 k2 k3 sb
  res : wr.heap[c]? = some (.cells #[.int .u8 0, .string ⟨#[]⟩, .slice none 0 0, .slice none 0 0, .slice none 0 0] TN (0, 0))
  box : ∃ cs, v = .agg cs ∧ wr.heap[b5]? = some (.cells cs TN (0, 0))
  node : NS wr TN (fun b => c < b ∧ b ≠ b5) v x
  hc : c = w.heap.size
  hrb : rb < c
  hb5 : c < b5
def RowAt (w : World) (rb : Nat) (tv : Value) (xs : List To.T) (inn : Bool) (K : World → Prop) (n : Nat) (fv : Value) (most : Nat) (sg : List Tx) (k0 k1 k2 k3 sb c b5 : Nat) (tot : R Nd) (read : List Tx → R Nd) (gk : Nat) (v6 : Value) (wr : World) : Prop :=
  ∃ i x ts v, gk = most - i ∧ v6 = .int .i64 (i : Int) ∧ RowSt w rb tv xs inn K n fv most sg k0 k1 k2 k3 sb c b5 tot read i x ts v wr

theorem RowCap.later {w w' : World} {rb : Nat} {fv : Value} {most : Nat} {sg : List Tx} {k0 k1 k2 k3 sb : Nat} (h : RowCap w rb fv most sg k0 k1 k2 k3 sb) (hb : Below w.heap.size w w') : RowCap w' rb fv most sg k0 k1 k2 k3 sb := h.step (Step.of_below hb)

def RowS (wr : World) (rb most : Nat) (sv : Value) (k1 k2 k3 : Nat) (w' : World) : Prop :=
  (w'.cell? ⟨k1, 0, none⟩ = some (.int .i64 (most : Int)) ∧ w'.cell? ⟨k2, 0, none⟩ = some sv ∧ w'.cell? ⟨k3, 0, none⟩ = some (.pointer (some ⟨rb, 0, none⟩))) ∧ Below wr.heap.size wr w'
theorem rowKeep {wr w' w'' : World} {rb most : Nat} {sv : Value} {k1 k2 k3 : Nat} (hS : (w'.cell? ⟨k1, 0, none⟩ = some (.int .i64 (most : Int)) ∧ w'.cell? ⟨k2, 0, none⟩ = some sv ∧ w'.cell? ⟨k3, 0, none⟩ = some (.pointer (some ⟨rb, 0, none⟩))) ∧ Below wr.heap.size wr w') (hk : Below w'.heap.size w' w'') :
    (w''.cell? ⟨k1, 0, none⟩ = some (.int .i64 (most : Int)) ∧ w''.cell? ⟨k2, 0, none⟩ = some sv ∧ w''.cell? ⟨k3, 0, none⟩ = some (.pointer (some ⟨rb, 0, none⟩))) ∧ Below wr.heap.size wr w'' := by
  obtain ⟨⟨h1, h2, h3⟩, hb⟩ := hS
  exact ⟨⟨(World.cell?_of_block (hk.block _ (World.block_lt_of_cell? _ _ h1))).trans h1, (World.cell?_of_block (hk.block _ (World.block_lt_of_cell? _ _ h2))).trans h2, (World.cell?_of_block (hk.block _ (World.block_lt_of_cell? _ _ h3))).trans h3⟩, hb.trans (hk.mono hb.size)⟩
theorem look_arm {wr w' : World} {rb : Nat} {tv : Value} {xs : List To.T} {ts : List Tx} {inn : Bool} (h : Rd wr rb tv xs ts inn) (k : Nat) (hk : k ≤ 1) {X : Prop} (hS : X ∧ Below wr.heap.size wr w') :
    Calls Tryz.prog 127 #[.pointer (some ⟨rb, 0, none⟩), .int .i64 (k : Int)] w' fun e w'' => ∃ i j, e = .returned (.agg #[.int .u8 i, .string (bs (ts.getD k [])), .int .i64 j]) ∧ Below w'.heap.size w' w'' :=
  look_t (h.later hS.2) k hk fun i j _ hb => ⟨i, j, rfl, hb⟩
theorem sign_arm {wr w' : World} {sb : Nat} {sg : List Tx} (h : SignsAt wr sb sg) (s : Tx) {cn : Bool} (hcn : cn = sg.contains s) {X : Prop} (hS : X ∧ Below wr.heap.size wr w') :
    Calls Tryz.prog 163 #[.slice (some ⟨sb, 0, none⟩) sg.length sg.length, .string (bs s)] w' fun e w'' => e = .returned (.bool cn) ∧ Below w'.heap.size w' w'' :=
  hcn ▸ has_sign ⟨(hS.2.block _ (heap_lt h.1)).trans h.1, h.2⟩ s ⟨rfl, Below.refl _ _⟩

theorem more_stop {sg : List Tx} {read : List Tx → R Nd} (k : Nat) (x : Nd) (ts : List Tx) (h : k = 0 ∨ sg.contains (ts.getD 0 []) = false) : more sg read k x ts = .ok x ts := by
  cases k with
  | zero => rfl
  | succ k =>
    cases ts with
    | nil => rfl
    | cons s r =>
      have hs : sg.contains s = false := by rcases h with h | h; · cases h
                                            · exact h
      unfold more
      rw [if_neg (by rw [hs]; decide)]
theorem row_bad {sg : List Tx} {read : List Tx → R Nd} {most i : Nat} {x : Nd} {s : Tx} {r q : List Tx} (_ : i ≤ most) (hlt : i < most) (hs : true = sg.contains s) (hr : read r = .bad q) : more sg read (most - i) x (s :: r) = .bad q := by
  obtain ⟨k, hk⟩ : ∃ k, most - i = k + 1 := ⟨most - i - 1, by omega⟩
  rw [hk]; unfold more; rw [if_pos hs.symm, hr]; rfl
theorem row_ok {sg : List Tx} {read : List Tx → R Nd} {most i : Nat} {x y : Nd} {s : Tx} {r q : List Tx} (hlt : i < most) (hs : true = sg.contains s) (hr : read r = .ok y q) : more sg read (most - i) x (s :: r) = more sg read (most - (i + 1)) (bin s x y) q := by
  obtain ⟨k, hk⟩ : ∃ k, most - i = k + 1 := ⟨most - i - 1, by omega⟩
  rw [hk, show most - (i + 1) = k by omega]; conv => lhs; unfold more
  rw [if_pos hs.symm, hr]; rfl
theorem RowSt.rows {w : World} {rb : Nat} {tv : Value} {xs : List To.T} {inn : Bool} {K : World → Prop} {n : Nat} {fv : Value} {most : Nat} {sg : List Tx} {k0 k1 k2 k3 sb c b5 : Nat} {tot : R Nd} {read : List Tx → R Nd} {i : Nat} {x : Nd} {ts : List Tx} {v : Value} {wr w2 : World}
    (h : RowSt w rb tv xs inn K n fv most sg k0 k1 k2 k3 sb c b5 tot read i x ts v wr) (hb : Below wr.heap.size wr w2) {cs : Array Value} (hx : wr.heap[b5]? = some (.cells cs TN (0, 0))) : w2.heap[b5]? = some (.cells cs TN (0, 0)) ∧ w2.heap[c]? = some (.cells #[.int .u8 0, .string ⟨#[]⟩, .slice none 0 0, .slice none 0 0, .slice none 0 0] TN (0, 0)) :=
  ⟨(hb.block _ (heap_lt hx)).trans hx, (hb.block _ (heap_lt h.res)).trans h.res⟩
theorem RowSt.done {w : World} {rb : Nat} {tv : Value} {xs : List To.T} {inn : Bool} {K : World → Prop} {n : Nat} {fv : Value} {most : Nat} {sg : List Tx} {k0 k1 k2 k3 sb c b5 : Nat} {tot : R Nd} {read : List Tx → R Nd} {i : Nat} {x : Nd} {ts : List Tx} {v : Value} {wr w2 w3 : World}
    (h : RowSt w rb tv xs inn K n fv most sg k0 k1 k2 k3 sb c b5 tot read i x ts v wr) (hb : Below wr.heap.size wr w2) (hm : most - i = 0 ∨ sg.contains (ts.getD 0 []) = false) {cs : Array Value} (hp : Put w2 w3 c cs TN) (hv : v = .agg cs) : Got w rb tv xs inn tot (.returned (.agg cs)) w3 := by
  subst hv
  rw [← h.plain, more_stop _ _ _ hm]
  have hc := h.hc
  refine ⟨(h.step.trans (Step.of_below hb)).put hp (by omega), (h.rd.later hb).put hp h.hrb, _, rfl, ?_⟩
  exact (NS.frame (h.node.later hb) fun b hb' _ => hp.oth b (by omega)).nr fun b hb' => by omega

theorem NS.over {w w' : World} {rb : Nat} {S : Nat → Prop} {v : Value} {x : Nd} (h : NS w TN S v x) (hs : Step w w' (some rb)) (hS : ∀ b, S b → b ≠ rb) : NS w' TN (fun b => S b ∧ b < w.heap.size) v x :=
  NS.frame (NS.mono h fun _ h1 h2 => ⟨h1, h2⟩) fun b hb hlt => hs.kept hlt (hS b hb.1)
theorem RowSt.next {w : World} {rb : Nat} {tv : Value} {xs : List To.T} {inn : Bool} {K : World → Prop} {n : Nat} {fv : Value} {most : Nat} {sg : List Tx} {k0 k1 k2 k3 sb c b5 : Nat} {tot : R Nd} {read : List Tx → R Nd} {i : Nat} {x y : Nd} {s : Tx} {r1 q : List Tx} {v : Value} {wr w3 w4 w5 w6 : World} {ds : Array Value}
    (h : RowSt w rb tv xs inn K n fv most sg k0 k1 k2 k3 sb c b5 tot read i x (s :: r1) v wr) (hlt : i < most) (hsg : true = sg.contains s) (hKw : K w) (hC : RowCap w rb fv most sg k0 k1 k2 k3 sb) (hK : ∀ w w', K w → Step w w' (some rb) → K w') (hd : ∀ ts, (read ts).Down ts)
    (s3 : Step wr w3 (some rb)) (s4 : Step w3.drew w4 (some rb)) (hrd : read r1 = .ok y q) (h4 : Rd w4 rb tv xs q inn) {U : Nat → Prop} (hb5 : Below w4.heap.size w4 w5) (hN5 : NS w5 TN U (.agg ds) (bin s x y)) (hU : ∀ b, U b → c < b ∧ b ≠ b5)
    (hp : Put w5 w6 b5 ds TN) : RowSt w rb tv xs inn K n fv most sg k0 k1 k2 k3 sb c b5 tot read (i + 1) (bin s x y) q (.agg ds) w6 := by
  have hbox := h.box
  have hcb := h.hb5
  have hrc := h.hrb
  have hc := h.hc
  obtain ⟨cs, rfl, hbx⟩ := hbox
  have s45 : Step wr w5 (some rb) := ((s3.trans (Step.of_below (Below.refl _ w3).drew)).trans s4).trans (Step.of_below hb5)
  have hbw : w.heap.size ≤ wr.heap.size := h.step.size
  have st6 : Step w w6 (some rb) := (h.step.trans s45).put hp (by omega)
  have hlen := h.len
  have hq := (hd r1).lt hrd
  rw [List.length_cons] at hlen
  have hdif : ∀ k o, wr.heap[k]? = some o → k ≠ rb → k ≠ b5 → w6.heap[k]? = some o := fun k o hk h1 h2 => (hp.oth k h2).trans ((s45.kept (heap_lt hk) h1).trans hk)
  exact ⟨hlt, (row_ok hlt hsg hrd).symm.trans h.plain, by omega, st6, (h4.later hb5).put hp (by omega), hK _ _ hKw st6, hC.step st6, hdif c _ h.res (by omega) (by omega), ⟨ds, rfl, hp.row⟩,
    NS.mono (NS.frame hN5 fun b hb _ => hp.oth b (hU b hb).2) fun b hb _ => hU b hb, hc, hrc, hcb⟩
set_option maxRecDepth 100000 in
set_option maxHeartbeats 4000000 in
theorem row1_t {fn : FuncId} {first cap : Array Value} {rb : Nat} {tv : Value} {xs : List To.T} {inn : Bool} {K : World → Prop} {n : Nat} {read : List Tx → R Nd} (hcf : ∀ (wx : World), (callFunc fn (first ++ cap)).run Tryz.prog wx = .ok (.enter fn (first ++ cap)) wx)
    (hK : ∀ w w', K w → Step w w' (some rb) → K w') (hread : Reads fn (first ++ cap) rb tv xs inn K n read) (hd : ∀ ts, (read ts).Down ts) {most : Nat} {sg : List Tx} {k0 k1 k2 k3 sb : Nat} (hmost : most ≤ 65536) (hsg : sg.contains [] = false) (hsl : ∀ s ∈ sg, s.length ≤ 65536) :
    Reads 169 #[.pointer (some ⟨k0, 0, none⟩), .pointer (some ⟨k1, 0, none⟩), .pointer (some ⟨k2, 0, none⟩), .pointer (some ⟨k3, 0, none⟩)] rb tv xs inn (fun w => K w ∧ RowCap w rb (.func (.func fn) first cap) most sg k0 k1 k2 k3 sb) n (row most sg read) := by
  intro w ts hn hKC h
  obtain ⟨hKw, hC⟩ := hKC
  obtain ⟨hA, hnew, hz⟩ := Put.new w #[.int .u8 0, .string ⟨#[]⟩, .slice none 0 0, .slice none 0 0, .slice none 0 0] 74
  obtain ⟨c, hc⟩ : ∃ c, c = w.heap.size := ⟨_, rfl⟩
  obtain ⟨wA, hwA⟩ : ∃ wA, wA = w.alloc (.cells #[.int .u8 0, .string ⟨#[]⟩, .slice none 0 0, .slice none 0 0, .slice none 0 0] 74) := ⟨_, rfl⟩
  rw [← hwA] at hA hnew hz
  have hrb := h.lt
  have hst := Step.of_below (row := some rb) hA
  have HX := Lib.hid (And.intro hst (And.intro (h.later hA) (And.intro (hK _ _ hKw hst) (And.intro (hC.step hst) (And.intro (hc ▸ hnew) (And.intro hc hz))))))
  have HKW := Lib.hid (And.intro hKw hC)
  have HR := Lib.hid hread
  have HK := Lib.hid hK
  have HDN := Lib.hid hd
  have HSL := Lib.hid hsl
  have e0 := cell_of_row wA k0 0 _ _ _ HX.out.2.2.2.1.read
  simp at e0
  clear hA hnew hz hst h hKw hC hread hK hsl
  go_enter Tryz.func169, Tryz.ntmps169
  go_upto_region 1 with fail
  rw [← hwA, ← hc]
  clear hwA hc
  go_wp2_with fail
  refine (HR.out wA ts hn HX.out.2.2.1 HX.out.2.1).mono ?_
  rintro e w1 ⟨hs1, h1, hres⟩
  cases hrd : read ts with
  | bad r =>
    rw [hrd] at hres h1
    subst hres
    go_wp2_with fail
    refine ⟨rfl, ?_⟩
    rw [show row most sg read ts = .bad r by unfold row; rw [hrd]; rfl]
    exact ⟨HX.out.1.trans hs1, h1, rfl⟩
  | ok x r =>
    rw [hrd] at hres h1
    obtain ⟨v, rfl, hN⟩ := hres
    obtain ⟨u1, m1, u2, m2, u3, m3, rfl⟩ := hN.form
    obtain ⟨b5, hb5⟩ : ∃ b5, b5 = w1.heap.size := ⟨_, rfl⟩
    obtain ⟨w2, hw2⟩ : ∃ w2, w2 = w1.alloc (.cells #[.int .u8 (x.kind : Int), .string (tx x.text), .slice u1 x.l.len m1, .slice u2 x.body.len m2, .slice u3 x.els.len m3] 74) := ⟨_, rfl⟩
    obtain ⟨hA2, hn2, hz2⟩ := Put.new w1 #[.int .u8 (x.kind : Int), .string (tx x.text), .slice u1 x.l.len m1, .slice u2 x.body.len m2, .slice u3 x.els.len m3] 74
    have hdn := (hd ts).lt hrd
    have hcA : c < wA.heap.size := by have := HX.out.2.2.2.2.2; omega
    have hrbc : rb < c := by have := HX.out.2.2.2.2.2.1; omega
    rw [← hw2] at hA2 hn2 hz2
    have hst : RowSt w rb tv xs inn K n (.func (.func fn) first cap) most sg k0 k1 k2 k3 sb c b5 (row most sg read ts) read 0 x r (.agg #[.int .u8 (x.kind : Int), .string (tx x.text), .slice u1 x.l.len m1, .slice u2 x.body.len m2, .slice u3 x.els.len m3]) w2 :=
      ⟨Nat.zero_le _, by unfold row; rw [hrd]; rfl, by omega, (HX.out.1.trans hs1).trans (Step.of_below hA2), h1.later hA2, HK.out _ _ (HK.out _ _ HX.out.2.2.1 hs1) (Step.of_below hA2), (HX.out.2.2.2.1.step hs1).later hA2,
        (hA2.block c (Nat.lt_of_lt_of_le hcA hs1.size)).trans ((hs1.kept hcA (Nat.ne_of_gt hrbc)).trans HX.out.2.2.2.2.1), ⟨_, rfl, hb5 ▸ hn2⟩, (hN.ns (S := fun b => c < b ∧ b ≠ b5) fun b q1 q2 => ⟨by omega, by omega⟩).later hA2, HX.out.2.2.2.2.2.1, hrbc, by have := hs1.size; omega⟩
    have HS := Lib.hid hst
    clear hs1 h1 hN hA2 hn2 hz2 hcA hrbc hst hrd hdn e0
    go_upto_region 2 with fail
    rw [← hb5, ← hw2]
    clear hb5 hw2
    go_wp2_with fail
    go_loopg [6, 7] most (fun gk v6 v7 wr => RowAt w rb tv xs inn K n (.func (.func fn) first cap) most sg k0 k1 k2 k3 sb c b5 (row most sg read ts) read gk v6 wr)
    case atStart => exact ⟨0, x, r, _, rfl, rfl, HS.out⟩
    case round =>
      obtain ⟨i, x, ts1, v, rfl, rfl, hst⟩ := hrel
      obtain ⟨cs, rfl, hbox⟩ := hst.box
      obtain ⟨a1, d1, a2, d2, a3, d3, e⟩ := hst.node.form
      cases e
      have HT := Lib.hid (And.intro hst hbox)
      have p1 := cell_of_row wr k1 0 _ _ _ hst.cap.most
      have p2 := cell_of_row wr k2 0 _ _ _ hst.cap.signs
      have p3 := cell_of_row wr k3 0 _ _ _ hst.cap.rd
      simp at p1 p2 p3
      have i0 : (0 : Int) ≤ (i : Int) := by omega
      have i1 : (i : Int) ≤ 65536 := by have := hst.left; omega
      clear hst hbox HS
      have tT := tokText
      by_cases hlt : i < most
      · have hlti : (i : Int) < (most : Int) := by omega
        obtain ⟨s, hs⟩ : ∃ s, s = ts1.getD 0 [] := ⟨_, rfl⟩
        have hlook := fun (w' : World) (X : Prop) (hS : X ∧ Below wr.heap.size wr w') => look_arm HT.out.1.rd 0 (by decide) hS
        rw [← hs] at hlook
        have HLK := Lib.hid hlook
        have HLT := Lib.hid hlt
        have HSS := Lib.hid hs
        obtain ⟨cn, hcn⟩ : ∃ cn, cn = sg.contains s := ⟨_, rfl⟩
        have HCN := Lib.hid hcn
        clear hlook hlt hs hcn
        go_upto_region 3 with fail
        go_region_held3 (fun w' => (w'.cell? ⟨k1, 0, none⟩ = some (.int .i64 (most : Int)) ∧ w'.cell? ⟨k2, 0, none⟩ = some (.slice (some ⟨sb, 0, none⟩) sg.length sg.length) ∧ w'.cell? ⟨k3, 0, none⟩ = some (.pointer (some ⟨rb, 0, none⟩))) ∧ Below wr.heap.size wr w')
          (first | assumption | exact ⟨⟨p1, p2, p3⟩, (Below.refl _ _).drew⟩ | exact rowKeep (by assumption) (by assumption))
          (first
            | (go_at_call 127; refine (HLK.out _ _ (by assumption)).mono ?_; rintro e w'' ⟨ii, jj, rfl, hk⟩)
            | (go_at_call 163; refine (sign_arm HT.out.1.cap.list s HCN.out (by assumption)).mono ?_; rintro e w'' ⟨rfl, hk⟩))
        rename_i hH
        have HB := Lib.hid hH.2
        clear hH p1 p2 p3
        cases cn with
        | true =>
          obtain ⟨r1, hr1⟩ : ∃ r1, ts1 = s :: r1 := by
            cases ts1 with
            | nil => have := HCN.out; rw [HSS.out] at this; rw [show ([] : List Tx).getD 0 [] = [] from rfl, hsg] at this; cases this
            | cons a b => exact ⟨b, by rw [HSS.out]; rfl⟩
          subst hr1
          have g3 := cell_of_row _ k3 0 _ _ _ (HT.out.1.cap.later HB.out).rd
          simp at g3
          go_wp2_with fail
          refine next_yes (HT.out.1.rd.later HB.out) fun w3 hs3 h3 => ?_
          obtain ⟨hbx, hrs⟩ := HT.out.1.rows HB.out HT.out.2
          have hb5 := HT.out.1.hb5
          have hrbc := HT.out.1.hrb
          have hs03 := (Step.of_below (row := some rb) HB.out).trans hs3
          have hbx3 := (hs3.kept (heap_lt hbx) (by omega)).trans hbx
          have hrs3 := (hs3.kept (heap_lt hrs) (by omega)).trans hrs
          have hc3 := HT.out.1.cap.step hs03
          have hK3 := HK.out _ _ HT.out.1.keep hs03
          obtain ⟨x0, x1, x2, x3, x4, g0, g1, g2, g3, g4⟩ := row5 hbx3
          have y0 := cell_of_row _ k0 0 _ _ _ hc3.read
          simp at y0
          have hn3 := HT.out.1.node.frame (w' := w3) fun b hb hlt => ((hs3.kept (Nat.lt_of_lt_of_le hlt HB.out.size) (by omega)).trans (HB.out.block b hlt))
          have hlr : r1.length ≤ n := by have := HT.out.1.len; simp at this; omega
          have hs6 : s.length ≤ 65536 := HSL.out s (by have := HCN.out; simpa using this.symm)
          have H3 := Lib.hid (And.intro hs03 (And.intro h3 (And.intro hbx3 (And.intro hrs3 (And.intro hc3 (And.intro hK3 (And.intro hn3 (And.intro hlr hs6))))))))
          clear hs3 h3 hbx hrs hs03 hbx3 hrs3 hc3 hK3 hn3 hb5 hrbc hlr hs6
          go_upto_region 6 with fail
          have hbad : ∀ q w4, read r1 = .bad q → Step w3.drew w4 (some rb) → Rd w4 rb tv xs q inn → Got w rb tv xs inn (row most sg read ts) (.panicked wrongChain) w4 := fun q w4 hrd hs4 h4 => by
            rw [← HT.out.1.plain, row_bad HT.out.1.left HLT.out HCN.out hrd]
            exact ⟨HT.out.1.step.trans ((H3.out.1.trans (Step.of_below (Below.refl _ w3).drew)).trans hs4), h4, rfl⟩
          have HBAD := Lib.hid hbad
          have HAFT := Lib.hid (fun (w4 : World) (hs4 : Step w3.drew w4 (some rb)) => ((hs4.kept (c := b5) (heap_lt H3.out.2.2.1) (by have := HT.out.1.hb5; have := HT.out.1.hrb; omega)).trans H3.out.2.2.1))
          clear hbad
          go_region_law (first
            | (go_simp; go_at_call 170; (refine bin_t X4.out.2.2.1 X4.out.2.2.2.1 X4.out.2.2.2.2.1 H3.out.2.2.2.2.2.2.2.2 ?_); intro v5 w5 hb5' hN5; obtain ⟨p1, q1, p2, q2, p3, q3, rfl⟩ := hN5.form; have hrow5 := (hb5'.block b5 (heap_lt X4.out.2.2.2.2.2)).trans X4.out.2.2.2.2.2; obtain ⟨x0'', x1'', x2'', x3'', x4'', g0'', g1'', g2'', g3'', g4''⟩ := row5 hrow5; have X5 := Lib.hid (And.intro hb5' (And.intro hN5 hrow5)); clear hb5' hN5 hrow5)
            | (go_simp; refine (HR.out _ r1 H3.out.2.2.2.2.2.2.2.1 (HK.out _ _ H3.out.2.2.2.2.2.1 (Step.of_below (Below.refl _ w3).drew)) (H3.out.2.1.later (Below.refl _ w3).drew)).mono ?_; rintro e w4 ⟨hs4, h4, hres⟩; cases hrd : read r1; rotate_left 1; (rename_i q; rw [hrd] at hres h4; subst hres; exact ⟨rfl, HBAD.out _ _ hrd hs4 h4⟩); rename_i y q; rw [hrd] at hres h4; obtain ⟨v4, rfl, hN4⟩ := hres; obtain ⟨o1, e1, o2, e2, o3, e3, rfl⟩ := hN4.form; have hrow4 := HAFT.out w4 hs4; obtain ⟨x0', x1', x2', x3', x4', g0', g1', g2', g3', g4'⟩ := row5 hrow4; have X4 := Lib.hid (show Step w3.drew w4 (some rb) ∧ (read r1 = .ok y q ∧ Rd w4 rb tv xs q inn) ∧ NS w4 TN (fun b => (c < b ∧ b ≠ b5) ∧ b < w3.drew.heap.size) (.agg #[.int .u8 (x.kind : Int), .string (tx x.text), .slice a1 x.l.len d1, .slice a2 x.body.len d2, .slice a3 x.els.len d3]) x ∧ NS w4 TN (fun b => w3.drew.heap.size ≤ b) (.agg #[.int .u8 (y.kind : Int), .string (tx y.text), .slice o1 y.l.len e1, .slice o2 y.body.len e2, .slice o3 y.els.len e3]) y ∧ (∀ b, ((c < b ∧ b ≠ b5) ∧ b < w3.drew.heap.size) → w3.drew.heap.size ≤ b → False) ∧ w4.heap[b5]? = some (.cells #[.int .u8 (x.kind : Int), .string (tx x.text), .slice a1 x.l.len d1, .slice a2 x.body.len d2, .slice a3 x.els.len d3] TN (0, 0)) from ⟨hs4, ⟨hrd, h4⟩, NS.over (NS.later H3.out.2.2.2.2.2.2.1 (Below.refl _ w3).drew) hs4 (fun b hb => by have := HT.out.1.hrb; omega), hN4.ns (fun b h1 _ => h1), fun b h1 h2 => by omega, hrow4⟩); clear hs4 h4 hN4 hrd hrow4))
          all_goals
            have hp := put5 X5.out.2.2 (.int .u8 ((bin s x y).kind : Int)) (.string (tx (bin s x y).text)) (.slice p1 (bin s x y).l.len q1) (.slice p2 (bin s x y).body.len q2) (.slice p3 (bin s x y).els.len q3)
            have HP := Lib.hid hp
            clear hp
            go_wp2_with fail
            go_roundg (most - (i + 1))
            case measure => have := HLT.out; omega
            case rel => exact ⟨i + 1, bin s x y, q, _, rfl, by go_num, RowSt.next HT.out.1 HLT.out HCN.out HKW.out.1 HKW.out.2 HK.out HDN.out H3.out.1 X4.out.1 X4.out.2.1.1 X4.out.2.1.2 X5.out.1 X5.out.2.1 (fun b hb => by
              have b1 : b5 < w3.drew.heap.size := heap_lt H3.out.2.2.1
              have b2 := X4.out.1.size
              have b3 := HT.out.1.hb5
              rcases hb with h | h | h
              · exact h.1
              · exact ⟨by omega, by omega⟩
              · exact ⟨by omega, by omega⟩) HP.out⟩
        | false =>
          obtain ⟨hbx, hrs⟩ := HT.out.1.rows HB.out HT.out.2
          obtain ⟨x0, x1, x2, x3, x4, _, _, _, _, _⟩ := row5 hbx
          obtain ⟨y0, y1, y2, y3, y4, g0, g1, g2, g3, g4⟩ := row5 hrs
          have HQ := Lib.hid hrs
          clear hbx hrs
          go_wp2_with fail
          have hp := put5 HQ.out (.int .u8 (x.kind : Int)) (.string (tx x.text)) (.slice a1 x.l.len d1) (.slice a2 x.body.len d2) (.slice a3 x.els.len d3)
          exact bodyPost_ret (results_cell1 rfl _ _ _ rfl (nodeVar _ c _ _ _ _ _ hp.row)) rfl (HT.out.1.done HB.out (.inr (by rw [← HSS.out, ← HCN.out])) hp rfl)
      · have hlti : (most : Int) ≤ (i : Int) := by omega
        have HM0 := Lib.hid (show most - i = 0 by omega)
        have hdec : decide (i < most) = false := by simpa using hlt
        clear hlt
        go_upto_region 3 with fail
        go_region
        have HB := Lib.hid (Below.refl wr.heap.size wr).drew
        clear p1 p2 p3
        obtain ⟨hbx, hrs⟩ := HT.out.1.rows HB.out HT.out.2
        obtain ⟨x0, x1, x2, x3, x4, _, _, _, _, _⟩ := row5 hbx
        obtain ⟨y0, y1, y2, y3, y4, g0, g1, g2, g3, g4⟩ := row5 hrs
        have HQ := Lib.hid hrs
        clear hbx hrs
        have u := row5 HT.out.1.res
        obtain ⟨z0, z1, z2, z3, z4, t0, t1, t2, t3, t4⟩ := u
        go_wp2_with fail
        have hp := put5 HQ.out (.int .u8 (x.kind : Int)) (.string (tx x.text)) (.slice a1 x.l.len d1) (.slice a2 x.body.len d2) (.slice a3 x.els.len d3)
        exact bodyPost_ret (results_cell1 rfl _ _ _ rfl (nodeVar _ c _ _ _ _ _ hp.row)) rfl (HT.out.1.done HB.out (.inl HM0.out) hp rfl)
end Go.Proofs.YtcldcigopkfmmaaGreatDoor

/- Trees: the reader: a function that gives a node: its result's cell, from its start to its end. -/
namespace Go.Proofs.YtcldcigopkfmmaaGreatDoor
open Go.RowKit Go.My Go.Nd

/-- In the middle of a function that gives a node: the result's cell c holds nothing yet. -/
structure RA (w : World) (rb c : Nat) (w1 : World) : Prop where
  hc : c = w.heap.size
  hrb : rb < c
  st : Step w w1 (some rb)
  row : w1.heap[c]? = some (.cells #[.int .u8 0, .string ⟨#[]⟩, .slice none 0 0, .slice none 0 0, .slice none 0 0] TN (0, 0))

theorem RA.start {w : World} {rb : Nat} (h : rb < w.heap.size) : RA w rb w.heap.size (w.alloc (.cells #[.int .u8 0, .string ⟨#[]⟩, .slice none 0 0, .slice none 0 0, .slice none 0 0] TN)) :=
  ⟨rfl, h, Step.of_below (Put.new w _ TN).1, (Put.new w _ TN).2.1⟩
theorem RA.lt {w : World} {rb c : Nat} {w1 : World} (h : RA w rb c w1) : c < w1.heap.size := heap_lt h.row
theorem RA.step {w : World} {rb c : Nat} {w1 w2 : World} (h : RA w rb c w1) (hs : Step w1 w2 (some rb)) : RA w rb c w2 :=
  ⟨h.hc, h.hrb, h.st.trans hs, (hs.kept h.lt (Nat.ne_of_gt h.hrb)).trans h.row⟩
theorem RA.below {w : World} {rb c : Nat} {w1 w2 : World} (h : RA w rb c w1) (hs : Below w1.heap.size w1 w2) : RA w rb c w2 := h.step (Step.of_below hs)
/-- What is written into a block that is newer than the result's. -/
theorem RA.put {w : World} {rb c : Nat} {w1 w2 : World} {b : Nat} {cs : Array Value} {T : TypeId} (h : RA w rb c w1) (hp : Put w1 w2 b cs T) (hb : c < b) : RA w rb c w2 :=
  ⟨h.hc, h.hrb, h.st.put hp (by have := h.hc; omega), (hp.oth c (by omega)).trans h.row⟩
theorem RA.bad {w : World} {rb c : Nat} {w1 : World} {tv : Value} {xs : List To.T} {inn : Bool} {r : List Tx} (h : RA w rb c w1) (h1 : Rd w1 rb tv xs r inn) : Got w rb tv xs inn (.bad r) (.panicked wrongChain) w1 := ⟨h.st, h1, rfl⟩
theorem RA.fin {w : World} {rb c : Nat} {w1 w2 : World} {tv : Value} {xs : List To.T} {inn : Bool} {r : List Tx} {x : Nd} {cs : Array Value} {S : Nat → Prop} (h : RA w rb c w1) (h1 : Rd w1 rb tv xs r inn) (hN : NS w1 TN S (.agg cs) x) (hS : ∀ b, S b → c < b) (hp : Put w1 w2 c cs TN) :
    Got w rb tv xs inn (.ok x r) (.returned (.agg cs)) w2 := by
  have hc := h.hc
  refine ⟨h.st.put hp (by omega), h1.put hp h.hrb, _, rfl, ?_⟩
  exact (NS.frame hN fun b hb' _ => hp.oth b (by have := hS b hb'; omega)).nr fun b hb' => by have := hS b hb'; omega
/-- The node that a call gives, whatever was new at its start. -/
theorem NR.past {w w1 w2 : World} {rb c : Nat} {v : Value} {x : Nd} (h : RA w rb c w1) (hN : NR w2 TN w1.heap.size w2.heap.size v x) : NS w2 TN (fun b => c < b) v x :=
  hN.ns fun b h1 _ => by have := h.lt; omega
end Go.Proofs.YtcldcigopkfmmaaGreatDoor

/- Trees: the reader: an expression. -/
namespace Go.Proofs.YtcldcigopkfmmaaGreatDoor
open Go.RowKit Go.My Go.Nd

set_option maxRecDepth 100000 in
theorem row_t {w : World} {rb : Nat} {fn : FuncId} {first cap : Array Value} {most : Nat} {sg : List Tx} {sb : Nat} (hs : SignsAt w sb sg) (hrb : rb < w.heap.size) (hne : sb ≠ rb) {Q : Ending → World → Prop}
    (hQ : ∀ k0 k1 k2 k3 w', Below w.heap.size w w' → RowCap w' rb (.func (.func fn) first cap) most sg k0 k1 k2 k3 sb → Q (.returned (.func (.func 169) #[] #[.pointer (some ⟨k0, 0, none⟩), .pointer (some ⟨k1, 0, none⟩), .pointer (some ⟨k2, 0, none⟩), .pointer (some ⟨k3, 0, none⟩)])) w') :
    Calls Tryz.prog 161 #[.pointer (some ⟨rb, 0, none⟩), .int .i64 (most : Int), .slice (some ⟨sb, 0, none⟩) sg.length sg.length, .func (.func fn) first cap] w Q := by
  obtain ⟨a1, n1, z1⟩ := Put.new w #[.pointer (some ⟨rb, 0, none⟩)] 59
  have H := Lib.hid hQ
  have HS := Lib.hid (And.intro hs (And.intro hrb hne))
  clear hQ hs a1 n1 z1
  go_enter Tryz.func161, Tryz.ntmps161
  go_wp2_with fail
  obtain ⟨a1, n1, z1⟩ := Put.new w #[.pointer (some ⟨rb, 0, none⟩)] 59
  generalize w.alloc (.cells #[.pointer (some ⟨rb, 0, none⟩)] 59) = w1 at *
  obtain ⟨a2, n2, z2⟩ := Put.new w1 #[.int .i64 (most : Int)] 3
  generalize w1.alloc (.cells #[.int .i64 (most : Int)] 3) = w2 at *
  obtain ⟨a3, n3, z3⟩ := Put.new w2 #[.slice (some ⟨sb, 0, none⟩) sg.length sg.length] 68
  generalize w2.alloc (.cells #[.slice (some ⟨sb, 0, none⟩) sg.length sg.length] 68) = w3 at *
  obtain ⟨a4, n4, z4⟩ := Put.new w3 #[.func (.func fn) first cap] 75
  generalize w3.alloc (.cells #[.func (.func fn) first cap] 75) = w4 at *
  have hb : Below w.heap.size w w4 := ((a1.trans (a2.mono a1.size)).trans (a3.mono (by omega))).trans (a4.mono (by omega))
  have e1 : w4.heap[w.heap.size]? = _ := (a4.block _ (by omega)).trans ((a3.block _ (by omega)).trans ((a2.block _ (by omega)).trans n1))
  have e2 := (a4.block w1.heap.size (by omega)).trans ((a3.block _ (by omega)).trans n2)
  have e3 := (a4.block w2.heap.size (by omega)).trans n3
  have e4 := n4
  rw [z3, z2, z1] at e4
  rw [z2, z1] at e3
  rw [z1] at e2
  have hlt := HS.out.2.1
  exact H.out _ _ _ _ w4 hb ⟨e4, e2, e3, e1, ⟨(hb.block _ (heap_lt HS.out.1.1)).trans HS.out.1.1, HS.out.1.2⟩, by omega, by omega, by omega, by omega, HS.out.2.2⟩

set_option maxRecDepth 100000 in
set_option maxHeartbeats 2000000 in
theorem expr_r {rb : Nat} {tv : Value} {xs : List To.T} {inn : Bool} {n : Nat} (hr : Reads 162 #[.pointer (some ⟨rb, 0, none⟩)] rb tv xs inn (fun _ => True) n sg) :
    Reads 150 #[.pointer (some ⟨rb, 0, none⟩)] rb tv xs inn (fun _ => True) n expr := by
  intro w ts hn _ h
  have hle := h.le
  rw [Nd.expr_is xs.length ts hle]
  obtain ⟨K, hK⟩ : ∃ K, K = xs.length := ⟨_, rfl⟩
  have HKK := Lib.hid hK
  have hKl : K ≤ 65536 := by have := h.len; omega
  have R0 := RA.start h.lt
  have h0 := h.later (Put.new w #[.int .u8 0, .string ⟨#[]⟩, .slice none 0 0, .slice none 0 0, .slice none 0 0] TN).1
  obtain ⟨c, hc⟩ : ∃ c, c = w.heap.size := ⟨_, rfl⟩
  obtain ⟨wA, hwA⟩ : ∃ wA, wA = w.alloc (.cells #[.int .u8 0, .string ⟨#[]⟩, .slice none 0 0, .slice none 0 0, .slice none 0 0] TN) := ⟨_, rfl⟩
  rw [← hwA] at R0 h0
  rw [← hc] at R0
  obtain ⟨ao, cap, hv, _, _, _⟩ := h.toks
  subst hv
  rw [← hK] at h0 ⊢
  have c0 := h0.cell.1
  have H := Lib.hid (And.intro R0 (And.intro h0 (And.intro hn hKl)))
  have HR := Lib.hid hr
  clear hr h R0 h0 hle hn
  go_enter Tryz.func150, Tryz.ntmps150
  go_upto_region 1 with fail
  rw [← hwA, ← hc]
  clear hwA hc hK
  go_wp2_with fail
  have S1 : SignsAt (wA.alloc (.cells #[.string ⟨#[42]⟩, .string ⟨#[47]⟩] 9)) wA.heap.size muls := ⟨(Put.new wA _ _).2.1, by decide⟩
  refine row_t (most := K) (sg := muls) S1 (by have := H.out.2.1.lt; have := (Put.new wA #[.string ⟨#[42]⟩, .string ⟨#[47]⟩] 9).2.2; omega) (Nat.ne_of_gt H.out.2.1.lt) ?_
  intro k0 k1 k2 k3 w1 hb1 C1
  have B1 := (Put.new wA #[.string ⟨#[42]⟩, .string ⟨#[47]⟩] 9).1.trans (hb1.mono (Put.new wA #[.string ⟨#[42]⟩, .string ⟨#[47]⟩] 9).1.size)
  have X1 := Lib.hid (And.intro B1 C1)
  clear S1 hb1 C1 B1
  go_wp2_with fail
  have S2 : SignsAt (w1.alloc (.cells #[.string ⟨#[43]⟩, .string ⟨#[45]⟩] 9)) w1.heap.size adds := ⟨(Put.new w1 _ _).2.1, by decide⟩
  have q1 := X1.out.1.size
  refine row_t (most := K) (sg := adds) S2 (by have := H.out.2.1.lt; have := (Put.new w1 #[.string ⟨#[43]⟩, .string ⟨#[45]⟩] 9).2.2; omega) (by have := H.out.2.1.lt; omega) ?_
  intro j0 j1 j2 j3 w2 hb2 C2
  have B2 := (Put.new w1 #[.string ⟨#[43]⟩, .string ⟨#[45]⟩] 9).1.trans (hb2.mono (Put.new w1 #[.string ⟨#[43]⟩, .string ⟨#[45]⟩] 9).1.size)
  have X2 := Lib.hid (And.intro B2 (And.intro C2 q1))
  clear S2 hb2 C2 B2 q1
  go_wp2_with fail
  have S3 : SignsAt (w2.alloc (.cells #[.string ⟨#[61, 61]⟩, .string ⟨#[33, 61]⟩, .string ⟨#[60]⟩, .string ⟨#[60, 61]⟩] 9)) w2.heap.size cmps := ⟨(Put.new w2 _ _).2.1, by decide⟩
  have q2 := X2.out.1.size
  refine row_t (most := 1) (sg := cmps) S3 (by have := H.out.2.1.lt; have := X2.out.2.2; have := (Put.new w2 #[.string ⟨#[61, 61]⟩, .string ⟨#[33, 61]⟩, .string ⟨#[60]⟩, .string ⟨#[60, 61]⟩] 9).2.2; omega) (by have := H.out.2.1.lt; have := X2.out.2.2; omega) ?_
  intro i0 i1 i2 i3 w3 hb3 C3
  have B3 := (Put.new w2 #[.string ⟨#[61, 61]⟩, .string ⟨#[33, 61]⟩, .string ⟨#[60]⟩, .string ⟨#[60, 61]⟩] 9).1.trans (hb3.mono (Put.new w2 #[.string ⟨#[61, 61]⟩, .string ⟨#[33, 61]⟩, .string ⟨#[60]⟩, .string ⟨#[60, 61]⟩] 9).1.size)
  have C1' := (X1.out.2.later X2.out.1).later B3
  have C2' := X2.out.2.1.later B3
  have R1 := row1_t (fn := 162) (first := #[.pointer (some ⟨rb, 0, none⟩)]) (cap := #[]) (K := fun _ => True) (most := K) (sg := muls) (fun _ => rfl) (fun _ _ _ _ => trivial) (by rw [Array.append_empty]; exact HR.out) sg_down H.out.2.2.2 (by decide) (by decide) (k0 := k0) (k1 := k1) (k2 := k2) (k3 := k3) (sb := wA.heap.size)
  have R2 := row1_t (fn := 169) (first := #[]) (cap := #[.pointer (some ⟨k0, 0, none⟩), .pointer (some ⟨k1, 0, none⟩), .pointer (some ⟨k2, 0, none⟩), .pointer (some ⟨k3, 0, none⟩)]) (K := fun w => True ∧ RowCap w rb (.func (.func 162) #[.pointer (some ⟨rb, 0, none⟩)] #[]) K muls k0 k1 k2 k3 wA.heap.size) (read := prodOf K sg) (most := K) (sg := adds) (fun _ => rfl) (fun _ _ h hs => ⟨trivial, h.2.step hs⟩) (by rw [Array.empty_append]; exact R1) (prodOf_down sg_down K) H.out.2.2.2 (by decide) (by decide) (k0 := j0) (k1 := j1) (k2 := j2) (k3 := j3) (sb := w1.heap.size)
  have R3 := row1_t (fn := 169) (first := #[]) (cap := #[.pointer (some ⟨j0, 0, none⟩), .pointer (some ⟨j1, 0, none⟩), .pointer (some ⟨j2, 0, none⟩), .pointer (some ⟨j3, 0, none⟩)]) (K := fun w => (True ∧ RowCap w rb (.func (.func 162) #[.pointer (some ⟨rb, 0, none⟩)] #[]) K muls k0 k1 k2 k3 wA.heap.size) ∧ RowCap w rb (.func (.func 169) #[] #[.pointer (some ⟨k0, 0, none⟩), .pointer (some ⟨k1, 0, none⟩), .pointer (some ⟨k2, 0, none⟩), .pointer (some ⟨k3, 0, none⟩)]) K adds j0 j1 j2 j3 w1.heap.size) (read := sumOf K sg) (most := 1) (sg := cmps) (fun _ => rfl) (fun _ _ h hs => ⟨⟨trivial, h.1.2.step hs⟩, h.2.step hs⟩) (by rw [Array.empty_append]; exact R2) (sumOf_down sg_down K) (by decide) (by decide) (by decide) (k0 := i0) (k1 := i1) (k2 := i2) (k3 := i3) (sb := w2.heap.size)
  rw [← HKK.out] at R3
  have BB := (X1.out.1.trans (X2.out.1.mono X1.out.1.size)).trans (B3.mono (Nat.le_trans X1.out.1.size X2.out.1.size))
  have X3 := Lib.hid (R3 w3 ts H.out.2.2.1 ⟨⟨⟨trivial, C1'⟩, C2'⟩, C3⟩ (H.out.2.1.later BB))
  have XB := Lib.hid (H.out.1.below BB)
  clear R1 R2 R3 C1' C2' B3 S3 hb3 C3 BB q2
  go_wp2_with fail
  refine X3.out.mono ?_
  rintro e w4 ⟨hs4, h4, hres⟩
  have hcm : row 1 cmps (sumOf K sg) ts = cmpOf K sg ts := rfl
  have XR := XB.out.step hs4
  cases hrd : cmpOf K sg ts with
  | bad r =>
    rw [hcm, hrd] at hres h4
    subst hres
    go_wp2_with fail
    exact ⟨rfl, XR.bad h4⟩
  | ok x r =>
    rw [hcm, hrd] at hres h4
    have HD := Lib.hid hrd
    obtain ⟨v, rfl, hN⟩ := hres
    obtain ⟨a1, d1, a2, d2, a3, d3, rfl⟩ := hN.form
    have hN' := NR.past XB.out hN
    obtain ⟨x0, x1, x2, x3, x4, g0, g1, g2, g3, g4⟩ := row5 XR.row
    have XE := Lib.hid (And.intro XR (And.intro h4 hN'))
    clear XR h4 hN hN' hs4 hrd hcm
    go_wp2_with fail
    have hp := put5 XE.out.1.row (.int .u8 (x.kind : Int)) (.string (tx x.text)) (.slice a1 x.l.len d1) (.slice a2 x.body.len d2) (.slice a3 x.els.len d3)
    exact bodyPost_ret (results_cell1 rfl _ _ _ rfl (nodeVar _ c _ _ _ _ _ hp.row)) rfl (by rw [HD.out]; exact XE.out.1.fin XE.out.2.1 XE.out.2.2 (fun _ h => h) hp)
end Go.Proofs.YtcldcigopkfmmaaGreatDoor
