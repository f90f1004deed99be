/- Texts put together: Mem, Mem2, Tag, PxPut, MapIs, ToRun, MapStr, NdMem, ShJoin, BkMem, NdDeep, NdProg, ShExpr, ShBld, ShWays, ShLines, ShWay5, ShExprT, ShText, NdLong, NdLong2, NdExpr. -/
import Derived.WalkKit
import Derived.WalkSpells
import Derived.WalkLawsBesides
import Derived.Lib.Hide
import Derived.ProofKit
import Derived.OpenShut
import Derived.Deep.Matrix
import Derived.Laws.CopyOwn
import Derived.Lib.SlBytesConst
import Derived.Deep.Cut
import Derived.Deep.CutBlock
import Derived.Deep.CutRange
import Derived.Deep.DeepCutAuto
import Derived.Deep.LoopGhost
import Derived.Deep.QuietTactic
import Derived.BigQuiet
import Derived.Deep.RegionWith
import Derived.Deep.RegionHeld3
import Derived.Deep.RegionLaw
import Derived.Deep.DeepFit
import Derived.Deep.DeepMust
import Derived.StillTailTactics
import Derived.Maps.Own
import Derived.Maps.OwnOps
import Derived.Maps.OwnSet
import Derived.Maps.Views
import Derived.Test.YtobpnjnfpgcpaaaDoorRows
import Derived.Test.YtobpnjnfpgcpaaaDoorShelf
import Derived.Test.YtobpnjnfpgcpaaaDoorTrA1
import Derived.Lib.SlTrimSet
import Derived.StringKeys
import Derived.IntWalk

/- Memory words for walks, over any program: what a slice of bytes, a slice of slices of bytes reads as; a slice that the call itself owns and appends to. No program in sight. -/
namespace Go.My
open Go.RowKit

theorem add_none (b o j : Nat) : (⟨b, o, none⟩ : Addr).add j = ⟨b, o + j, none⟩ := by unfold Addr.add; split <;> simp_all

/-- The step from w to w': new blocks; of the old ones at most block 'row' has turned. -/
structure Step (w w' : World) (row : Option Nat) : Prop where
  os : w'.os = w.os
  tape : w'.tape = w.tape
  output : w'.output = w.output
  size : w.heap.size ≤ w'.heap.size
  block : ∀ k, k < w.heap.size → some k ≠ row → w'.heap[k]? = w.heap[k]?

theorem Step.below {w w' : World} {row : Option Nat} {B : Nat} (h : Step w w' row) (hB : B ≤ w.heap.size) (hr : ∀ k, row = some k → B ≤ k) : Below B w w' :=
  ⟨h.os, h.tape, h.output, h.size, fun k hk => h.block k (by omega) (fun e => by have := hr k e.symm; omega)⟩

theorem Step.of_below {w w' : World} {row : Option Nat} (h : Below w.heap.size w w') : Step w w' row :=
  ⟨h.os, h.tape, h.output, h.size, fun k hk _ => h.block k hk⟩

theorem Step.of_grown {w w' : World} {row : Option Nat} (h : w.grownBy w' row) : Step w w' row := ⟨h.os, h.tape, h.output, h.size, h.block⟩

theorem Step.refl (w : World) (row : Option Nat) : Step w w row := ⟨rfl, rfl, rfl, Nat.le_refl _, fun _ _ _ => rfl⟩

theorem Step.trans {w w1 w2 : World} {r : Option Nat} (h : Step w w1 r) (k : Step w1 w2 r) : Step w w2 r :=
  ⟨k.os.trans h.os, k.tape.trans h.tape, k.output.trans h.output, Nat.le_trans h.size k.size,
   fun b hb hr => (k.block b (Nat.lt_of_lt_of_le hb h.size) hr).trans (h.block b hb hr)⟩

theorem Step.cell {w w' : World} {row : Option Nat} (h : Step w w' row) {a : Addr} (ha : a.block < w.heap.size) (hr : some a.block ≠ row) : w'.cell? a = w.cell? a :=
  World.cell?_of_block (h.block _ ha hr)

theorem Step.below_of_new {B : Nat} {w0 w w' : World} {row : Option Nat} (hb : Below B w0 w) (hB : B ≤ w.heap.size) (h : Step w w' row) (hr : ∀ k, row = some k → B ≤ k) : Below B w0 w' :=
  hb.trans (h.below hB hr)

/-- A slice of one-cell elements: v reads as the cells xs, all in a block of S. -/
def RowIn (w : World) (S : Nat → Prop) (v : Value) (xs : List Value) : Prop :=
  ∃ ao cap, v = .slice ao xs.length cap ∧ xs.length ≤ cap ∧ cap ≤ maxLen ∧ (ao = none → cap = 0) ∧
    (xs ≠ [] → ∃ b off, ao = some ⟨b, off, none⟩ ∧ S b ∧ ∀ j u, xs[j]? = some u → w.cell? ⟨b, off + j, none⟩ = some u)

theorem RowIn.frame {w w' : World} {S : Nat → Prop} {v : Value} {xs : List Value} (h : RowIn w S v xs) (hs : ∀ b, S b → b < w.heap.size → w'.heap[b]? = w.heap[b]?) : RowIn w' S v xs := by
  obtain ⟨ao, cap, hv, h1, h2, h0, h3⟩ := h
  refine ⟨ao, cap, hv, h1, h2, h0, fun hx => ?_⟩
  obtain ⟨b, off, ha, hS, hc⟩ := h3 hx
  refine ⟨b, off, ha, hS, fun j u hj => ?_⟩
  have hcell := hc j u hj
  exact (World.cell?_of_block (hs b hS (World.block_lt_of_cell? w _ hcell))).trans hcell

theorem RowIn.mono {w : World} {S T : Nat → Prop} {v : Value} {xs : List Value} (h : RowIn w S v xs) (hs : ∀ b, b < w.heap.size → S b → T b) : RowIn w T v xs := by
  obtain ⟨ao, cap, hv, h1, h2, h0, h3⟩ := h
  refine ⟨ao, cap, hv, h1, h2, h0, fun hx => ?_⟩
  obtain ⟨b, off, ha, hS, hc⟩ := h3 hx
  have h00 : ∃ u, xs[0]? = some u := by cases xs with | nil => exact absurd rfl hx | cons u _ => exact ⟨u, rfl⟩
  obtain ⟨u, hu⟩ := h00
  exact ⟨b, off, ha, hs b (World.block_lt_of_cell? w _ (hc 0 u hu)) hS, hc⟩

/-- A byte's cell. -/
def byteCell (x : UInt8) : Value := .int .u8 (x.toNat : Int)

/-- v reads as the bytes l. -/
def BytesIn (w : World) (S : Nat → Prop) (v : Value) (l : List UInt8) : Prop := RowIn w S v (l.map byteCell)

theorem BytesIn.frame {w w' : World} {S : Nat → Prop} {v : Value} {l : List UInt8} (h : BytesIn w S v l) (hs : ∀ b, S b → b < w.heap.size → w'.heap[b]? = w.heap[b]?) : BytesIn w' S v l := RowIn.frame h hs
theorem BytesIn.mono {w : World} {S T : Nat → Prop} {v : Value} {l : List UInt8} (h : BytesIn w S v l) (hs : ∀ b, b < w.heap.size → S b → T b) : BytesIn w T v l := RowIn.mono h hs

/-- For a walk: the value's form, and each cell under its condition. -/
theorem BytesIn.open_ {w : World} {S : Nat → Prop} {v : Value} {l : List UInt8} (h : BytesIn w S v l) :
    ∃ ao cap, v = .slice ao l.length cap ∧ l.length ≤ cap ∧ cap ≤ maxLen ∧ (ao = none → cap = 0) ∧
      (0 < l.length → ∃ b off, ao = some ⟨b, off, none⟩ ∧ S b ∧ ∀ j (hj : j < l.length), w.cell? ⟨b, off + j, none⟩ = some (.int .u8 ((l[j]).toNat : Int))) := by
  obtain ⟨ao, cap, hv, h1, h2, h0, h3⟩ := h
  rw [List.length_map] at hv h1
  refine ⟨ao, cap, hv, h1, h2, h0, fun hl => ?_⟩
  obtain ⟨b, off, ha, hS, hc⟩ := h3 (by intro e; rw [List.map_eq_nil_iff] at e; subst e; exact absurd hl (by simp))
  refine ⟨b, off, ha, hS, fun j hj => hc j _ ?_⟩
  rw [List.getElem?_map, List.getElem?_eq_getElem hj]; rfl

theorem BytesIn.nil (w : World) (S : Nat → Prop) : BytesIn w S (.slice none 0 0) [] := ⟨none, 0, rfl, Nat.le_refl _, Nat.zero_le _, fun _ => rfl, fun h => absurd rfl h⟩

/-- A slice of slices of bytes. -/
def FramesIn (w : World) (S : Nat → Prop) (v : Value) (ls : List (List UInt8)) : Prop :=
  ∃ us : List Value, RowIn w S v us ∧ us.length = ls.length ∧ ∀ j (h : j < us.length) (h' : j < ls.length), BytesIn w S us[j] ls[j]

theorem FramesIn.frame {w w' : World} {S : Nat → Prop} {v : Value} {ls : List (List UInt8)} (h : FramesIn w S v ls) (hs : ∀ b, S b → b < w.heap.size → w'.heap[b]? = w.heap[b]?) : FramesIn w' S v ls := by
  obtain ⟨us, h1, h2, h3⟩ := h
  exact ⟨us, h1.frame hs, h2, fun j h h' => (h3 j h h').frame hs⟩
theorem FramesIn.mono {w : World} {S T : Nat → Prop} {v : Value} {ls : List (List UInt8)} (h : FramesIn w S v ls) (hs : ∀ b, b < w.heap.size → S b → T b) : FramesIn w T v ls := by
  obtain ⟨us, h1, h2, h3⟩ := h
  exact ⟨us, h1.mono hs, h2, fun j h h' => (h3 j h h').mono hs⟩
theorem FramesIn.nil (w : World) (S : Nat → Prop) : FramesIn w S (.slice none 0 0) [] := ⟨[], ⟨none, 0, rfl, Nat.le_refl _, Nat.zero_le _, fun _ => rfl, fun h => absurd rfl h⟩, rfl, fun _ h => absurd h (Nat.not_lt_zero _)⟩

/-- For a walk. -/
theorem FramesIn.open_ {w : World} {S : Nat → Prop} {v : Value} {ls : List (List UInt8)} (h : FramesIn w S v ls) :
    ∃ ao cap, v = .slice ao ls.length cap ∧ ls.length ≤ cap ∧ cap ≤ maxLen ∧ (ao = none → cap = 0) ∧
      (0 < ls.length → ∃ b off, ao = some ⟨b, off, none⟩ ∧ S b ∧ ∀ j (hj : j < ls.length), ∃ u, w.cell? ⟨b, off + j, none⟩ = some u ∧ BytesIn w S u (ls[j])) := by
  obtain ⟨us, ⟨ao, cap, hv, h1, h2, h0, h3⟩, hlen, hb⟩ := h
  rw [hlen] at hv h1
  refine ⟨ao, cap, hv, h1, h2, h0, fun hl => ?_⟩
  obtain ⟨b, off, ha, hS, hc⟩ := h3 (by intro e; subst e; rw [← hlen] at hl; exact absurd hl (by simp))
  exact ⟨b, off, ha, hS, fun j hj => ⟨us[j]'(by omega), hc j _ (by rw [List.getElem?_eq_getElem (by omega)]), hb j (by omega) hj⟩⟩

/-! ### Arguments, opened -/
open Go.ChangeShapes Go.WideShapes in
theorem bytes_of_ints {zs : List Int} (hz : ∀ n ∈ zs, (Lit.int .u8 n).wf = true) : ∃ l : List UInt8, zs = l.map fun x => (x.toNat : Int) := by
  induction zs with
  | nil => exact ⟨[], rfl⟩
  | cons z zs ih =>
    obtain ⟨l, hl⟩ := ih (fun n hn => hz n (by simp [hn]))
    have h := hz z (by simp)
    simp [Lit.wf, IntKind.min, IntKind.max, IntKind.signed, IntKind.bits] at h
    refine ⟨UInt8.ofNat z.toNat :: l, ?_⟩
    simp [hl]
    omega

open Go.ChangeShapes Go.WideShapes Go.ChangeAt in
theorem bytes_of_trod {H : Type} {enc : TypeId × Value → H} {P : Program} {W : World} {base : Nat} {t e : TypeId} {v : Value} {d : DataW H} {p : List MemPlace} (ht : P.underlying t = some (.slice e)) (he : P.underlying e = some (.int .u8)) (ce : P.cellsOf e = 1)
    (hok : Value.okWide P W .any base t v) (h : DataW.Trod enc P W 0 (fun _ => true) true t v d p) : ∃ l : List UInt8, BytesIn W (fun b => b < W.heap.size) v l := by
  obtain ⟨a, len, cap, rfl⟩ := okWide_slice ht hok
  obtain ⟨fuel, hf⟩ := h
  rcases open_ints ht he ce hf with ⟨hcs, _⟩ | ⟨x, l, c, zs, hcs, _, hl, hm, hz, _, hcell, hwz⟩
  · simp [Value.cells] at hcs
    obtain ⟨rfl, rfl, rfl⟩ := hcs
    exact ⟨[], BytesIn.nil _ _⟩
  · simp [Value.cells] at hcs
    obtain ⟨rfl, rfl, rfl⟩ := hcs
    simp only [if_true] at hz
    obtain ⟨bs, rfl⟩ := bytes_of_ints hwz
    rw [List.length_map] at hz
    refine ⟨bs.take len, some x, cap, by simp; omega, by simp; omega, hm, (fun e => by cases e), fun hne => ?_⟩
    have hlen : 0 < len := by
      rcases Nat.eq_zero_or_pos len with h0 | h0
      · subst h0; simp at hne
      · exact h0
    have h0 := hcell 0 (by simp; omega)
    obtain ⟨b, off, spot⟩ := x
    have hspot : spot = none := by simpa [Addr.add] using World.cell?_spot h0
    subst hspot
    refine ⟨b, off, rfl, by simpa [add_none] using World.block_lt_of_cell? W _ h0, fun j u hu => ?_⟩
    have hj : j < bs.length := by have := (List.getElem?_eq_some_iff.1 hu).1; simp at this; omega
    have := hcell j (by simpa using hj)
    rw [add_none] at this
    rw [this, ← hu, List.getElem?_map, List.getElem?_take]
    rw [if_pos (by have := (List.getElem?_eq_some_iff.1 hu).1; simp at this; omega)]
    simp [hj, byteCell]

/-! ### A slice that the call owns -/
/-- v, of n elements of type e (size cells each), owns the cells xs: nil; or a piece of block g, not frozen, up to its capacity. -/
def Own (w : World) (e : TypeId) (size : Nat) (v : Value) (n : Nat) (xs : List Value) (g : Option Nat) : Prop :=
  xs.length = n * size ∧
  ((v = .slice none 0 0 ∧ n = 0 ∧ g = none) ∨
   ∃ b off cap cur, v = .slice (some ⟨b, off, none⟩) n cap ∧ g = some b ∧ w.heap[b]? = some (.cells cur e (0, 0)) ∧ n ≤ cap ∧ cap ≤ maxLen ∧ off + cap * size ≤ cur.size ∧
     (cur.toList.drop off).take (n * size) = xs)

theorem Own.nil (w : World) (e : TypeId) (size : Nat) : Own w e size (.slice none 0 0) 0 [] none := ⟨by simp, .inl ⟨rfl, rfl, rfl⟩⟩

theorem Own.of_row {w : World} {base : Nat} {e : TypeId} {size : Nat} {v : Value} {n : Nat} {xs : List Value} (h : w.ownsRow base e size v n xs) :
    ∃ g, Own w e size v n xs g ∧ (∀ k, g = some k → base ≤ k) ∧ g = v.ownBlock := by
  obtain ⟨h1, h2 | ⟨b, cap, cur, hv, hb, hh, h3, h4, h5, h6⟩⟩ := h
  · exact ⟨none, ⟨h1, .inl ⟨h2.1, h2.2, rfl⟩⟩, (fun k e => by cases e), by rw [h2.1]; rfl⟩
  · refine ⟨some b, ⟨h1, .inr ⟨b, 0, cap, cur, hv, rfl, hh, h3, h4, by omega, by simpa using h6⟩⟩, (fun k e => by cases e; exact hb), by rw [hv]; rfl⟩

theorem Own.lt {w : World} {e : TypeId} {size : Nat} {v : Value} {n : Nat} {xs : List Value} {g : Option Nat} (h : Own w e size v n xs g) : ∀ k, g = some k → k < w.heap.size := by
  intro k hk
  rcases h.2 with ⟨_, _, hg⟩ | ⟨b, off, cap, cur, _, hg, hh, _⟩
  · rw [hg] at hk; cases hk
  · rw [hg] at hk; cases hk; exact (Array.getElem?_eq_some_iff.1 hh).1

theorem Own.frame {w w' : World} {e : TypeId} {size : Nat} {v : Value} {n : Nat} {xs : List Value} {g : Option Nat} (h : Own w e size v n xs g) (hs : ∀ k, g = some k → w'.heap[k]? = w.heap[k]?) : Own w' e size v n xs g := by
  refine ⟨h.1, ?_⟩
  rcases h.2 with h2 | ⟨b, off, cap, cur, hv, hg, hh, r⟩
  · exact .inl h2
  · exact .inr ⟨b, off, cap, cur, hv, hg, (hs b hg).trans hh, r⟩

theorem Own.row {w : World} {e : TypeId} {v : Value} {n : Nat} {xs : List Value} {g : Option Nat} (h : Own w e 1 v n xs g) : RowIn w (fun b => g = some b) v xs := by
  obtain ⟨h1, h2⟩ := h
  rw [Nat.mul_one] at h1
  rcases h2 with ⟨hv, hn, _⟩ | ⟨b, off, cap, cur, hv, hg, hh, h3, h4, h5, h6⟩
  · subst hn
    refine ⟨none, 0, by rw [hv, h1], by omega, Nat.zero_le _, fun _ => rfl, fun hx => ?_⟩
    exact absurd (List.eq_nil_of_length_eq_zero h1) hx
  · refine ⟨_, cap, by rw [h1]; exact hv, by omega, h4, (fun e => by cases e), fun _ => ⟨b, off, rfl, hg, fun j u hj => ?_⟩⟩
    rw [cell_of_row w b (off + j) cur e (0, 0) hh, ← hj, ← h6, List.getElem?_take, List.getElem?_drop, if_pos (by have := (List.getElem?_eq_some_iff.1 hj).1; omega)]
    simp

/-- What stands behind k elements. -/
theorem Own.drop {w : World} {e : TypeId} {b off n cap : Nat} {xs : List Value} {g : Option Nat} (h : Own w e 1 (.slice (some ⟨b, off, none⟩) n cap) n xs g) (k : Nat) (hk : k ≤ n) :
    Own w e 1 (.slice (some ⟨b, off + k, none⟩) (n - k) (cap - k)) (n - k) (xs.drop k) g := by
  obtain ⟨h1, h2⟩ := h
  refine ⟨by simp [h1], ?_⟩
  rcases h2 with ⟨hv, _⟩ | ⟨b', off', cap', cur, hv, hg, hh, h3, h4, h5, h6⟩
  · cases hv
  · cases hv
    refine .inr ⟨b, off + k, cap - k, cur, rfl, hg, hh, by omega, by omega, by omega, ?_⟩
    rw [← h6, List.drop_take, List.drop_drop]
    simp only [Nat.mul_one]

/-- .. and where nothing stands behind them, at the old place. -/
theorem Own.drop_all {w : World} {e : TypeId} {b off n cap : Nat} {xs : List Value} {g : Option Nat} (h : Own w e 1 (.slice (some ⟨b, off, none⟩) n cap) n xs g) (k : Nat) (hk : k = cap) (hn : k ≤ n) :
    Own w e 1 (.slice (some ⟨b, off, none⟩) (n - k) (cap - k)) (n - k) (xs.drop k) g := by
  obtain ⟨h1, h2⟩ := h
  refine ⟨by simp [h1], ?_⟩
  rcases h2 with ⟨hv, _⟩ | ⟨b', off', cap', cur, hv, hg, hh, h3, h4, h5, h6⟩
  · cases hv
  · cases hv
    refine .inr ⟨b, off, cap - k, cur, rfl, hg, hh, by omega, by omega, by omega, ?_⟩
    have : xs.drop k = [] := by rw [List.drop_eq_nil_iff]; omega
    rw [this]
    have : n - k = 0 := by omega
    rw [this]; simp

/-- The element type's row of the table. -/
structure Elem (P : Program) (t e : TypeId) (size bytes : Nat) (z : Value) : Prop where
  under : P.underlying t = some (.slice e)
  info : ∃ i, P.info? e = some i ∧ i.zero = some z ∧ i.size = size ∧ i.bytes = bytes
  cells : z.cells.size = size
  pos : 0 < size

theorem Elem.mk' {P : Program} {t e : TypeId} {size bytes : Nat} {z : Value} (h1 : P.underlying t = some (.slice e)) (h2 : (P.info? e).map (fun i => (i.zero, i.size, i.bytes)) = some (some z, size, bytes)) (h3 : z.cells.size = size) (h4 : 0 < size) : Elem P t e size bytes z := by
  refine ⟨h1, ?_, h3, h4⟩
  cases h : P.info? e with
  | none => rw [h] at h2; cases h2
  | some i => rw [h] at h2; simp at h2; exact ⟨i, rfl, h2.1, h2.2.1, h2.2.2⟩

/-- What is appended: nil, or a row that can be read. -/
def Src (w : World) (size : Nat) (x : Value) (m : Nat) (news : List Value) : Prop :=
  news.length = m * size ∧ ((x = .slice none 0 0 ∧ m = 0) ∨ ∃ ad c, x = .slice (some ad) m c ∧ ∀ j u, news[j]? = some u → w.cell? (ad.add j) = some u)

theorem RowIn.src {w : World} {S : Nat → Prop} {v : Value} {xs : List Value} (h : RowIn w S v xs) : Src w 1 v xs.length xs := by
  obtain ⟨ao, cap, hv, h1, h2, h0, h3⟩ := h
  refine ⟨by simp, ?_⟩
  cases ao with
  | none =>
    have := h0 rfl
    subst this
    have h4 : xs.length = 0 := by omega
    rw [h4] at hv ⊢
    exact .inl ⟨hv, rfl⟩
  | some a =>
    refine .inr ⟨a, cap, hv, fun j u hj => ?_⟩
    obtain ⟨b, off, ha, _, hc⟩ := h3 (by intro e; subst e; simp at hj)
    cases ha
    rw [add_none]; exact hc j u hj

theorem BytesIn.src {w : World} {S : Nat → Prop} {v : Value} {l : List UInt8} (h : BytesIn w S v l) : Src w 1 v l.length (l.map byteCell) := by
  have := RowIn.src h
  rwa [List.length_map] at this

theorem Src.lit {w : World} {k n size : Nat} (o : Array Value) (t : TypeId) (hk : k = w.heap.size) (h : o.size = n * size) : Src (w.alloc (.cells o t)) size (.slice (some ⟨k, 0, none⟩) n n) n o.toList := by
  subst hk
  refine ⟨by simp [h], .inr ⟨_, _, rfl, fun j u hj => ?_⟩⟩
  rw [add_none, cell_of_row _ w.heap.size (0 + j) o t (0, 0) (heap_alloc_new w _), ← hj]
  simp

theorem byteCells_one (l : List UInt8) : ∀ u ∈ l.map byteCell, u.oneCell' = true := by
  intro u hu
  obtain ⟨x, _, rfl⟩ := List.mem_map.1 hu
  rfl

/-- Blocks below B are as they were: what lies there reads as it did. -/
theorem RowIn.below {w w' : World} {S : Nat → Prop} {v : Value} {xs : List Value} {B : Nat} (h : RowIn w S v xs) (hb : Below B w w') (hS : ∀ b, S b → b < B) : RowIn w' S v xs :=
  h.frame fun b hs _ => hb.block b (hS b hs)
theorem BytesIn.below {w w' : World} {S : Nat → Prop} {v : Value} {l : List UInt8} {B : Nat} (h : BytesIn w S v l) (hb : Below B w w') (hS : ∀ b, S b → b < B) : BytesIn w' S v l := RowIn.below h hb hS
theorem FramesIn.below {w w' : World} {S : Nat → Prop} {v : Value} {ls : List (List UInt8)} {B : Nat} (h : FramesIn w S v ls) (hb : Below B w w') (hS : ∀ b, S b → b < B) : FramesIn w' S v ls :=
  h.frame fun b hs _ => hb.block b (hS b hs)

section
variable {P : Program} (w : World)

/-- APPEND: whatever room there is. -/
theorem run_append {t e : TypeId} {size bytes : Nat} {z : Value} (E : Elem P t e size bytes z) (ty : TypeId)
    {v : Value} {n : Nat} {xs : List Value} {g : Option Nat} (hown : Own w e size v n xs g) {x : Value} {m : Nat} {news : List Value} (hx : Src w size x m news) (h1 : ∀ u ∈ news, u.oneCell' = true)
    (h63 : n + m ≤ maxLen) (hbytes : (n + m) * bytes ≤ 140737488355328) :
    ∃ v' w' g', (Builtin.append_ #[t, t] ty #[v, x]).run P w = .ok v' w' ∧ Own w' e size v' (n + m) (xs ++ news) g' ∧ Step w w' g ∧ (g' = g ∨ ∃ k, g' = some k ∧ w.heap.size ≤ k) := by
  obtain ⟨hl, hx⟩ := hx
  obtain ⟨ht, ⟨i, hi, hz, hsize, hby⟩, hzs, hsz⟩ := E
  subst hsize
  subst hby
  have hsmall : n + m ≤ 9223372036854775807 := by simp only [maxLen] at h63; omega
  have hlen : (xs ++ news).length = (n + m) * i.size := by rw [List.length_append, hown.1, hl, Nat.add_mul]
  rcases hx with ⟨rfl, rfl⟩ | ⟨ad, c, rfl, hnews⟩
  · have hn : news = [] := List.eq_nil_of_length_eq_zero (by simpa using hl)
    subst hn
    refine ⟨v, w, g, ?_, by simpa using hown, Step.refl w g, .inl rfl⟩
    rcases hown.2 with ⟨rfl, rfl, _⟩ | ⟨b, off, cap, cur, rfl, hg, hh, h3, _⟩
    · simp [Builtin.append_, run_underlying ht, sizeOf, typeInfo, hi, Builtin.lenOf, Builtin.firstCells]
    · simp [Builtin.append_, run_underlying ht, sizeOf, typeInfo, hi, Builtin.lenOf, Builtin.firstCells, storeCells, h3]
  have grown : ∀ (old : Nat), old < n + m →
      Own (w.drew.alloc (.cells (xs.toArray ++ news.toArray ++ Builtin.zeroCells z.cells (grownCap w (n + m) old e - (n + m))) e)) e i.size
        (.slice (some ⟨w.heap.size, 0, none⟩) (n + m) (grownCap w (n + m) old e)) (n + m) (xs ++ news) (some w.heap.size) ∧
      Step w (w.drew.alloc (.cells (xs.toArray ++ news.toArray ++ Builtin.zeroCells z.cells (grownCap w (n + m) old e - (n + m))) e)) g := by
    intro old ho
    have hge := grownCap_ge w (n + m) old e
    have hcm : grownCap w (n + m) old e ≤ maxLen := grownCap_le_maxLen w (n + m) old e h63
    refine ⟨⟨hlen, .inr ⟨w.heap.size, 0, _, _, rfl, rfl, heap_alloc_new w.drew _, hge, hcm, ?_, ?_⟩⟩, ⟨rfl, rfl, rfl, by simp, fun k hk _ => Below.heap_alloc w.drew _ k hk⟩⟩
    · simp only [Array.size_append, List.size_toArray, size_zeroCells, hzs, hown.1, hl, ← Nat.add_mul, Nat.zero_add]
      apply Nat.mul_le_mul_right
      omega
    · simp only [Array.toList_append, List.append_assoc, List.drop_zero]
      rw [← List.append_assoc, ← hlen]
      exact List.take_left
  rcases hown.2 with ⟨rfl, rfl, rfl⟩ | ⟨b, off, cap, cur, rfl, rfl, hh, h3, h4, h5, h6⟩
  · have hxs : xs = [] := List.eq_nil_of_length_eq_zero (by simpa using hown.1)
    subst hxs
    by_cases hm : m = 0
    · subst hm
      have hn : news = [] := List.eq_nil_of_length_eq_zero (by simpa using hl)
      subst hn
      refine ⟨.slice none 0 0, w, none, ?_, Own.nil w e i.size, Step.refl w none, .inl rfl⟩
      simp [Builtin.append_, run_underlying ht, sizeOf, typeInfo, hi, Builtin.lenOf, Builtin.firstCells, loadCells, loadCellsFrom]
    · have hr := run_append_nil (P := P) w t ty e i z ht hi hz ad m c news hl hnews (by omega) (by omega) (by have hb := hbytes; simp only [Nat.zero_add] at hb; omega)
      have hgr := grown 0 (by omega)
      simp only [Nat.zero_add, List.nil_append, Array.empty_append] at hgr ⊢
      exact ⟨_, _, _, hr, hgr.1, hgr.2, .inr ⟨_, rfl, Nat.le_refl _⟩⟩
  · by_cases hroom : n + m ≤ cap
    · have hfit : off + n * i.size + news.length ≤ cur.size := by
        have := Nat.mul_le_mul_right i.size hroom
        rw [hl]; rw [Nat.add_mul] at this; omega
      have hf := run_firstCells_some (P := P) w i.size m ad m c news hl hnews
      have hst := run_storeCells_at P b (off + n * i.size) e news 0 cur w hh (by simpa using hfit) h1
      simp only [Nat.add_zero] at hst
      have hr : (Builtin.append_ #[t, t] ty #[.slice (some ⟨b, off, none⟩) n cap, .slice (some ad) m c]).run P w =
          .ok (.slice (some ⟨b, off, none⟩) (n + m) cap) (w.setRow b (cur.toList.take (off + n * i.size) ++ news ++ cur.toList.drop (off + n * i.size + news.length)).toArray) := by
        simp [Builtin.append_, run_underlying ht, sizeOf, typeInfo, hi, Builtin.lenOf, hroom, hf, Addr.add_lit, hst]
      refine ⟨_, _, some b, hr, ⟨hlen, .inr ⟨b, off, cap, _, rfl, rfl, setRow_heap w b cur _ e _ hh, hroom, h4, ?_, ?_⟩⟩,
        ⟨rfl, rfl, rfl, by simp, fun k _ hk => setRow_other w b k _ (fun e => hk (by simp [e]))⟩, .inl rfl⟩
      · simp only [List.size_toArray, List.length_append, List.length_take, List.length_drop, Array.length_toList]
        omega
      · have hx1 : xs.length = n * i.size := hown.1
        have hpre : (cur.toList.take (off + n * i.size)).drop off = xs := by
          rw [List.drop_take, ← h6]; congr 1; omega
        have hlo : off ≤ (cur.toList.take (off + n * i.size)).length := by simp; omega
        show List.take ((n + m) * i.size) (List.drop off (cur.toList.take (off + n * i.size) ++ news ++ cur.toList.drop (off + n * i.size + news.length))) = xs ++ news
        rw [List.append_assoc, List.drop_append_of_le_length hlo, hpre, ← List.append_assoc, ← hlen]
        exact List.take_left
    · have holds : ∀ j u, xs[j]? = some u → w.cell? ((⟨b, off, none⟩ : Addr).add j) = some u := by
        intro j u hj
        rw [add_none, cell_of_row w b (off + j) cur e (0, 0) hh, ← hj, ← h6, List.getElem?_take, List.getElem?_drop]
        rw [if_pos (by have := (List.getElem?_eq_some_iff.1 hj).1; rw [hown.1] at this; exact this)]; simp
      have hr := run_append_grow (P := P) w t ty e i z ht hi hz ⟨b, off, none⟩ n cap xs hown.1 holds ad m c news hl hnews (by omega) (by omega) (growslice_fits (by omega) hbytes)
      have hgr := grown cap (by omega)
      exact ⟨_, _, _, hr, hgr.1, hgr.2, .inr ⟨_, rfl, Nat.le_refl _⟩⟩

/-- APPEND, FOR THE WALK. -/
theorem wpList_append {ops : Array Oper} {rest : List Oper} {o : Oper} {a : Act} {Q : Exit → Act → World → Prop} (hgd : o.guard = none) (s x : Operand) {t e : TypeId}
    (ho : o.op = .call { callee := .builtin .append, args := #[s, x], argTypes := #[t, t] }) {size bytes : Nat} {z : Value} (E : Elem P t e size bytes z)
    {v : Value} {n : Nat} {xs : List Value} {g : Option Nat} (hs : a.eval s = v) (hown : Own w e size v n xs g) {y : Value} {m : Nat} {news : List Value} (hy : a.eval x = y) (hx : Src w size y m news) (h1 : ∀ u ∈ news, u.oneCell' = true)
    (h63 : n + m ≤ maxLen) (hbytes : (n + m) * bytes ≤ 140737488355328)
    (h : ∀ v' w' g', Own w' e size v' (n + m) (xs ++ news) g' → Step w w' g → (g' = g ∨ ∃ k, g' = some k ∧ w.heap.size ≤ k) → wpList P ops Q rest (a.put o.dst v') w') : wpList P ops Q (o :: rest) a w := by
  obtain ⟨v', w', g', hr, h2, h3, h4⟩ := run_append w E o.type hown hx h1 h63 hbytes
  refine wpList_plain hgd fun _ hK => ?_
  unfold Oper.wp execOp
  simp only [ho, resolve, invoke, builtin, Sem.run_bind, Sem.run_pure, Result.andThen_ok, List.map_toArray, List.map_cons, List.map_nil, hs, hy, hr]
  exact hK _ _ (h v' w' g' h2 h3 h4)


/-- MAKE, FOR THE WALK. -/
theorem wpList_make {ops : Array Oper} {rest : List Oper} {o : Oper} {a : Act} {Q : Exit → Act → World → Prop} (hgd : o.guard = none) (s s' : Operand) {t e : TypeId}
    (ho : o.op = .makeSlice t s s') {size bytes : Nat} {z : Value} (E : Elem P t e size bytes z) {kl kc : IntKind} {l c : Int} (hs : a.eval s = .int kl l) (hs' : a.eval s' = .int kc c)
    (h0 : 0 ≤ l) (hlc : l ≤ c) (hbytes : (bytes : Int) * c ≤ 281474976710656) (h63 : c ≤ 9223372036854775807)
    (h : wpList P ops Q rest (a.put o.dst (.slice (some ⟨w.heap.size, 0, none⟩) l.toNat c.toNat)) (w.alloc (.cells (madeCells z.cells (c.toNat * size)) e))) : wpList P ops Q (o :: rest) a w := by
  obtain ⟨ht, ⟨i, hi, hz, hsize, hby⟩, hzs, hsz⟩ := E
  subst hsize
  subst hby
  have hr := run_make (P := P) w t e i z ht hi hz kl kc l c h0 hlc hbytes h63
  refine wpList_plain hgd fun _ hK => ?_
  unfold Oper.wp execOp
  simp only [ho, hs, hs', Sem.run_bind, hr, Result.andThen_ok, Sem.run_pure]
  exact hK _ _ h

/-- COPY OF ALL OF THE SOURCE, FOR THE WALK. -/
theorem wpList_copy {ops : Array Oper} {rest : List Oper} {o : Oper} {a : Act} {Q : Exit → Act → World → Prop} (hgd : o.guard = none) (d s : Operand) {t t' e : TypeId}
    (ho : o.op = .call { callee := .builtin .copy, args := #[d, s], argTypes := #[t, t'] }) {bytes : Nat} {z : Value} (E : Elem P t e 1 bytes z)
    {dp : Option Addr} {dLen dCap : Nat} (hd : a.eval d = .slice dp dLen dCap) {y : Value} {m : Nat} {news : List Value} (hy : a.eval s = y) (hx : Src w 1 y m news) (h1 : ∀ u ∈ news, u.oneCell' = true)
    (hm : m ≤ dLen) {g off : Nat} {cur : List Value} {ct : TypeId} (hpos : 0 < m → dp = some ⟨g, off, none⟩) (hg : w.heap[g]? = some (.cells cur.toArray ct (0, 0))) (hfit : off + m ≤ cur.length)
    (h : ∀ w', w'.heap[g]? = some (.cells (splice cur off news).toArray ct (0, 0)) → Step w w' (some g) → wpList P ops Q rest (a.put o.dst (.int .i64 (m : Int))) w') : wpList P ops Q (o :: rest) a w := by
  obtain ⟨hl, hx⟩ := hx
  obtain ⟨ht, ⟨i, hi, hz, hsize, hby⟩, hzs, hsz⟩ := E
  have hsz' : (P.info? e).map (·.size) = some 1 := by rw [hi]; simp [hsize]
  rw [Nat.mul_one] at hl
  by_cases h0 : m = 0
  · subst h0
    have hn : news = [] := List.eq_nil_of_length_eq_zero hl
    subst hn
    have hh : wpList P ops Q rest (a.put o.dst (goInt 0)) w := h w (by simpa [splice] using hg) (Step.refl w _)
    rcases hx with ⟨rfl, _⟩ | ⟨ad, c, rfl, _⟩
    · exact wpList_copy_nothing hgd d s t t' ho e ht hsz' dp none dLen dCap 0 0 hd hy (Nat.zero_min _) hh
    · exact wpList_copy_nothing hgd d s t t' ho e ht hsz' dp (some ad) dLen dCap 0 c hd hy (Nat.zero_min _) hh
  · rcases hx with ⟨rfl, e0⟩ | ⟨ad, c, rfl, hsrc⟩
    · exact absurd e0 h0
    have hp := hpos (by omega)
    subst hp
    refine wpList_copy_own hgd d s t t' ho e ht hsz' g off dLen dCap ad m c hd hy cur.toArray ct hg news (by rw [hl]; exact (Nat.min_eq_left hm).symm) hsrc (by simpa [hl] using hfit) h1 ?_
    rw [hl]
    refine h _ (by simpa [splice, hl] using setRow_heap w g _ _ ct _ hg) ⟨rfl, rfl, rfl, by simp [World.setRow], fun k _ hk => setRow_other w g k _ (fun e => hk (by simp [e]))⟩

theorem pushes (l : List UInt8) : ∀ r : ByteArray, (l.map fun x => (x.toNat : Int)).foldl (fun r n => r.push (UInt8.ofNat n.toNat)) r = ⟨r.data ++ l.toArray⟩ := by
  induction l with
  | nil => intro r; simp
  | cons x l ih =>
    intro r
    rw [List.map_cons, List.foldl_cons, ih]
    simp [ByteArray.push]

/-- 'string(b)', as a fact for the walk. -/
theorem string_of_bytes {src dst e : TypeId} (hs : P.underlying src = some (.slice e)) (he : P.underlying e = some (.int .u8)) (hd : P.underlying dst = some .string) {S : Nat → Prop} {v : Value} {l : List UInt8} (h : BytesIn w S v l) :
    (convert src dst v).run P w = .ok (.string ⟨l.toArray⟩) w := by
  obtain ⟨ao, cap, hv, h1, h2, h0, h3⟩ := h
  subst hv
  rw [run_convert_bytes_string w src dst e _ _ _ hs he hd]
  cases ao with
  | none =>
    have hl : l = [] := by
      have := h0 rfl
      rw [List.length_map] at h1
      exact List.eq_nil_of_length_eq_zero (by omega)
    subst hl
    simp [Conv.bytesToString, Sem.run_pure]
    rfl
  | some a =>
    have hr := run_loadCells_list (P := P) w a (l.map byteCell) (fun j u hj => by
      obtain ⟨b, off, ha, _, hc⟩ := h3 (by intro e; rw [e] at hj; simp at hj)
      cases ha
      rw [add_none]; exact hc j u hj)
    have hm : l.map byteCell = (l.map fun x => (x.toNat : Int)).map (Value.int .u8) := by rw [List.map_map]; rfl
    rw [run_bytesToString w a _ cap (l.map fun x => (x.toNat : Int)) (by rw [hr, hm]), pushes]
    simp

/-- 'x[l:]', as a fact for the walk. -/
theorem slice_l {t e : TypeId} (ht : P.underlying t = some (.slice e)) (h1 : (P.info? e).map (·.size) = some 1) (b off n cap k : Nat) (l : Int) (hl : l = k) (hk : k ≤ n) (_hn : n ≤ cap) :
    ∃ ad : Addr, (∀ wx, (Instr.slice t (.slice (some ⟨b, off, none⟩) n cap) (some (.int .i64 l)) none none).run P wx = .ok (.slice (some ad) (n - k) (cap - k)) wx) ∧ (k < cap → ad = ⟨b, off + k, none⟩) ∧ (k = cap → ad = ⟨b, off, none⟩) := by
  subst hl
  have he : P.elem t = e := by simp [Program.elem, ht]
  obtain ⟨i, hi, hs⟩ : ∃ i, P.info? e = some i ∧ i.size = 1 := by
    cases h : P.info? e with
    | none => rw [h] at h1; cases h1
    | some i => rw [h] at h1; exact ⟨i, rfl, by simpa using h1⟩
  refine ⟨if cap = k then ⟨b, off, none⟩ else ⟨b, off + k, none⟩, fun wx => ?_, fun h => by rw [if_neg (by omega)], fun h => by rw [if_pos h.symm]⟩
  rw [run_slice_l wx t _ _ _ (by rw [he]; exact ht) .i64 _ (by omega) (by omega), he]
  by_cases hc : cap = k <;> simp [sizeOf, typeInfo, hi, hs, sliced, hc, add_none]

/-- 'x[l:h:h]', as a fact for the walk. -/
theorem slice_lhh {t e : TypeId} (ht : P.underlying t = some (.slice e)) (h1 : (P.info? e).map (·.size) = some 1) (b off n cap k j : Nat) (l h : Int) (hl : l = k) (hh : h = j) (hk : k ≤ j) (hn : j ≤ cap) :
    ∃ ad : Addr, (∀ wx, (Instr.slice t (.slice (some ⟨b, off, none⟩) n cap) (some (.int .i64 l)) (some (.int .i64 h)) (some (.int .i64 h))).run P wx = .ok (.slice (some ad) (j - k) (j - k)) wx) ∧ (k < j → ad = ⟨b, off + k, none⟩) := by
  subst hl
  subst hh
  have he : P.elem t = e := by simp [Program.elem, ht]
  obtain ⟨i, hi, hs⟩ : ∃ i, P.info? e = some i ∧ i.size = 1 := by
    cases h : P.info? e with
    | none => rw [h] at h1; cases h1
    | some i => rw [h] at h1; exact ⟨i, rfl, by simpa using h1⟩
  refine ⟨if j = k then ⟨b, off, none⟩ else ⟨b, off + k, none⟩, fun wx => ?_, fun h => by rw [if_neg (by omega)]⟩
  rw [run_slice_lhm wx t _ _ _ (by rw [he]; exact ht) .i64 .i64 .i64 _ _ _ (by omega) (by omega) (by omega) (by omega), he]
  by_cases hc : j = k <;> simp [sizeOf, typeInfo, hi, hs, sliced, hc, add_none]

/-- 'x[l:h]', as a fact for the walk. -/
theorem slice_lh {t e : TypeId} (ht : P.underlying t = some (.slice e)) (h1 : (P.info? e).map (·.size) = some 1) (a : Option Addr) (n cap k j : Nat) (l h : Int) (hl : l = k) (hh : h = j) (hk : k ≤ j) (hn : j ≤ cap) :
    ∃ ad : Option Addr, (∀ wx, (Instr.slice t (.slice a n cap) (some (.int .i64 l)) (some (.int .i64 h)) none).run P wx = .ok (.slice ad (j - k) (cap - k)) wx) ∧ (k < cap → ad = a.map (·.add k)) ∧ (k = cap → ad = a) := by
  subst hl
  subst hh
  have he : P.elem t = e := by simp [Program.elem, ht]
  obtain ⟨i, hi, hs⟩ : ∃ i, P.info? e = some i ∧ i.size = 1 := by
    cases h : P.info? e with
    | none => rw [h] at h1; cases h1
    | some i => rw [h] at h1; exact ⟨i, rfl, by simpa using h1⟩
  refine ⟨if cap = k then a else a.map (·.add k), fun wx => ?_, fun h => by rw [if_neg (by omega)], fun h => by rw [if_pos h.symm]⟩
  rw [run_slice_lh wx t _ _ _ (by rw [he]; exact ht) .i64 .i64 _ _ (by omega) (by omega) (by omega), he]
  by_cases hc : cap = k <;> simp [sizeOf, typeInfo, hi, hs, sliced, hc]

theorem madeCells_one (z : Value) (n : Nat) : madeCells #[z] n = (List.replicate n z).toArray := by
  apply Array.ext'; simpa using toList_madeCells_one z n

end
end Go.My

/- More memory words for walks, over any program: pieces of slices. -/
namespace Go.My
open Go.RowKit
section
variable {P : Program}
/-- 'x[:h]', as a fact for the walk. -/

theorem slice_h {t e : TypeId} (ht : P.underlying t = some (.slice e)) (h1 : (P.info? e).map (·.size) = some 1) (b off n cap j : Nat) (h : Int) (hh : h = j) (hn : j ≤ cap) :
    ∀ wx, (Instr.slice t (.slice (some ⟨b, off, none⟩) n cap) none (some (.int .i64 h)) none).run P wx = .ok (.slice (some ⟨b, off, none⟩) j cap) wx := by
  subst hh
  have he : P.elem t = e := by simp [Program.elem, ht]
  obtain ⟨i, hi, hs⟩ : ∃ i, P.info? e = some i ∧ i.size = 1 := by
    cases h : P.info? e with
    | none => rw [h] at h1; cases h1
    | some i => rw [h] at h1; exact ⟨i, rfl, by simpa using h1⟩
  intro wx
  rw [run_slice_h wx t _ _ _ (by rw [he]; exact ht) .i64 _ (by omega) (by omega), he]
  simp [sizeOf, typeInfo, hi, sliced, add_none]

/-- A piece of what reads. -/
theorem RowIn.cut {w : World} {S : Nat → Prop} {b off n cap : Nat} {xs : List Value} (h : RowIn w S (.slice (some ⟨b, off, none⟩) n cap) xs) (k j c : Nat) (hkj : k ≤ j) (hj : j ≤ xs.length) {ad : Addr} (hc : j - k ≤ c ∧ c ≤ maxLen) (had : k < j → ad = ⟨b, off + k, none⟩) :
    RowIn w S (.slice (some ad) (j - k) c) ((xs.drop k).take (j - k)) := by
  obtain ⟨ao, cap', hv, h1, h2, h0, h3⟩ := h
  cases hv
  have hlen : ((xs.drop k).take (j - k)).length = j - k := by rw [List.length_take, List.length_drop]; omega
  refine ⟨some ad, c, by rw [hlen], by rw [hlen]; exact hc.1, hc.2, (fun e => by cases e), fun hne => ?_⟩
  have hlt : k < j := by
    rcases Nat.lt_or_ge k j with h | h
    · exact h
    · exfalso; apply hne; apply List.eq_nil_of_length_eq_zero; rw [hlen]; omega
  obtain ⟨b', off', ha, hS, hcell⟩ := h3 (by intro e; subst e; simp at hj; omega)
  cases ha
  refine ⟨b, off + k, by rw [had hlt], hS, fun i u hi => ?_⟩
  have hi' : i < j - k := by have := (List.getElem?_eq_some_iff.1 hi).1; rw [hlen] at this; exact this
  rw [Nat.add_assoc]
  refine hcell (k + i) u ?_
  rw [← hi, List.getElem?_take, if_pos hi', List.getElem?_drop]

theorem BytesIn.cut {w : World} {S : Nat → Prop} {b off n cap : Nat} {l : List UInt8} (h : BytesIn w S (.slice (some ⟨b, off, none⟩) n cap) l) (k j c : Nat) (hkj : k ≤ j) (hj : j ≤ l.length) {ad : Addr} (hc : j - k ≤ c ∧ c ≤ maxLen) (had : k < j → ad = ⟨b, off + k, none⟩) :
    BytesIn w S (.slice (some ad) (j - k) c) ((l.drop k).take (j - k)) := by
  have := RowIn.cut h k j c hkj (by rw [List.length_map]; exact hj) hc had
  rw [← List.map_drop, ← List.map_take] at this
  exact this


theorem FramesIn.cells {w : World} {S : Nat → Prop} {ao : Option Addr} {n cap : Nat} {ls : List (List UInt8)} (h : FramesIn w S (.slice ao n cap) ls) (hl : 0 < ls.length) :
    ∃ b off, ao = some ⟨b, off, none⟩ ∧ S b ∧ ∀ j (hj : j < ls.length), ∃ u, w.cell? ⟨b, off + j, none⟩ = some u ∧ BytesIn w S u (ls[j]) := by
  obtain ⟨_, _, ea, _, _, _, hx⟩ := h.open_
  cases ea
  exact hx hl

theorem BytesIn.cells {w : World} {S : Nat → Prop} {ao : Option Addr} {n cap : Nat} {l : List UInt8} (h : BytesIn w S (.slice ao n cap) l) (hl : 0 < l.length) :
    ∃ b off, ao = some ⟨b, off, none⟩ ∧ S b ∧ ∀ j (hj : j < l.length), w.cell? ⟨b, off + j, none⟩ = some (.int .u8 ((l[j]).toNat : Int)) := by
  obtain ⟨_, _, ea, _, _, _, hx⟩ := h.open_
  cases ea
  exact hx hl

/-- APPEND, AS ONE STEP OF A REGION THAT DRAWS ITS ORDER: for 'go_region_law (refine step_append ..)'. -/
theorem step_append {w : World} {ops : Array Oper} {o : Oper} {a : Act} {K : Act → World → Prop} {Q : Exit → Act → World → Prop} {X : Prop} (hgd : o.guard = none) (s x : Operand) {t e : TypeId}
    (ho : o.op = .call { callee := .builtin .append, args := #[s, x], argTypes := #[t, t] }) {size bytes : Nat} {z : Value} (E : Elem P t e size bytes z)
    {v : Value} {n : Nat} {xs : List Value} {g : Option Nat} (hs : a.eval s = v) (hown : Own w e size v n xs g) {y : Value} {m : Nat} {news : List Value} (hy : a.eval x = y) (hx : Src w size y m news) (h1 : ∀ u ∈ news, u.oneCell' = true)
    (h63 : n + m ≤ maxLen) (hbytes : (n + m) * bytes ≤ 140737488355328)
    (h : ∀ v' w' g', Own w' e size v' (n + m) (xs ++ news) g' → Step w w' g → (g' = g ∨ ∃ k, g' = some k ∧ w.heap.size ≤ k) → K (a.put o.dst v') w') :
    if Region.wanted o (yielded ops a.tmps) = true then Oper.wp P o a w K Q else X := by
  have hw : Region.wanted o (yielded ops a.tmps) = true := by simp [Region.wanted, hgd]
  rw [if_pos hw]
  obtain ⟨v', w', g', hr, h2, h3, h4⟩ := run_append w E o.type hown hx h1 h63 hbytes
  unfold Oper.wp execOp
  simp only [ho, resolve, invoke, builtin, Sem.run_bind, Sem.run_pure, Result.andThen_ok, List.map_toArray, List.map_cons, List.map_nil, hs, hy, hr]
  exact h v' w' g' h2 h3 h4
end
end Go.My

/- Memory by owners: each block has a number (whose it is); a step says whose blocks it may turn; what is read of another's stays. No program in sight. -/
namespace Go.My
open Go.RowKit

/-- Whose each block is; 0: of what was there when the call began. -/
abbrev Tags := Nat → Nat

def Tags.ext (g : Tags) (n t : Nat) : Tags := fun b => if b < n then g b else t

/-- A step: of the blocks that were there only those of T have turned. -/
structure Turn (w : World) (g : Tags) (w' : World) (g' : Tags) (T : List Nat) : Prop where
  os : w'.os = w.os
  tape : w'.tape = w.tape
  output : w'.output = w.output
  size : w.heap.size ≤ w'.heap.size
  old : ∀ b, b < w.heap.size → g' b = g b
  block : ∀ b, b < w.heap.size → g b ∉ T → w'.heap[b]? = w.heap[b]?

theorem Turn.refl (w : World) (g : Tags) (T : List Nat) : Turn w g w g T := ⟨rfl, rfl, rfl, Nat.le_refl _, fun _ _ => rfl, fun _ _ _ => rfl⟩

theorem Turn.trans {w w1 w2 : World} {g g1 g2 : Tags} {T U V : List Nat} (h : Turn w g w1 g1 T) (k : Turn w1 g1 w2 g2 U) (hT : ∀ t, t ∈ T → t ∈ V) (hU : ∀ t, t ∈ U → t ∈ V) : Turn w g w2 g2 V :=
  ⟨k.os.trans h.os, k.tape.trans h.tape, k.output.trans h.output, Nat.le_trans h.size k.size,
    fun b hb => (k.old b (Nat.lt_of_lt_of_le hb h.size)).trans (h.old b hb),
    fun b hb hn => (k.block b (Nat.lt_of_lt_of_le hb h.size) (by rw [h.old b hb]; exact fun hm => hn (hU _ hm))).trans (h.block b hb (fun hm => hn (hT _ hm)))⟩

theorem Turn.mono {w w1 : World} {g g1 : Tags} {T V : List Nat} (h : Turn w g w1 g1 T) (hT : ∀ t, t ∈ T → t ∈ V) : Turn w g w1 g1 V :=
  ⟨h.os, h.tape, h.output, h.size, h.old, fun b hb hn => h.block b hb (fun hm => hn (hT _ hm))⟩

theorem Tags.ext_old (g : Tags) (n t b : Nat) (h : b < n) : g.ext n t b = g b := by unfold Tags.ext; rw [if_pos h]
theorem Tags.ext_new (g : Tags) (n t b : Nat) (h : n ≤ b) : g.ext n t b = t := by unfold Tags.ext; rw [if_neg (by omega)]

theorem Turn.of_step {w w' : World} {row : Option Nat} (h : Step w w' row) (g : Tags) (t : Nat) (hr : ∀ k, row = some k → g k = t) : Turn w g w' (g.ext w.heap.size t) [t] :=
  ⟨h.os, h.tape, h.output, h.size, fun b hb => Tags.ext_old _ _ _ _ hb, fun b hb hn => h.block b hb (fun e => hn (by rw [hr b e.symm]; exact List.mem_singleton.2 rfl))⟩

theorem Turn.of_below {w w' : World} (h : Below w.heap.size w w') (g : Tags) (t : Nat) : Turn w g w' (g.ext w.heap.size t) [] :=
  ⟨h.os, h.tape, h.output, h.size, fun _ hb => Tags.ext_old _ _ _ _ hb, fun b hb _ => h.block b hb⟩

theorem Turn.alloc (w : World) (g : Tags) (t : Nat) (o : Obj) : Turn w g (w.alloc o) (g.ext w.heap.size t) [] :=
  Turn.of_below ((Below.refl _ w).alloc (Nat.le_refl _) o) g t

theorem Turn.drew (w : World) (g : Tags) : Turn w g w.drew g [] := ⟨rfl, rfl, rfl, Nat.le_refl _, fun _ _ => rfl, fun _ _ _ => rfl⟩

theorem heap_drewN' (w : World) : ∀ n, (w.drewN n).heap = w.heap := by
  intro n
  induction n with
  | zero => rfl
  | succ n ih => exact ih
theorem below_drewN' (w : World) : ∀ n, Below w.heap.size w (w.drewN n) := by
  intro n
  induction n with
  | zero => exact Below.refl _ _
  | succ n ih => exact ih.drew
theorem Turn.drewN (w : World) (g : Tags) (n : Nat) : Turn w g (w.drewN n) g [] :=
  ⟨(below_drewN' w n).os, (below_drewN' w n).tape, (below_drewN' w n).output, (below_drewN' w n).size, fun _ _ => rfl, fun b hb _ => (below_drewN' w n).block b hb⟩

theorem Turn.setCell (w : World) (g : Tags) (a : Addr) (u : Value) (hs : (w.setCell a u).heap.size = w.heap.size) (ho : (w.setCell a u).os = w.os) (ht : (w.setCell a u).tape = w.tape) (hp : (w.setCell a u).output = w.output) : Turn w g (w.setCell a u) g [g a.block] :=
  ⟨ho, ht, hp, by rw [hs]; exact Nat.le_refl _, fun _ _ => rfl, fun b _ hn => Below.heap_setCell w a u b (fun e => hn (by rw [e]; exact List.mem_singleton.2 rfl))⟩

/-- Since the call began. -/
structure Since (w0 w : World) (g : Tags) : Prop where
  below : Below w0.heap.size w0 w
  zero : ∀ b, b < w0.heap.size → g b = 0

theorem Since.start (w : World) : Since w w (fun _ => 0) := ⟨Below.refl _ _, fun _ _ => rfl⟩

theorem Since.turn {w0 w w' : World} {g g' : Tags} {T : List Nat} (h : Since w0 w g) (k : Turn w g w' g' T) (h0 : 0 ∉ T) : Since w0 w' g' :=
  ⟨h.below.trans ⟨k.os, k.tape, k.output, k.size, fun b hb => k.block b (Nat.lt_of_lt_of_le hb h.below.size) (by rw [h.zero b hb]; exact h0)⟩,
    fun b hb => (k.old b (Nat.lt_of_lt_of_le hb h.below.size)).trans (h.zero b hb)⟩

/-! ### What is read, by owner -/
def Row (w : World) (g : Tags) (t : Nat) (v : Value) (xs : List Value) : Prop := RowIn w (fun b => g b = t) v xs
def Bytes (w : World) (g : Tags) (t : Nat) (v : Value) (l : List UInt8) : Prop := BytesIn w (fun b => g b = t) v l
def Frames (w : World) (g : Tags) (t : Nat) (v : Value) (ls : List (List UInt8)) : Prop := FramesIn w (fun b => g b = t) v ls

theorem Turn.keeps {w w' : World} {g g' : Tags} {T : List Nat} (k : Turn w g w' g' T) {t : Nat} (ht : t ∉ T) (b : Nat) (hb : g' b = t) (hlt : b < w.heap.size) : w'.heap[b]? = w.heap[b]? :=
  k.block b hlt (by rw [← k.old b hlt, hb]; exact ht)

theorem Row.turn {w w' : World} {g g' : Tags} {T : List Nat} {t : Nat} {v : Value} {xs : List Value} (h : Row w g t v xs) (k : Turn w g w' g' T) (ht : t ∉ T) : Row w' g' t v xs :=
  (RowIn.mono h (fun b hb hs => (k.old b hb).trans hs)).frame fun b hb hlt => k.keeps ht b hb hlt
theorem Bytes.turn {w w' : World} {g g' : Tags} {T : List Nat} {t : Nat} {v : Value} {l : List UInt8} (h : Bytes w g t v l) (k : Turn w g w' g' T) (ht : t ∉ T) : Bytes w' g' t v l :=
  (BytesIn.mono h (fun b hb hs => (k.old b hb).trans hs)).frame fun b hb hlt => k.keeps ht b hb hlt
theorem Frames.turn {w w' : World} {g g' : Tags} {T : List Nat} {t : Nat} {v : Value} {ls : List (List UInt8)} (h : Frames w g t v ls) (k : Turn w g w' g' T) (ht : t ∉ T) : Frames w' g' t v ls :=
  (FramesIn.mono h (fun b hb hs => (k.old b hb).trans hs)).frame fun b hb hlt => k.keeps ht b hb hlt

theorem own_form {w : World} {e : TypeId} {size : Nat} {v : Value} {n : Nat} {xs : List Value} {g : Option Nat} (h : Own w e size v n xs g) : ∃ ao cap, v = .slice ao n cap := by
  rcases h.2 with ⟨rfl, rfl, _⟩ | ⟨b, off, cap, cur, rfl, _⟩
  · exact ⟨none, 0, rfl⟩
  · exact ⟨_, cap, rfl⟩

/-- A slice that the call owns. -/
def Owns (w : World) (g : Tags) (t : Nat) (e : TypeId) (size : Nat) (v : Value) (n : Nat) (xs : List Value) : Prop :=
  ∃ k, Own w e size v n xs k ∧ ∀ b, k = some b → g b = t

theorem Owns.turn {w w' : World} {g g' : Tags} {T : List Nat} {t : Nat} {e : TypeId} {size : Nat} {v : Value} {n : Nat} {xs : List Value} (h : Owns w g t e size v n xs) (k : Turn w g w' g' T) (ht : t ∉ T) : Owns w' g' t e size v n xs := by
  obtain ⟨r, ho, hr⟩ := h
  refine ⟨r, ho.frame fun b hb => k.block b (ho.lt b hb) (by rw [hr b hb]; exact ht), fun b hb => (k.old b (ho.lt b hb)).trans (hr b hb)⟩

theorem Owns.nil (w : World) (g : Tags) (t : Nat) (e : TypeId) (size : Nat) : Owns w g t e size (.slice none 0 0) 0 [] := ⟨none, Own.nil w e size, fun _ h => by cases h⟩

theorem Owns.row {w : World} {g : Tags} {t : Nat} {e : TypeId} {v : Value} {n : Nat} {xs : List Value} (h : Owns w g t e 1 v n xs) : Row w g t v xs := by
  obtain ⟨r, ho, hr⟩ := h
  exact (Own.row ho).mono (fun b _ hb => hr b hb)
theorem Owns.bytes {w : World} {g : Tags} {t : Nat} {v : Value} {n : Nat} {l : List UInt8} {e : TypeId} (h : Owns w g t e 1 v n (l.map byteCell)) : Bytes w g t v l := h.row
theorem Owns.form {w : World} {g : Tags} {t : Nat} {e : TypeId} {size : Nat} {v : Value} {n : Nat} {xs : List Value} (h : Owns w g t e size v n xs) : ∃ ao cap, v = .slice ao n cap := by
  obtain ⟨r, ho, hr⟩ := h
  exact own_form ho

/-- A piece of what reads. -/
theorem Bytes.cut {w : World} {g : Tags} {t : Nat} {b off n cap : Nat} {l : List UInt8} (h : Bytes w g t (.slice (some ⟨b, off, none⟩) n cap) l) (k j c : Nat) (hkj : k ≤ j) (hj : j ≤ l.length) {ad : Addr} (hc : j - k ≤ c ∧ c ≤ maxLen) (had : k < j → ad = ⟨b, off + k, none⟩) :
    Bytes w g t (.slice (some ad) (j - k) c) ((l.drop k).take (j - k)) := BytesIn.cut h k j c hkj hj hc had

/-- The only one. -/
theorem Frames.one {w : World} {g : Tags} {t : Nat} {ao : Option Addr} {n cap : Nat} {l : List UInt8} (h : Frames w g t (.slice ao n cap) [l]) :
    ∃ b off a' c', ao = some ⟨b, off, none⟩ ∧ w.cell? ⟨b, off, none⟩ = some (.slice a' l.length c') ∧ Bytes w g t (.slice a' l.length c') l := by
  obtain ⟨b, off, e, _, hc⟩ := FramesIn.cells h (by simp)
  obtain ⟨u, hu, hb⟩ := hc 0 (by simp)
  obtain ⟨a', c', e', _⟩ := BytesIn.open_ hb
  simp only [List.getElem_cons_zero] at e'
  subst e'
  exact ⟨b, off, a', c', e, by rw [Nat.add_zero] at hu; exact hu, hb⟩

theorem Bytes.src {w : World} {g : Tags} {t : Nat} {v : Value} {l : List UInt8} (h : Bytes w g t v l) : Src w 1 v l.length (l.map byteCell) := BytesIn.src h

section
variable {P : Program} (w : World)
/-- APPEND, FOR THE WALK. -/
theorem wpList_append_t {ops : Array Oper} {rest : List Oper} {o : Oper} {a : Act} {Q : Exit → Act → World → Prop} (hgd : o.guard = none) (s x : Operand) {t e : TypeId}
    (ho : o.op = .call { callee := .builtin .append, args := #[s, x], argTypes := #[t, t] }) {size bytes : Nat} {z : Value} (E : Elem P t e size bytes z)
    {v : Value} {n : Nat} {xs : List Value} {g : Tags} {tg : Nat} (hs : a.eval s = v) (hown : Owns w g tg e size v n xs) {y : Value} {m : Nat} {news : List Value} (hy : a.eval x = y) (hx : Src w size y m news) (h1 : ∀ u ∈ news, u.oneCell' = true)
    (h63 : n + m ≤ maxLen) (hbytes : (n + m) * bytes ≤ 140737488355328)
    (h : ∀ ao cap w' g', Owns w' g' tg e size (.slice ao (n + m) cap) (n + m) (xs ++ news) → Turn w g w' g' [tg] → wpList P ops Q rest (a.put o.dst (.slice ao (n + m) cap)) w') : wpList P ops Q (o :: rest) a w := by
  obtain ⟨k, ho', hk⟩ := hown
  refine wpList_append w hgd s x ho E hs ho' hy hx h1 h63 hbytes fun v' w' k' h2 h3 h4 => ?_
  obtain ⟨ao, cap, rfl⟩ := own_form h2
  refine h ao cap w' (g.ext w.heap.size tg) ⟨k', h2, fun b hb => ?_⟩ (Turn.of_step h3 g tg hk)
  rcases h4 with rfl | ⟨j, hj, hge⟩
  · rw [Tags.ext_old _ _ _ _ (ho'.lt b hb)]; exact hk b hb
  · rw [hj] at hb; cases hb; exact Tags.ext_new _ _ _ _ hge

/-- APPEND, AS ONE STEP OF A REGION THAT DRAWS ITS ORDER: for 'go_region_law (refine step_append_t ..)'. -/
theorem step_append_t {w : World} {ops : Array Oper} {o : Oper} {a : Act} {K : Act → World → Prop} {Q : Exit → Act → World → Prop} {X : Prop} (hgd : o.guard = none) (s x : Operand) {t e : TypeId}
    (ho : o.op = .call { callee := .builtin .append, args := #[s, x], argTypes := #[t, t] }) {size bytes : Nat} {z : Value} (E : Elem P t e size bytes z)
    {v : Value} {n : Nat} {xs : List Value} {g : Tags} {tg : Nat} (hs : a.eval s = v) (hown : Owns w g tg e size v n xs) {y : Value} {m : Nat} {news : List Value} (hy : a.eval x = y) (hx : Src w size y m news) (h1 : ∀ u ∈ news, u.oneCell' = true)
    (h63 : n + m ≤ maxLen) (hbytes : (n + m) * bytes ≤ 140737488355328)
    (h : ∀ ao cap w' g', Owns w' g' tg e size (.slice ao (n + m) cap) (n + m) (xs ++ news) → Turn w g w' g' [tg] → K (a.put o.dst (.slice ao (n + m) cap)) w') :
    if Region.wanted o (yielded ops a.tmps) = true then Oper.wp P o a w K Q else X := by
  obtain ⟨k, ho', hk⟩ := hown
  refine step_append hgd s x ho E hs ho' hy hx h1 h63 hbytes fun v' w' k' h2 h3 h4 => ?_
  obtain ⟨ao, cap, rfl⟩ := own_form h2
  refine h ao cap w' (g.ext w.heap.size tg) ⟨k', h2, fun b hb => ?_⟩ (Turn.of_step h3 g tg hk)
  rcases h4 with rfl | ⟨j, hj, hge⟩
  · rw [Tags.ext_old _ _ _ _ (ho'.lt b hb)]; exact hk b hb
  · rw [hj] at hb; cases hb; exact Tags.ext_new _ _ _ _ hge
end
end Go.My

/- A struct in a block of its own: its cells written one by one. No program in sight. -/
namespace Go.My
open Go.RowKit

/-- From w to w': block c now holds these cells; all else is as it was. -/
structure Put (w w' : World) (c : Nat) (cs : Array Value) (T : TypeId) : Prop where
  row : w'.heap[c]? = some (.cells cs T (0, 0))
  os : w'.os = w.os
  tape : w'.tape = w.tape
  output : w'.output = w.output
  size : w'.heap.size = w.heap.size
  oth : ∀ k, k ≠ c → w'.heap[k]? = w.heap[k]?

theorem Put.one {w : World} {c : Nat} {cs : Array Value} {T : TypeId} (h : w.heap[c]? = some (.cells cs T (0, 0))) (i : Nat) (v : Value) : Put w (w.setCell ⟨c, i, none⟩ v) c (cs.setIfInBounds i v) T :=
  ⟨heap_setCell_same w c i _ _ v h, rfl, rfl, rfl, by simp, fun k hk => Below.heap_setCell w ⟨c, i, none⟩ v k (by simpa using hk)⟩
theorem Put.trans {w w1 w2 : World} {c : Nat} {cs ds : Array Value} {T : TypeId} (h : Put w w1 c cs T) (k : Put w1 w2 c ds T) : Put w w2 c ds T :=
  ⟨k.row, k.os.trans h.os, k.tape.trans h.tape, k.output.trans h.output, k.size.trans h.size, fun j hj => (k.oth j hj).trans (h.oth j hj)⟩
theorem Put.below {w0 w w' : World} {n c : Nat} {cs : Array Value} {T : TypeId} (h : Put w w' c cs T) (hb : Below n w0 w) (hn : n ≤ c) : Below n w0 w' :=
  ⟨h.os.trans hb.os, h.tape.trans hb.tape, h.output.trans hb.output, by rw [h.size]; exact hb.size, fun k hk => (h.oth k (by omega)).trans (hb.block k hk)⟩
theorem Put.step {w w' : World} {c : Nat} {cs : Array Value} {T : TypeId} (h : Put w w' c cs T) : Step w w' (some c) :=
  ⟨h.os, h.tape, h.output, by rw [h.size]; exact Nat.le_refl _, fun k _ hk => h.oth k fun e => hk (by rw [e])⟩
theorem Put.cells {w w' : World} {c : Nat} {cs : Array Value} {T : TypeId} (h : Put w w' c cs T) (i : Nat) : w'.cell? ⟨c, i, none⟩ = cs[i]? ∧ w'.frozen? ⟨c, i, none⟩ = false := ⟨cell_of_row _ _ _ _ _ _ h.row, frozen_of_row _ _ _ _ _ h.row⟩

theorem put2 {w : World} {c : Nat} {z0 z1 : Value} {T : TypeId} (h : w.heap[c]? = some (.cells #[z0, z1] T (0, 0))) (v0 v1 : Value) : Put w ((w.setCell ⟨c, 0, none⟩ v0).setCell ⟨c, 1, none⟩ v1) c #[v0, v1] T :=
  (Put.one h 0 v0).trans (Put.one (Put.one h 0 v0).row 1 v1)
theorem put3 {w : World} {c : Nat} {z0 z1 z2 : Value} {T : TypeId} (h : w.heap[c]? = some (.cells #[z0, z1, z2] T (0, 0))) (v0 v1 v2 : Value) : Put w (((w.setCell ⟨c, 0, none⟩ v0).setCell ⟨c, 1, none⟩ v1).setCell ⟨c, 2, none⟩ v2) c #[v0, v1, v2] T :=
  have h1 := put2' h v0 v1
  h1.trans (Put.one h1.row 2 v2)
where put2' {w : World} {c : Nat} {z0 z1 z2 : Value} {T : TypeId} (h : w.heap[c]? = some (.cells #[z0, z1, z2] T (0, 0))) (v0 v1 : Value) : Put w ((w.setCell ⟨c, 0, none⟩ v0).setCell ⟨c, 1, none⟩ v1) c #[v0, v1, z2] T :=
  (Put.one h 0 v0).trans (Put.one (Put.one h 0 v0).row 1 v1)
theorem put5 {w : World} {c : Nat} {z0 z1 z2 z3 z4 : Value} {T : TypeId} (h : w.heap[c]? = some (.cells #[z0, z1, z2, z3, z4] T (0, 0))) (v0 v1 v2 v3 v4 : Value) :
    Put w (((((w.setCell ⟨c, 0, none⟩ v0).setCell ⟨c, 1, none⟩ v1).setCell ⟨c, 2, none⟩ v2).setCell ⟨c, 3, none⟩ v3).setCell ⟨c, 4, none⟩ v4) c #[v0, v1, v2, v3, v4] T := by
  have h0 : Put w _ c #[v0, z1, z2, z3, z4] T := Put.one h 0 v0
  have h1 : Put w _ c #[v0, v1, z2, z3, z4] T := h0.trans (Put.one h0.row 1 v1)
  have h2 : Put w _ c #[v0, v1, v2, z3, z4] T := h1.trans (Put.one h1.row 2 v2)
  have h3 : Put w _ c #[v0, v1, v2, v3, z4] T := h2.trans (Put.one h2.row 3 v3)
  exact h3.trans (Put.one h3.row 4 v4)

/-- A new block. -/
theorem Put.new (w : World) (cs : Array Value) (T : TypeId) : Below w.heap.size w (w.alloc (.cells cs T)) ∧ (w.alloc (.cells cs T)).heap[w.heap.size]? = some (.cells cs T (0, 0)) ∧ (w.alloc (.cells cs T)).heap.size = w.heap.size + 1 :=
  ⟨Below.alloc (Below.refl _ w) (Nat.le_refl _) _, heap_alloc_new w _, World.size_alloc _ _⟩

theorem row5 {w : World} {c : Nat} {v0 v1 v2 v3 v4 : Value} {T : TypeId} (h : w.heap[c]? = some (.cells #[v0, v1, v2, v3, v4] T (0, 0))) :
    w.cell? ⟨c, 0, none⟩ = some v0 ∧ w.cell? ⟨c, 1, none⟩ = some v1 ∧ w.cell? ⟨c, 2, none⟩ = some v2 ∧ w.cell? ⟨c, 3, none⟩ = some v3 ∧ w.cell? ⟨c, 4, none⟩ = some v4 ∧
    w.frozen? ⟨c, 0, none⟩ = false ∧ w.frozen? ⟨c, 1, none⟩ = false ∧ w.frozen? ⟨c, 2, none⟩ = false ∧ w.frozen? ⟨c, 3, none⟩ = false ∧ w.frozen? ⟨c, 4, none⟩ = false :=
  ⟨cell_of_row w c 0 _ _ _ h, cell_of_row w c 1 _ _ _ h, cell_of_row w c 2 _ _ _ h, cell_of_row w c 3 _ _ _ h, cell_of_row w c 4 _ _ _ h, frozen_of_row w c 0 _ _ h, frozen_of_row w c 1 _ _ h, frozen_of_row w c 2 _ _ h, frozen_of_row w c 3 _ _ h, frozen_of_row w c 4 _ _ h⟩

/-- What a cell of a struct holds gives the result. -/
theorem results_cell1 {fn : Func} {p : Tmp} {tp : TypeId} (h : fn.results = #[.cell p tp]) (tmps : Array Value) (P : Program) (w : World) {a : Addr} {va : Value}
    (ea : tmps.getD p undef = .pointer (some a)) (ra : (loadVar tp a).run P w = .ok va w) : (results fn tmps).run P w = .ok va w := by
  have ea' : tmps[p]?.getD undef = .pointer (some a) := by simpa using ea
  simp [results, h, ea', asAddr, ra]
/-- A block that was there is as it was behind a step of the reader. -/
theorem Step.kept {w w' : World} {rb c : Nat} (h : Step w w' (some rb)) (hc : c < w.heap.size) (hne : c ≠ rb) : w'.heap[c]? = w.heap[c]? := h.block c hc fun e => hne (by cases e; rfl)
/-- What is written into a new block is no step in what was there. -/
theorem Step.put {w w1 w2 : World} {rb c : Nat} {cs : Array Value} {T : TypeId} (hs : Step w w1 (some rb)) (hp : Put w1 w2 c cs T) (hc : w.heap.size ≤ c) : Step w w2 (some rb) :=
  ⟨hp.os.trans hs.os, hp.tape.trans hs.tape, hp.output.trans hs.output, by rw [hp.size]; exact hs.size, fun k hk hk' => (hp.oth k (by omega)).trans (hs.block k hk hk')⟩
end Go.My

/- A map with keys of an integer kind that the call itself keeps in one block: what it holds, as a function of the key; its elements stay values. No program in sight. -/
namespace Go.My
open Go.RowKit Go.Maps

/-- An element stays the value that it is: a datum that no other value has. -/
def selfElem (v : Value) : Option (DataW Value × List MemPlace) := some (.held v, [])

/-- Block b is a map, of n entries at most, that holds at each key what f says. -/
def MapIs (P : Program) (k : TypeId) (q : IntKind) (w : World) (b n : Nat) (f : Int → Option Value) : Prop :=
  ∃ D : DataW Value, w.ownsMap P k selfElem b n D ∧ IsMap D ∧ ∀ i : Int, (Lit.int q i).wf = true → (has D (.int q i) = (f i).isSome ∧ ∀ u, f i = some u → ∀ z, D.atKey (.int q i) z = .held u)

section
variable {P : Program} {k : TypeId} {q : IntKind} {w : World} {b n : Nat} {f : Int → Option Value}

theorem MapIs.made (w : World) (P : Program) (k : TypeId) (q : IntKind) : MapIs P k q (w.alloc (.map #[] 0)) w.heap.size 0 (fun _ => none) :=
  ⟨.map [], World.ownsMap_made w P k selfElem, isMap_empty, fun i _ => ⟨rfl, fun u h => by cases h⟩⟩

theorem MapIs.lt (h : MapIs P k q w b n f) : b < w.heap.size := by obtain ⟨D, h, _⟩ := h; exact h.lt

theorem MapIs.mono (h : MapIs P k q w b n f) {m : Nat} (hm : n ≤ m) : MapIs P k q w b m f := by obtain ⟨D, h, r⟩ := h; exact ⟨D, h.mono hm, r⟩

theorem MapIs.frame {w' : World} (h : MapIs P k q w b n f) (hb : w'.heap[b]? = w.heap[b]?) : MapIs P k q w' b n f := by
  obtain ⟨D, ⟨es, clock, h1, h2⟩, r⟩ := h
  exact ⟨D, ⟨es, clock, hb.trans h1, h2⟩, r⟩

/-- 'v, ok := m[k]', where it is. -/
theorem MapIs.look_some {t e : TypeId} (h : MapIs P k q w b n f) (hk : P.underlying k = some (.int q)) (ht : P.underlying t = some (.map k e)) {z : Value} (hz : (zeroValue e).run P w = .ok z w) {i : Int} (hi : (Lit.int q i).wf = true) {u : Value} (hu : f i = some u) :
    (Instr.lookup t (.map (some b)) (.int q i) true).run P w = .ok (.tuple #[u, .bool true]) w := by
  obtain ⟨D, h, hm, hf⟩ := h
  obtain ⟨h1, h2⟩ := hf i hi
  obtain ⟨v, ps, hrun, hv⟩ := h.look_ok (R := selfElem) (int_keyed hk) ht hz (zd := .held z) (zp := []) rfl (keyOf_int_mk hk hi)
  rw [h1, hu] at hrun
  rw [h2 u hu] at hv
  simp only [selfElem, Option.some.injEq, Prod.mk.injEq, DataW.held.injEq] at hv
  rw [hv.1] at hrun
  exact hrun

/-- .. and where it is not. -/
theorem MapIs.look_none {t e : TypeId} (h : MapIs P k q w b n f) (hk : P.underlying k = some (.int q)) (ht : P.underlying t = some (.map k e)) {z : Value} (hz : (zeroValue e).run P w = .ok z w) {i : Int} (hi : (Lit.int q i).wf = true) (hu : f i = none) :
    (Instr.lookup t (.map (some b)) (.int q i) true).run P w = .ok (.tuple #[z, .bool false]) w := by
  obtain ⟨D, h, hm, hf⟩ := h
  obtain ⟨h1, h2⟩ := hf i hi
  obtain ⟨v, ps, hrun, hv⟩ := h.look_ok (R := selfElem) (int_keyed hk) ht hz (zd := .held z) (zp := []) rfl (keyOf_int_mk hk hi)
  rw [h1, hu] at hrun
  rw [atKey_of_not_has (by rw [h1, hu]; rfl)] at hv
  simp only [selfElem, Option.some.injEq, Prod.mk.injEq, DataW.held.injEq] at hv
  rw [hv.1] at hrun
  exact hrun

theorem lit_ne {q : IntKind} {i j : Int} (h : i ≠ j) : (Lit.int q i) ≠ (Lit.int q j) := fun e => h (by cases e; rfl)

/-- 'm[k] = v'. -/
theorem MapIs.store {t e : TypeId} (h : MapIs P k q w b n f) (hk : P.underlying k = some (.int q)) (ht : P.underlying t = some (.map k e)) (hn : n < maxLen) {i : Int} (hi : (Lit.int q i).wf = true) (u : Value) :
    ∃ w', (Instr.mapUpdate t (.map (some b)) (.int q i) u).run P w = .ok () w' ∧ MapIs P k q w' b (n + 1) (fun j => if j = i then some u else f j) ∧ w.grownBy w' (some b) := by
  obtain ⟨D, h, hm, hf⟩ := h
  obtain ⟨w', hrun, h1, h2⟩ := h.store (R := selfElem) (int_keyed hk) ht hn (keyOf_int_mk hk hi) (val := u) (d := .held u) (ps := []) rfl
  refine ⟨w', hrun, ⟨_, h1, hm.put _ _, fun j hj => ?_⟩, h2.grown⟩
  by_cases e : j = i
  · subst e
    have hkl : WideAt.IsKeyLit (Lit.int q j) := by simp [WideAt.IsKeyLit]
    simp only [if_true, Option.isSome_some]
    exact ⟨has_put_same hm hkl _, fun v hv z => by cases hv; exact atKey_put_same hm hkl _ _⟩
  · simp only [if_neg e]
    obtain ⟨g1, g2⟩ := hf j hj
    exact ⟨by rw [has_put_other (lit_ne e)]; exact g1, fun v hv z => by rw [atKey_put_other (lit_ne e)]; exact g2 v hv z⟩

/-- 'delete(m, k)'. -/
theorem MapIs.drop {t e : TypeId} (h : MapIs P k q w b n f) (hk : P.underlying k = some (.int q)) (ht : P.underlying t = some (.map k e)) {i : Int} (hi : (Lit.int q i).wf = true) (ty : TypeId) :
    ∃ w', (Builtin.delete_ #[t, k] ty #[.map (some b), .int q i]).run P w = .ok (.tuple #[]) w' ∧ MapIs P k q w' b n (fun j => if j = i then none else f j) ∧ w.grownBy w' (some b) := by
  obtain ⟨D, h, hm, hf⟩ := h
  obtain ⟨w', hrun, h1, h2⟩ := h.drop (R := selfElem) (int_keyed hk) ht (keyOf_int_mk hk hi) ty
  refine ⟨w', hrun, ⟨_, h1, hm.del _, fun j hj => ?_⟩, h2.grown⟩
  by_cases e : j = i
  · subst e
    simp only [if_true]
    exact ⟨has_del_same, fun v hv => by cases hv⟩
  · simp only [if_neg e]
    obtain ⟨g1, g2⟩ := hf j hj
    exact ⟨by rw [has_del_other (lit_ne e)]; exact g1, fun v hv z => by rw [atKey_del_other (lit_ne e)]; exact g2 v hv z⟩
end

/-- DELETE, AS ONE STEP OF A REGION THAT DRAWS ITS ORDER. -/
theorem step_delete {P : Program} {w w1 : World} {ops : Array Oper} {o : Oper} {a : Act} {K : Act → World → Prop} {Q : Exit → Act → World → Prop} {X : Prop} (hgd : o.guard = none) (m x : Operand) {t k : TypeId}
    (ho : o.op = .call { callee := .builtin .delete, args := #[m, x], argTypes := #[t, k] }) {v y : Value} (hm : a.eval m = v) (hx : a.eval x = y) (hrun : (Builtin.delete_ #[t, k] o.type #[v, y]).run P w = .ok (.tuple #[]) w1)
    (h : K (a.put o.dst (.tuple #[])) w1) : if Region.wanted o (yielded ops a.tmps) = true then Oper.wp P o a w K Q else X := by
  have hw : Region.wanted o (yielded ops a.tmps) = true := by simp [Region.wanted, hgd]
  rw [if_pos hw]
  unfold Oper.wp execOp
  simp only [ho, resolve, invoke, builtin, Sem.run_bind, Sem.run_pure, Result.andThen_ok, List.map_toArray, List.map_cons, List.map_nil, hm, hx, hrun]
  exact h
end Go.My

/- Tokens: run, the kinds, silence. -/
namespace Go.Proofs.YtobpnjnfpgcpaaaDoor
open Go.RowKit Go.My

/-- A text. -/
def bs (l : List UInt8) : ByteArray := ⟨l.toArray⟩
theorem bs_size (l : List UInt8) : (bs l).size = l.length := by simp [bs, ByteArray.size]
theorem bs_list (l : List UInt8) : (bs l).data.toList = l := by simp [bs]
theorem bs_of (s : ByteArray) : s = bs s.data.toList := by cases s; simp [bs]

theorem drop_run (p : UInt8 → Bool) (l : List UInt8) : l.dropWhile p = l.drop (To.run p l) := by
  induction l with
  | nil => rfl
  | cons c l ih =>
    unfold To.run
    rw [List.dropWhile_cons]
    by_cases h : p c = true
    · rw [if_pos h, if_pos h, List.drop_succ_cons, ih]
    · rw [if_neg h, if_neg h, List.drop_zero]

/-- A cutset, and what it is of. -/
structure Cut (cs : List UInt8) (p : UInt8 → Bool) : Prop where
  ascii : ∀ (j : Nat) b, cs[j]? = some b → b.toNat < 128
  is : ∀ c, cs.contains c = p c
  small : cs.length < 1000

theorem trim_t {w : World} {cs : List UInt8} {p : UInt8 → Bool} (hc : Cut cs p) (l : List UInt8) {Q : Ending → World → Prop} (h : ∀ w', Below w.heap.size w w' → Q (.returned (.string (bs (l.drop (To.run p l))))) w') :
    Calls Tryd.prog 85 #[.string (bs l), .string (bs cs)] w Q := by
  have hcon := Any.strings_TrimLeft_laid Tryd.lays161 (by kernel_rfl) (bs l) (bs cs) w (by rw [bs_size]; have := hc.small; omega) (by rw [bs_list]; exact hc.ascii)
  refine Calls.mono (P := Tryd.prog) (f := 85) hcon ?_
  rintro e w' ⟨rfl, hB⟩
  have e1 : (⟨(Lib.trimLeftS (bs l).data.toList (bs cs).data.toList).toArray⟩ : ByteArray) = bs (l.drop (To.run p l)) := by
    rw [bs_list, bs_list]
    unfold Lib.trimLeftS
    have : (fun x => cs.contains x) = p := funext hc.is
    rw [this, drop_run]; rfl
  rw [e1]
  exact h w' hB

set_option maxHeartbeats 1000000 in
theorem run_t {w : World} {cs : List UInt8} {p : UInt8 → Bool} (hc : Cut cs p) (l : List UInt8) (hl : l.length ≤ 9223372036854775807) {Q : Ending → World → Prop} (h : ∀ w', Below w.heap.size w w' → Q (.returned (.int .i64 (To.run p l : Nat))) w') :
    Calls Tryd.prog 68 #[.string (bs l), .string (bs cs)] w Q := by
  have H := Lib.hid h
  have hr := To.run_le p l
  have hs1 := bs_size l
  have hs2 := bs_size (l.drop (To.run p l))
  rw [List.length_drop] at hs2
  have hr1 : ((l.length - To.run p l : Nat) : Int) = (l.length : Int) - (To.run p l : Int) := by omega
  have hl1 : (l.length : Int) ≤ 9223372036854775807 := by omega
  clear h
  go_enter Tryd.func68, Tryd.ntmps68
  go_wp2_with fail
  refine trim_t hc l fun w' hB => ?_
  have HB := Lib.hid hB
  clear hB
  go_wp2_with fail
  have e : (l.length : Int) - ((l.length : Int) - (To.run p l : Int)) = (To.run p l : Int) := by omega
  have h2 := H.out w' HB.out
  rw [← e] at h2
  exact h2

def letters : List UInt8 := [97, 98, 99, 100, 101, 102, 103, 104, 105, 106, 107, 108, 109, 110, 111, 112, 113, 114, 115, 116, 117, 118, 119, 120, 121, 122, 65, 66, 67, 68, 69, 70, 71, 72, 73, 74, 75, 76, 77, 78, 79, 80, 81, 82, 83, 84, 85, 86, 87, 88, 89, 90]
def digits : List UInt8 := [48, 49, 50, 51, 52, 53, 54, 55, 56, 57]
def blanks : List UInt8 := [32, 9, 10, 13]

theorem cut_of {cs : List UInt8} {p : UInt8 → Bool} (h1 : cs.all (fun b => decide (b.toNat < 128)) = true) (h2 : (List.range 256).all (fun n => cs.contains (UInt8.ofNat n) == p (UInt8.ofNat n)) = true) (h3 : cs.length < 1000) : Cut cs p := by
  refine ⟨fun j b hj => ?_, fun c => ?_, h3⟩
  · have := List.all_eq_true.1 h1 b (List.mem_of_getElem? hj)
    simpa using this
  · have := List.all_eq_true.1 h2 c.toNat (List.mem_range.2 c.toNat_lt)
    simpa using this
set_option maxRecDepth 100000 in
theorem cutL : Cut letters To.isL := cut_of (by decide +kernel) (by decide +kernel) (by decide +kernel)
set_option maxRecDepth 100000 in
theorem cutD : Cut digits To.isD := cut_of (by decide +kernel) (by decide +kernel) (by decide +kernel)
set_option maxRecDepth 100000 in
theorem cutB : Cut blanks To.isB := cut_of (by decide +kernel) (by decide +kernel) (by decide +kernel)
set_option maxRecDepth 100000 in
theorem cutW : Cut (letters ++ digits ++ [95]) To.isW := cut_of (by decide +kernel) (by decide +kernel) (by decide +kernel)

set_option maxHeartbeats 1000000 in
theorem word_t {w : World} (l : List UInt8) (hl : l.length ≤ 9223372036854775807) {Q : Ending → World → Prop} (h : ∀ w', Below w.heap.size w w' → Q (.returned (.int .i64 (To.word l : Nat))) w') :
    Calls Tryd.prog 67 #[.string (bs l)] w Q := by
  have H := Lib.hid h
  clear h
  by_cases h0 : To.run To.isL l = 0
  · have e : To.word l = 0 := by unfold To.word; rw [if_pos h0]
    rw [e] at H
    have HZ := Lib.hid h0
    clear h0 e
    go_enter Tryd.func67, Tryd.ntmps67
    go_wp2_with fail
    refine run_t cutL l hl fun w' hB => ?_
    rw [HZ.out]
    have HB := Lib.hid hB
    clear hB
    go_wp2_with fail
    exact H.out w' HB.out
  · have e : To.word l = To.run To.isW l := by unfold To.word; rw [if_neg h0]
    rw [e] at H
    obtain ⟨n, hn⟩ : ∃ n, n = To.run To.isL l := ⟨_, rfl⟩
    rw [← hn] at h0
    have h1 : ((n : Int) == 0) = false := by simp; omega
    have HN := Lib.hid hn
    clear h0 e hn
    go_enter Tryd.func67, Tryd.ntmps67
    go_wp2_with fail
    refine run_t cutL l hl fun w' hB => ?_
    rw [← HN.out]
    have HB := Lib.hid hB
    clear hB
    go_wp2_with fail
    refine run_t cutW l hl fun w2 hB2 => ?_
    have HB2 := Lib.hid (HB.out.trans (hB2.mono HB.out.size))
    clear hB2
    go_wp2_with fail
    exact H.out w2 HB2.out

set_option maxHeartbeats 1000000 in
theorem number_t {w : World} (l : List UInt8) (hl : l.length ≤ 9223372036854775807) {Q : Ending → World → Prop} (h : ∀ w', Below w.heap.size w w' → Q (.returned (.int .i64 (To.number l : Nat))) w') :
    Calls Tryd.prog 69 #[.string (bs l)] w Q := by
  have H := Lib.hid h
  clear h
  go_enter Tryd.func69, Tryd.ntmps69
  go_wp2_with fail
  refine run_t cutD l hl fun w' hB => ?_
  have HB := Lib.hid hB
  clear hB
  go_wp2_with fail
  exact H.out w' HB.out
end Go.Proofs.YtobpnjnfpgcpaaaDoor

/- A map with strings for keys that the call itself keeps in one block: what it holds, as a function of the key; its elements stay values. No program in sight. -/
namespace Go.Proofs.YtobpnjnfpgcpaaaDoor
open Go.RowKit Go.Maps Go.My Go.WideMaps

/-- Block b is a map, of n entries at most, that holds at each string what f says. -/
def MapS (P : Program) (k : TypeId) (w : World) (b n : Nat) (f : List UInt8 → Option Value) : Prop :=
  ∃ D : DataW Value, w.ownsMap P k selfElem b n D ∧ IsMap D ∧ ∀ s : List UInt8, s.length ≤ maxLen → (has D (.string s) = (f s).isSome ∧ ∀ u, f s = some u → ∀ z, D.atKey (.string s) z = .held u)

section
variable {P : Program} {k : TypeId} {w : World} {b n : Nat} {f : List UInt8 → Option Value}

theorem MapS.made (w : World) (P : Program) (k : TypeId) : MapS P k (w.alloc (.map #[] 0)) w.heap.size 0 (fun _ => none) :=
  ⟨.map [], World.ownsMap_made w P k selfElem, isMap_empty, fun i _ => ⟨rfl, fun u h => by cases h⟩⟩
theorem MapS.lt (h : MapS P k w b n f) : b < w.heap.size := by obtain ⟨D, h, _⟩ := h; exact h.lt
theorem MapS.mono (h : MapS P k w b n f) {m : Nat} (hm : n ≤ m) : MapS P k w b m f := by obtain ⟨D, h, r⟩ := h; exact ⟨D, h.mono hm, r⟩
theorem MapS.frame {w' : World} (h : MapS P k w b n f) (hb : w'.heap[b]? = w.heap[b]?) : MapS P k w' b n f := by
  obtain ⟨D, ⟨es, clock, h1, h2⟩, r⟩ := h
  exact ⟨D, ⟨es, clock, hb.trans h1, h2⟩, r⟩

theorem keyOf_bs (hk : P.underlying k = some .string) {s : List UInt8} (hs : s.length ≤ maxLen) : keyOf P k (.string (bs s)) = some (.string s) := by
  have := keyOf_string_mk hk (s := bs s) (by rw [bs_size]; exact hs)
  rwa [bs_list] at this

/-- 'v, ok := m[k]', where it is. -/
theorem MapS.look_some {t e : TypeId} (h : MapS P k w b n f) (hk : P.underlying k = some .string) (ht : P.underlying t = some (.map k e)) {z : Value} (hz : (zeroValue e).run P w = .ok z w) {s : List UInt8} (hs : s.length ≤ maxLen) {u : Value} (hu : f s = some u) :
    (Instr.lookup t (.map (some b)) (.string (bs s)) true).run P w = .ok (.tuple #[u, .bool true]) w := by
  obtain ⟨D, h, hm, hf⟩ := h
  obtain ⟨h1, h2⟩ := hf s hs
  obtain ⟨v, ps, hrun, hv⟩ := h.look_ok (R := selfElem) (string_keyed hk) ht hz (zd := .held z) (zp := []) rfl (keyOf_bs hk hs)
  rw [h1, hu] at hrun
  rw [h2 u hu] at hv
  simp only [selfElem, Option.some.injEq, Prod.mk.injEq, DataW.held.injEq] at hv
  rw [hv.1] at hrun
  exact hrun
/-- .. and where it is not. -/
theorem MapS.look_none {t e : TypeId} (h : MapS P k w b n f) (hk : P.underlying k = some .string) (ht : P.underlying t = some (.map k e)) {z : Value} (hz : (zeroValue e).run P w = .ok z w) {s : List UInt8} (hs : s.length ≤ maxLen) (hu : f s = none) :
    (Instr.lookup t (.map (some b)) (.string (bs s)) true).run P w = .ok (.tuple #[z, .bool false]) w := by
  obtain ⟨D, h, hm, hf⟩ := h
  obtain ⟨h1, h2⟩ := hf s hs
  obtain ⟨v, ps, hrun, hv⟩ := h.look_ok (R := selfElem) (string_keyed hk) ht hz (zd := .held z) (zp := []) rfl (keyOf_bs hk hs)
  rw [h1, hu] at hrun
  rw [atKey_of_not_has (by rw [h1, hu]; rfl)] at hv
  simp only [selfElem, Option.some.injEq, Prod.mk.injEq, DataW.held.injEq] at hv
  rw [hv.1] at hrun
  exact hrun
/-- 'm[k]'. -/
theorem MapS.at {t e : TypeId} (h : MapS P k w b n f) (hk : P.underlying k = some .string) (ht : P.underlying t = some (.map k e)) {z : Value} (hz : (zeroValue e).run P w = .ok z w) {s : List UInt8} (hs : s.length ≤ maxLen) :
    (Instr.lookup t (.map (some b)) (.string (bs s)) false).run P w = .ok ((f s).getD z) w := by
  obtain ⟨D, h, hm, hf⟩ := h
  obtain ⟨h1, h2⟩ := hf s hs
  obtain ⟨v, ps, hrun, hv⟩ := h.lookup (R := selfElem) (string_keyed hk) ht hz (zd := .held z) (zp := []) rfl (keyOf_bs hk hs)
  cases hu : f s with
  | some u =>
    rw [h2 u hu] at hv
    simp only [selfElem, Option.some.injEq, Prod.mk.injEq, DataW.held.injEq] at hv
    rw [hv.1] at hrun
    exact hrun
  | none =>
    rw [atKey_of_not_has (by rw [h1, hu]; rfl)] at hv
    simp only [selfElem, Option.some.injEq, Prod.mk.injEq, DataW.held.injEq] at hv
    rw [hv.1] at hrun
    exact hrun

theorem str_ne {i j : List UInt8} (h : i ≠ j) : (Lit.string i) ≠ (Lit.string j) := fun e => h (by cases e; rfl)

/-- 'm[k] = v'. -/
theorem MapS.store {t e : TypeId} (h : MapS P k w b n f) (hk : P.underlying k = some .string) (ht : P.underlying t = some (.map k e)) (hn : n < maxLen) {s : List UInt8} (hs : s.length ≤ maxLen) (u : Value) :
    ∃ w', (Instr.mapUpdate t (.map (some b)) (.string (bs s)) u).run P w = .ok () w' ∧ MapS P k w' b (n + 1) (fun j => if j = s then some u else f j) ∧ w.grownBy w' (some b) := by
  obtain ⟨D, h, hm, hf⟩ := h
  obtain ⟨w', hrun, h1, h2⟩ := h.store (R := selfElem) (string_keyed hk) ht hn (keyOf_bs hk hs) (val := u) (d := .held u) (ps := []) rfl
  refine ⟨w', hrun, ⟨_, h1, hm.put _ _, fun j hj => ?_⟩, h2.grown⟩
  by_cases e : j = s
  · subst e
    have hkl : WideAt.IsKeyLit (Lit.string j) := by simp [WideAt.IsKeyLit]
    simp only [if_true, Option.isSome_some]
    exact ⟨has_put_same hm hkl _, fun v hv z => by cases hv; exact atKey_put_same hm hkl _ _⟩
  · simp only [if_neg e]
    obtain ⟨g1, g2⟩ := hf j hj
    exact ⟨by rw [has_put_other (str_ne e)]; exact g1, fun v hv z => by rw [atKey_put_other (str_ne e)]; exact g2 v hv z⟩
end
end Go.Proofs.YtobpnjnfpgcpaaaDoor

/- Nodes in memory: what a slice of nodes reads as. No program in sight. -/
namespace Go.My
open Go.RowKit Go.Nd

/-- A string of these bytes. -/
def tx (l : List UInt8) : ByteArray := ⟨l.toArray⟩

/-- A slice's length and room; tw: there is room behind. -/
def Room (tw : Bool) (n c : Nat) : Prop := n ≤ c ∧ c ≤ maxLen ∧ n * 96 ≤ 140737488351232 ∧ (tw = true → n < c)

/-- The mark that stands behind a copy's nodes. -/
def NodeMark (w : World) (b off : Nat) : Prop :=
  w.cell? ⟨b, off, none⟩ = some (.int .u8 0) ∧ w.cell? ⟨b, off + 1, none⟩ = some (.string (tx [115, 112, 97, 114, 101])) ∧ w.cell? ⟨b, off + 2, none⟩ = some (.slice none 0 0) ∧ w.cell? ⟨b, off + 3, none⟩ = some (.slice none 0 0) ∧ w.cell? ⟨b, off + 4, none⟩ = some (.slice none 0 0)
theorem NodeMark.frame {w w' : World} {b off : Nat} (h : NodeMark w b off) (hs : w'.heap[b]? = w.heap[b]?) : NodeMark w' b off := by
  have e : ∀ o, w'.cell? ⟨b, o, none⟩ = w.cell? ⟨b, o, none⟩ := fun o => World.cell?_of_block hs
  exact ⟨(e _).trans h.1, (e _).trans h.2.1, (e _).trans h.2.2.1, (e _).trans h.2.2.2.1, (e _).trans h.2.2.2.2⟩
theorem NodeMark.lt {w : World} {b off : Nat} (h : NodeMark w b off) : b < w.heap.size := World.block_lt_of_cell? w _ h.1

/-- From an address on stand these nodes, all in blocks of S; tw: behind each list stands a mark. -/
inductive NodesAt (w : World) (S : Nat → Prop) (tw : Bool) : Option Addr → Ns → Prop
  | nil (a : Option Addr) (h : tw = true → ∃ b off, a = some ⟨b, off, none⟩ ∧ S b ∧ NodeMark w b off) : NodesAt w S tw a .nil
  | cons {b off k : Nat} {t : List UInt8} {l body els r : Ns} {a1 a2 a3 : Option Addr} {c1 c2 c3 : Nat} (hS : S b) (hk : k < 256) (ht : t.length ≤ 140737488351232)
      (d0 : w.cell? ⟨b, off, none⟩ = some (.int .u8 (k : Int))) (d1 : w.cell? ⟨b, off + 1, none⟩ = some (.string (tx t)))
      (d2 : w.cell? ⟨b, off + 2, none⟩ = some (.slice a1 l.len c1)) (d3 : w.cell? ⟨b, off + 3, none⟩ = some (.slice a2 body.len c2)) (d4 : w.cell? ⟨b, off + 4, none⟩ = some (.slice a3 els.len c3))
      (r1 : Room tw l.len c1) (r2 : Room tw body.len c2) (r3 : Room tw els.len c3)
      (h1 : NodesAt w S tw a1 l) (h2 : NodesAt w S tw a2 body) (h3 : NodesAt w S tw a3 els) (h4 : NodesAt w S tw (some ⟨b, off + 5, none⟩) r) : NodesAt w S tw (some ⟨b, off, none⟩) (.cons k t l body els r)

theorem NodesAt.frame {w w' : World} {S : Nat → Prop} {tw : Bool} {a : Option Addr} {xs : Ns} (h : NodesAt w S tw a xs) (hs : ∀ b, S b → b < w.heap.size → w'.heap[b]? = w.heap[b]?) : NodesAt w' S tw a xs := by
  have cell : ∀ b o u, S b → w.cell? ⟨b, o, none⟩ = some u → w'.cell? ⟨b, o, none⟩ = some u := fun b o u hS h =>
    (World.cell?_of_block (hs b hS (World.block_lt_of_cell? w _ h))).trans h
  induction h with
  | nil a h =>
    refine .nil a fun e => ?_
    obtain ⟨b, off, h1, h2, h3⟩ := h e
    exact ⟨b, off, h1, h2, h3.frame (hs b h2 h3.lt)⟩
  | cons hS hk ht d0 d1 d2 d3 d4 r1 r2 r3 _ _ _ _ i1 i2 i3 i4 =>
    exact .cons hS hk ht (cell _ _ _ hS d0) (cell _ _ _ hS d1) (cell _ _ _ hS d2) (cell _ _ _ hS d3) (cell _ _ _ hS d4) r1 r2 r3 i1 i2 i3 i4

theorem NodesAt.mono {w : World} {S T : Nat → Prop} {tw : Bool} {a : Option Addr} {xs : Ns} (h : NodesAt w S tw a xs) (hs : ∀ b, b < w.heap.size → S b → T b) : NodesAt w T tw a xs := by
  induction h with
  | nil a h =>
    refine .nil a fun e => ?_
    obtain ⟨b, off, h1, h2, h3⟩ := h e
    exact ⟨b, off, h1, hs _ h3.lt h2, h3⟩
  | cons hS hk ht d0 d1 d2 d3 d4 r1 r2 r3 _ _ _ _ i1 i2 i3 i4 =>
    exact .cons (hs _ (World.block_lt_of_cell? w _ d0) hS) hk ht d0 d1 d2 d3 d4 r1 r2 r3 i1 i2 i3 i4

/-- v reads as these nodes. -/
def Nodes (w : World) (S : Nat → Prop) (tw : Bool) (v : Value) (xs : Ns) : Prop := ∃ a c, v = .slice a xs.len c ∧ Room tw xs.len c ∧ NodesAt w S tw a xs

theorem Nodes.frame {w w' : World} {S : Nat → Prop} {tw : Bool} {v : Value} {xs : Ns} (h : Nodes w S tw v xs) (hs : ∀ b, S b → b < w.heap.size → w'.heap[b]? = w.heap[b]?) : Nodes w' S tw v xs := by
  obtain ⟨a, c, h1, h2, h3⟩ := h; exact ⟨a, c, h1, h2, h3.frame hs⟩
theorem Nodes.mono {w : World} {S T : Nat → Prop} {tw : Bool} {v : Value} {xs : Ns} (h : Nodes w S tw v xs) (hs : ∀ b, b < w.heap.size → S b → T b) : Nodes w T tw v xs := by
  obtain ⟨a, c, h1, h2, h3⟩ := h; exact ⟨a, c, h1, h2, h3.mono hs⟩
theorem Nodes.below {w w' : World} {B : Nat} {tw : Bool} {v : Value} {xs : Ns} (h : Nodes w (· < B) tw v xs) (hb : Below B w w') : Nodes w' (· < B) tw v xs := h.frame fun b hB _ => hb.block b hB

/-- The five cells of one. -/
structure NodeAt (w : World) (S : Nat → Prop) (tw : Bool) (b off : Nat) (x : Nd) (v1 v2 v3 : Value) : Prop where
  kind : x.kind < 256
  text : x.text.length ≤ 140737488351232
  d0 : w.cell? ⟨b, off, none⟩ = some (.int .u8 (x.kind : Int))
  d1 : w.cell? ⟨b, off + 1, none⟩ = some (.string (tx x.text))
  d2 : w.cell? ⟨b, off + 2, none⟩ = some v1
  d3 : w.cell? ⟨b, off + 3, none⟩ = some v2
  d4 : w.cell? ⟨b, off + 4, none⟩ = some v3
  l : Nodes w S tw v1 x.l
  body : Nodes w S tw v2 x.body
  els : Nodes w S tw v3 x.els

theorem NodesAt.at {w : World} {S : Nat → Prop} {tw : Bool} {a : Option Addr} {xs : Ns} (h : NodesAt w S tw a xs) : ∀ i (hi : i < xs.items.length), ∃ b off v1 v2 v3, a = some ⟨b, off, none⟩ ∧ S b ∧ NodeAt w S tw b (off + i * 5) xs.items[i] v1 v2 v3 := by
  induction h with
  | nil a h => intro i hi; exact absurd hi (Nat.not_lt_zero _)
  | @cons b off k t l body els r a1 a2 a3 c1 c2 c3 hS hk ht d0 d1 d2 d3 d4 r1 r2 r3 h1 h2 h3 _ _ _ _ i4 =>
    intro i hi
    cases i with
    | zero => exact ⟨b, off, _, _, _, rfl, hS, hk, ht, by rw [Nat.zero_mul, Nat.add_zero]; exact d0, by rw [Nat.zero_mul, Nat.add_zero]; exact d1, by rw [Nat.zero_mul, Nat.add_zero]; exact d2, by rw [Nat.zero_mul, Nat.add_zero]; exact d3, by rw [Nat.zero_mul, Nat.add_zero]; exact d4, ⟨a1, c1, rfl, r1, h1⟩, ⟨a2, c2, rfl, r2, h2⟩, ⟨a3, c3, rfl, r3, h3⟩⟩
    | succ i =>
      obtain ⟨b', off', v1, v2, v3, e, hS', hN⟩ := i4 i (by simpa [Ns.items_cons] using hi)
      cases e
      refine ⟨b, off, v1, v2, v3, rfl, hS, ?_⟩
      have e : off + (i + 1) * 5 = off + 5 + i * 5 := by omega
      rw [e]
      exact hN

/-- For a loop: the slice's form, and each node under its condition. -/
theorem Nodes.open_ {w : World} {S : Nat → Prop} {tw : Bool} {v : Value} {xs : Ns} (h : Nodes w S tw v xs) :
    ∃ a c, v = .slice a xs.items.length c ∧ Room tw xs.items.length c ∧ ∀ i (hi : i < xs.items.length), ∃ b off v1 v2 v3, a = some ⟨b, off, none⟩ ∧ S b ∧ NodeAt w S tw b (off + i * 5) xs.items[i] v1 v2 v3 := by
  obtain ⟨a, c, h1, h2, h3⟩ := h
  exact ⟨a, c, h1, h2, h3.at⟩

/-- Induction over a list of nodes: for each one of a list, of which it holds for the lists in it. -/
theorem Ns.each {P : Ns → Prop} (h : ∀ xs : Ns, (∀ x ∈ xs.items, P x.l ∧ P x.body ∧ P x.els) → P xs) : ∀ xs, P xs := by
  have key : ∀ xs : Ns, P xs ∧ ∀ x ∈ xs.items, P x.l ∧ P x.body ∧ P x.els := by
    intro xs
    induction xs with
    | nil => exact ⟨h _ (fun x hx => by cases hx), fun x hx => by cases hx⟩
    | cons k t l b e r il ib ie ir =>
      have : ∀ x ∈ (Ns.cons k t l b e r).items, P x.l ∧ P x.body ∧ P x.els := by
        intro x hx
        rw [Ns.items_cons] at hx
        rcases List.mem_cons.1 hx with rfl | hx
        · exact ⟨il.1, ib.1, ie.1⟩
        · exact ir.2 x hx
      exact ⟨h _ this, this⟩
  exact fun xs => (key xs).1
end Go.My

/- Shows: texts, joined; how closely an expression holds together. -/
namespace Go.Proofs.YtobpnjnfpgcpaaaDoor
open Go.RowKit Go.My Go.Nd Go.Maps

theorem join_nosep (ls : List Tx) : Lib.join ls [] = ls.flatten := by
  induction ls with
  | nil => rfl
  | cons x ls ih =>
    cases ls with
    | nil => simp [Lib.join, List.intercalate]
    | cons y ls =>
      have : Lib.join (x :: y :: ls) [] = x ++ ([] ++ Lib.join (y :: ls) []) := by simp [Lib.join, List.intercalate, List.intersperse]
      rw [this, ih]; rfl
theorem join_sepx (sep : Tx) (ls : List Tx) : Lib.join ls sep = sepx sep ls := by
  induction ls with
  | nil => rfl
  | cons x ls ih =>
    cases ls with
    | nil => simp [Lib.join, List.intercalate, sepx]
    | cons y ls =>
      have : Lib.join (x :: y :: ls) sep = x ++ (sep ++ Lib.join (y :: ls) sep) := by simp [Lib.join, List.intercalate, List.intersperse]
      rw [this, ih]
      show _ = x ++ sep ++ sepx sep (y :: ls)
      rw [List.append_assoc]
theorem map_bs (ls : List Tx) : (ls.map bs).map (·.data.toList) = ls := by
  rw [List.map_map]
  conv => rhs; rw [← List.map_id ls]
  rfl

/-- strings.Join over a block of texts. -/
theorem joinS_t {w : World} {b : Nat} {T : TypeId} (ls : List Tx) (sep : Tx) (hrow : w.heap[b]? = some (.cells (ls.map fun s => Value.string (bs s)).toArray T (0, 0))) (hn : ls.length ≤ 1000000) {c : Nat} (hc : ls.length ≤ c) (hlen : (sepx sep ls).length ≤ 140737488355328) :
    Calls Tryd.prog 20 #[.slice (some ⟨b, 0, none⟩) ls.length c, .string (bs sep)] w fun e w' => e = .returned (.string (bs (sepx sep ls))) ∧ Below w.heap.size w w' := by
  have h := Tryd.strings_Join b 0 c (ls.map bs) (bs sep) w (fun j x hj => by
    rw [Nat.zero_add, cell_of_row w b j _ _ _ hrow]
    rw [List.getElem?_map] at hj
    cases hl : ls[j]? with
    | none => rw [hl] at hj; cases hj
    | some s => rw [hl] at hj; cases hj; simp [hl])
    (Array.getElem?_eq_some_iff.1 hrow).1 (by simp; omega) (by simpa using hc) (by rw [map_bs, show (bs sep).data.toList = sep from rfl, join_sepx]; exact hlen)
  rw [map_bs, show (bs sep).data.toList = sep from rfl, join_sepx, List.length_map] at h
  exact h

theorem joined_t {w : World} {b : Nat} {T : TypeId} (ls : List Tx) (hrow : w.heap[b]? = some (.cells (ls.map fun s => Value.string (bs s)).toArray T (0, 0))) (hn : ls.length ≤ 1000000) {n : Nat} (hls : ls.length = n) (hlen : ls.flatten.length ≤ 140737488355328) {r : Tx} (hr : ls.flatten = r) :
    Calls Tryd.prog 19 #[.slice (some ⟨b, 0, none⟩) n n] w fun e w' => e = .returned (.string (bs r)) ∧ Below w.heap.size w w' := by
  subst hls
  subst hr
  have e : sepx [] ls = ls.flatten := by rw [← join_sepx, join_nosep]
  have hj := Lib.hid (joinS_t ls [] hrow hn (Nat.le_refl _) (by rw [e]; exact hlen))
  rw [e] at hj
  clear hrow hn hlen
  go_enter Tryd.func19, Tryd.ntmps19
  go_wp2_with fail
  refine (show Calls Tryd.prog 20 #[.slice (some ⟨b, 0, none⟩) ls.length ls.length, .string ⟨#[]⟩] w _ from hj.out).mono ?_
  rintro e w1 ⟨rfl, hb⟩
  have K := Lib.hid hb
  clear hb
  go_wp2_with fail
  go_ret
  exact ⟨rfl, K.out⟩

/-- v is this node. -/
def NV (tw : Bool) (w : World) (B : Nat) (v : Value) (x : Nd) : Prop :=
  ∃ a1 c1 a2 c2 a3 c3, v = .agg #[.int .u8 (x.kind : Int), .string (tx x.text), .slice a1 x.l.len c1, .slice a2 x.body.len c2, .slice a3 x.els.len c3] ∧ x.kind < 256 ∧ x.text.length ≤ 140737488351232 ∧
    Nodes w (· < B) tw (.slice a1 x.l.len c1) x.l ∧ Nodes w (· < B) tw (.slice a2 x.body.len c2) x.body ∧ Nodes w (· < B) tw (.slice a3 x.els.len c3) x.els
theorem NV.below {tw : Bool} {w w' : World} {B : Nat} {v : Value} {x : Nd} (h : NV tw w B v x) (hb : Below B w w') : NV tw w' B v x := by
  obtain ⟨a1, c1, a2, c2, a3, c3, e, h1, h2, h3, h4, h5⟩ := h
  exact ⟨a1, c1, a2, c2, a3, c3, e, h1, h2, h3.below hb, h4.below hb, h5.below hb⟩
theorem NV.wide {tw : Bool} {w : World} {B C : Nat} {v : Value} {x : Nd} (h : NV tw w B v x) (hC : B ≤ C) : NV tw w C v x := by
  obtain ⟨a1, c1, a2, c2, a3, c3, e, h1, h2, h3, h4, h5⟩ := h
  exact ⟨a1, c1, a2, c2, a3, c3, e, h1, h2, h3.mono fun b _ q => Nat.lt_of_lt_of_le q hC, h4.mono fun b _ q => Nat.lt_of_lt_of_le q hC, h5.mono fun b _ q => Nat.lt_of_lt_of_le q hC⟩
theorem NodeAt.nv {tw : Bool} {w : World} {B b off : Nat} {x : Nd} {v1 v2 v3 : Value} (h : NodeAt w (· < B) tw b off x v1 v2 v3) : NV tw w B (.agg #[.int .u8 (x.kind : Int), .string (tx x.text), v1, v2, v3]) x := by
  have h1 := h.l
  have h2 := h.body
  have h3 := h.els
  obtain ⟨a1, c1, rfl, r1⟩ := h1
  obtain ⟨a2, c2, rfl, r2⟩ := h2
  obtain ⟨a3, c3, rfl, r3⟩ := h3
  exact ⟨a1, c1, a2, c2, a3, c3, rfl, h.kind, h.text, h.l, h.body, h.els⟩

/-- What a sign's rank is looked up in. -/
def rkMap (s : Tx) : Option Value :=
  if s = [94] then some (.int .i64 5) else if s = [47] then some (.int .i64 3) else if s = [42] then some (.int .i64 3) else if s = [45] then some (.int .i64 2) else if s = [43] then some (.int .i64 2) else none
theorem rkMap_built (wA : World) : ∃ w1 w2 w3 w4 w5,
    (Instr.mapUpdate 91 (.map (some wA.heap.size)) (.string ⟨#[43]⟩) (.int .i64 2)).run Tryd.prog (wA.alloc (.map #[] 0)) = .ok () w1 ∧
    (Instr.mapUpdate 91 (.map (some wA.heap.size)) (.string ⟨#[45]⟩) (.int .i64 2)).run Tryd.prog w1 = .ok () w2 ∧
    (Instr.mapUpdate 91 (.map (some wA.heap.size)) (.string ⟨#[42]⟩) (.int .i64 3)).run Tryd.prog w2 = .ok () w3 ∧
    (Instr.mapUpdate 91 (.map (some wA.heap.size)) (.string ⟨#[47]⟩) (.int .i64 3)).run Tryd.prog w3 = .ok () w4 ∧
    (Instr.mapUpdate 91 (.map (some wA.heap.size)) (.string ⟨#[94]⟩) (.int .i64 5)).run Tryd.prog w4 = .ok () w5 ∧
    MapS Tryd.prog 9 w5 wA.heap.size 5 rkMap ∧ Below wA.heap.size wA w5 := by
  have m0 := MapS.made wA Tryd.prog 9
  have hA : Below wA.heap.size wA (wA.alloc (.map #[] 0)) := Below.alloc (Below.refl _ wA) (Nat.le_refl _) _
  have ht : Tryd.prog.underlying 91 = some (.map 9 3) := Tryd.underlying91
  have gb : ∀ {w w1 w2 : World} {b : Nat}, Below wA.heap.size wA w1 → w1.grownBy w2 (some b) → wA.heap.size ≤ b → Below wA.heap.size wA w2 := fun hb hg h =>
    Below.grown hb hg (Nat.le_trans (Nat.le_refl _) hb.size) (fun k e => by cases e; exact h)
  obtain ⟨w1, r1, m1, g1⟩ := m0.store Tryd.underlying9 ht (by decide) (s := [43]) (by decide) (.int .i64 2)
  obtain ⟨w2, r2, m2, g2⟩ := m1.store Tryd.underlying9 ht (by decide) (s := [45]) (by decide) (.int .i64 2)
  obtain ⟨w3, r3, m3, g3⟩ := m2.store Tryd.underlying9 ht (by decide) (s := [42]) (by decide) (.int .i64 3)
  obtain ⟨w4, r4, m4, g4⟩ := m3.store Tryd.underlying9 ht (by decide) (s := [47]) (by decide) (.int .i64 3)
  obtain ⟨w5, r5, m5, g5⟩ := m4.store Tryd.underlying9 ht (by decide) (s := [94]) (by decide) (.int .i64 5)
  refine ⟨w1, w2, w3, w4, w5, r1, r2, r3, r4, r5, m5.mono (by decide), ?_⟩
  have b1 := gb (w := wA) hA g1 (Nat.le_refl _)
  have b2 := gb (w := wA) b1 g2 (Nat.le_refl _)
  have b3 := gb (w := wA) b2 g3 (Nat.le_refl _)
  have b4 := gb (w := wA) b3 g4 (Nat.le_refl _)
  exact gb (w := wA) b4 g5 (Nat.le_refl _)
theorem rkMap_val (t : Tx) : ∃ z : Nat, (rkMap t).getD (.int .i64 0) = .int .i64 (z : Int) ∧ (z = 0 ∧ rkx 5 t = 1 ∨ z = 2 ∧ rkx 5 t = 2 ∨ z = 3 ∧ rkx 5 t = 3 ∨ z = 5 ∧ rkx 5 t = 5) := by
  unfold rkMap rkx
  by_cases h1 : t = [94]
  · subst h1; exact ⟨5, rfl, by simp⟩
  · by_cases h2 : t = [47]
    · subst h2; exact ⟨3, rfl, by simp⟩
    · by_cases h3 : t = [42]
      · subst h3; exact ⟨3, rfl, by simp⟩
      · by_cases h4 : t = [45]
        · subst h4; exact ⟨2, rfl, by simp⟩
        · by_cases h5 : t = [43]
          · subst h5; exact ⟨2, rfl, by simp⟩
          · exact ⟨0, by simp [h1, h2, h3, h4, h5], by simp [h1, h2, h3, h4, h5]⟩

set_option maxRecDepth 100000 in
set_option maxHeartbeats 4000000 in
theorem rank_s {tw : Bool} {w : World} {B : Nat} {v : Value} {x : Nd} (h : NV tw w B v x) : Calls Tryd.prog 56 #[v] w fun e w' => e = .returned (.int .i64 (x.rk : Int)) ∧ Below w.heap.size w w' := by
  obtain ⟨a1, c1, a2, c2, a3, c3, rfl, hk, ht, _, _, _⟩ := h
  obtain ⟨k, t, l, b, e⟩ := x
  simp only at hk ht ⊢
  obtain ⟨hA, hn, hz⟩ := Put.new w #[.int .u8 (k : Int), .string (tx t), .slice a1 l.len c1, .slice a2 b.len c2, .slice a3 e.len c3] 25
  obtain ⟨bx, hbx⟩ : ∃ bx, bx = w.heap.size := ⟨_, rfl⟩
  obtain ⟨w0, hw0⟩ : ∃ w0, w0 = w.alloc (.cells #[.int .u8 (k : Int), .string (tx t), .slice a1 l.len c1, .slice a2 b.len c2, .slice a3 e.len c3] 25) := ⟨_, rfl⟩
  rw [← hw0] at hA hn hz
  rw [← hbx] at hn
  obtain ⟨q0, q1, q2, q3, q4, _, _, _, _, _⟩ := row5 hn
  obtain ⟨w1, w2, w3, w4, w5, r1, r2, r3, r4, r5, hM, hb5⟩ := rkMap_built w0
  obtain ⟨mb, hmb⟩ : ∃ mb, mb = w0.heap.size := ⟨_, rfl⟩
  rw [← hmb] at r1 r2 r3 r4 r5
  have hmk : (Instr.makeMap 91 none).run Tryd.prog w0 = .ok (.map (some mb)) (w0.alloc (.map #[] 0)) := by rw [hmb]; rfl
  have hrow5 := (hb5.block bx ((Array.getElem?_eq_some_iff.1 hn).1)).trans hn
  obtain ⟨_, p1, _, _, _, _, _, _, _, _⟩ := row5 hrow5
  obtain ⟨z, hz1, hz2⟩ := rkMap_val t
  have hlk : (Instr.lookup 91 (.map (some mb)) (.string (tx t)) false).run Tryd.prog w5 = .ok (.int .i64 (z : Int)) w5 := by
    rw [hmb, ← hz1]
    exact hM.at Tryd.underlying9 Tryd.underlying91 (z := .int .i64 0) (by kernel_rfl) (by unfold maxLen; omega)
  have X := Lib.hid (And.intro hA (hA.trans (hb5.mono hA.size)))
  have HZ := Lib.hid hz2
  have k0 : (0 : Int) ≤ (k : Int) := by omega
  clear hA hn hz hM hb5 hrow5 hz1 hz2 hmb
  go_enter Tryd.func56, Tryd.ntmps56
  go_upto_region 1 with fail
  rw [← hbx, ← hw0]
  clear hbx hw0
  by_cases h6 : k = 6
  · subst h6
    go_wp2_with fail
    go_ret
    exact ⟨rfl, X.out.1⟩
  · by_cases h7 : k = 7
    · subst h7
      go_wp2_with fail
      go_ret
      exact ⟨rfl, X.out.1⟩
    · by_cases h5 : k = 5
      · subst h5
        rcases HZ.out with ⟨rfl, hr⟩ | ⟨rfl, hr⟩ | ⟨rfl, hr⟩ | ⟨rfl, hr⟩
        all_goals
          have HR := Lib.hid (show Nd.rk ⟨5, t, l, b, e⟩ = _ from hr)
          clear hr
          go_wp2_with fail
          go_ret
          exact ⟨by rw [HR.out]; rfl, X.out.2⟩
      · have e6 : ((k : Int) == 6) = false := by rw [beq_eq_false_iff_ne]; omega
        have e7 : ((k : Int) == 7) = false := by rw [beq_eq_false_iff_ne]; omega
        have e5 : ((k : Int) == 5) = false := by rw [beq_eq_false_iff_ne]; omega
        have HR : Nd.rk ⟨k, t, l, b, e⟩ = 6 := by show rkx k t = 6; unfold rkx; rw [if_neg (by omega), if_neg h5]
        have HR := Lib.hid HR
        go_wp2_with fail
        go_ret
        exact ⟨rfl, X.out.1⟩
end Go.Proofs.YtobpnjnfpgcpaaaDoor

/- Lists that a book keeps, each in memory of its own: what an append leaves of the shorter list. No program in sight. -/
namespace Go.My
open Go.RowKit

section
variable {P : Program} (w : World)

/-- APPEND, and where the longer list lies: at the old place, or in a new block (then all old blocks are as they were). -/
theorem run_append_at {t e : TypeId} {size bytes : Nat} {z : Value} (E : Elem P t e size bytes z) (ty : TypeId)
    {v : Value} {n : Nat} {xs : List Value} {g : Option Nat} (hown : Own w e size v n xs g) {ad : Addr} {c : Nat} {m : Nat} {news : List Value} (hl : news.length = m * size) (hnews : ∀ j u, news[j]? = some u → w.cell? (ad.add j) = some u) (h1 : ∀ u ∈ news, u.oneCell' = true)
    (h63 : n + m ≤ maxLen) (hbytes : (n + m) * bytes ≤ 140737488355328) (hm : 0 < m) :
    ∃ v' w' g', (Builtin.append_ #[t, t] ty #[v, .slice (some ad) m c]).run P w = .ok v' w' ∧ Own w' e size v' (n + m) (xs ++ news) g' ∧
      ((∃ b off cap, v = .slice (some ⟨b, off, none⟩) n cap ∧ v' = .slice (some ⟨b, off, none⟩) (n + m) cap ∧ g = some b ∧ g' = some b ∧ Step w w' (some b)) ∨
       (Below w.heap.size w w' ∧ ∃ k cap, v' = .slice (some ⟨k, 0, none⟩) (n + m) cap ∧ g' = some k ∧ w.heap.size ≤ k)) := by
  obtain ⟨ht, ⟨i, hi, hz, hsize, hby⟩, hzs, hsz⟩ := E
  subst hsize
  subst hby
  have hsmall : n + m ≤ 9223372036854775807 := by simp only [maxLen] at h63; omega
  have hlen : (xs ++ news).length = (n + m) * i.size := by rw [List.length_append, hown.1, hl, Nat.add_mul]
  have grown : ∀ (old : Nat), old < n + m →
      Own (w.drew.alloc (.cells (xs.toArray ++ news.toArray ++ Builtin.zeroCells z.cells (grownCap w (n + m) old e - (n + m))) e)) e i.size
        (.slice (some ⟨w.heap.size, 0, none⟩) (n + m) (grownCap w (n + m) old e)) (n + m) (xs ++ news) (some w.heap.size) ∧
      Below w.heap.size w (w.drew.alloc (.cells (xs.toArray ++ news.toArray ++ Builtin.zeroCells z.cells (grownCap w (n + m) old e - (n + m))) e)) := by
    intro old ho
    have hge := grownCap_ge w (n + m) old e
    have hcm : grownCap w (n + m) old e ≤ maxLen := grownCap_le_maxLen w (n + m) old e h63
    refine ⟨⟨hlen, .inr ⟨w.heap.size, 0, _, _, rfl, rfl, heap_alloc_new w.drew _, hge, hcm, ?_, ?_⟩⟩, ⟨rfl, rfl, rfl, by simp, fun k hk => Below.heap_alloc w.drew _ k hk⟩⟩
    · simp only [Array.size_append, List.size_toArray, size_zeroCells, hzs, hown.1, hl, ← Nat.add_mul, Nat.zero_add]
      apply Nat.mul_le_mul_right
      omega
    · simp only [Array.toList_append, List.append_assoc, List.drop_zero]
      rw [← List.append_assoc, ← hlen]
      exact List.take_left
  rcases hown.2 with ⟨rfl, rfl, rfl⟩ | ⟨b, off, cap, cur, rfl, rfl, hh, h3, h4, h5, h6⟩
  · have hxs : xs = [] := List.eq_nil_of_length_eq_zero (by simpa using hown.1)
    subst hxs
    have hr := run_append_nil (P := P) w t ty e i z ht hi hz ad m c news hl hnews (by omega) (by omega) (by have hb := hbytes; simp only [Nat.zero_add] at hb; omega)
    have hgr := grown 0 (by omega)
    simp only [Nat.zero_add, List.nil_append, Array.empty_append] at hgr ⊢
    exact ⟨_, _, _, hr, hgr.1, .inr ⟨hgr.2, _, _, rfl, rfl, Nat.le_refl _⟩⟩
  · by_cases hroom : n + m ≤ cap
    · have hfit : off + n * i.size + news.length ≤ cur.size := by
        have := Nat.mul_le_mul_right i.size hroom
        rw [hl]; rw [Nat.add_mul] at this; omega
      have hf := run_firstCells_some (P := P) w i.size m ad m c news hl hnews
      have hst := run_storeCells_at P b (off + n * i.size) e news 0 cur w hh (by simpa using hfit) h1
      simp only [Nat.add_zero] at hst
      have hr : (Builtin.append_ #[t, t] ty #[.slice (some ⟨b, off, none⟩) n cap, .slice (some ad) m c]).run P w =
          .ok (.slice (some ⟨b, off, none⟩) (n + m) cap) (w.setRow b (cur.toList.take (off + n * i.size) ++ news ++ cur.toList.drop (off + n * i.size + news.length)).toArray) := by
        simp [Builtin.append_, run_underlying ht, sizeOf, typeInfo, hi, Builtin.lenOf, hroom, hf, Addr.add_lit, hst]
      refine ⟨_, _, some b, hr, ⟨hlen, .inr ⟨b, off, cap, _, rfl, rfl, setRow_heap w b cur _ e _ hh, hroom, h4, ?_, ?_⟩⟩,
        .inl ⟨b, off, cap, rfl, rfl, rfl, rfl, rfl, rfl, rfl, by simp, fun k _ hk => setRow_other w b k _ (fun e => hk (by simp [e]))⟩⟩
      · simp only [List.size_toArray, List.length_append, List.length_take, List.length_drop, Array.length_toList]
        omega
      · have hx1 : xs.length = n * i.size := hown.1
        have hpre : (cur.toList.take (off + n * i.size)).drop off = xs := by
          rw [List.drop_take, ← h6]; congr 1; omega
        have hlo : off ≤ (cur.toList.take (off + n * i.size)).length := by simp; omega
        show List.take ((n + m) * i.size) (List.drop off (cur.toList.take (off + n * i.size) ++ news ++ cur.toList.drop (off + n * i.size + news.length))) = xs ++ news
        rw [List.append_assoc, List.drop_append_of_le_length hlo, hpre, ← List.append_assoc, ← hlen]
        exact List.take_left
    · have holds : ∀ j u, xs[j]? = some u → w.cell? ((⟨b, off, none⟩ : Addr).add j) = some u := by
        intro j u hj
        rw [add_none, cell_of_row w b (off + j) cur e (0, 0) hh, ← hj, ← h6, List.getElem?_take, List.getElem?_drop]
        rw [if_pos (by have := (List.getElem?_eq_some_iff.1 hj).1; rw [hown.1] at this; exact this)]; simp
      have hr := run_append_grow (P := P) w t ty e i z ht hi hz ⟨b, off, none⟩ n cap xs hown.1 holds ad m c news hl hnews (by omega) (by omega) (growslice_fits (by omega) hbytes)
      have hgr := grown cap (by omega)
      exact ⟨_, _, _, hr, hgr.1, .inr ⟨hgr.2, _, _, rfl, rfl, Nat.le_refl _⟩⟩
end

/-- A list v of n elements, and a longer one, u, that began as it: the first reads as xs, the second as xs and more. Both are t's. -/
def Grown (w : World) (g : Tags) (t : Nat) (e : TypeId) (size : Nat) (v : Value) (n : Nat) (xs : List Value) (u : Value) (m : Nat) (more : List Value) : Prop :=
  xs.length = n * size ∧ Owns w g t e size u (n + m) (xs ++ more) ∧
  ∃ ao cap, v = .slice ao n cap ∧ ((ao = none ∧ n = 0) ∨ ∃ b off, ao = some ⟨b, off, none⟩ ∧ g b = t ∧ b < w.heap.size ∧ ∀ j c, xs[j]? = some c → w.cell? ⟨b, off + j, none⟩ = some c) ∧
    (∀ b off c, u = .slice (some ⟨b, off, none⟩) (n + m) c → ao = some ⟨b, off, none⟩ ∨ ∀ o, ao = some o → o.block ≠ b)

theorem Owns.grown {w : World} {g : Tags} {t : Nat} {e : TypeId} {size : Nat} {v : Value} {n : Nat} {xs : List Value} (h : Owns w g t e size v n xs) : Grown w g t e size v n xs v 0 [] := by
  obtain ⟨k, ho, hk⟩ := h
  refine ⟨ho.1, ⟨k, by simpa using ho, hk⟩, ?_⟩
  rcases ho.2 with ⟨rfl, rfl, _⟩ | ⟨b, off, cap, cur, rfl, hg, hh, h3, h4, h5, h6⟩
  · exact ⟨none, 0, rfl, .inl ⟨rfl, rfl⟩, fun b off c hu => by cases hu⟩
  · refine ⟨_, cap, rfl, .inr ⟨b, off, rfl, hk b hg, (Array.getElem?_eq_some_iff.1 hh).1, fun j c hj => ?_⟩, fun b' off' c hu => by cases hu; exact .inl rfl⟩
    rw [cell_of_row w b (off + j) cur e (0, 0) hh, ← hj, ← h6, List.getElem?_take, List.getElem?_drop]
    rw [if_pos (by have := (List.getElem?_eq_some_iff.1 hj).1; rw [ho.1] at this; exact this)]; simp

/-- The shorter one reads as it did. -/
theorem Grown.cell {w : World} {g : Tags} {t : Nat} {e : TypeId} {size : Nat} {v : Value} {n : Nat} {xs : List Value} {u : Value} {m : Nat} {more : List Value} (h : Grown w g t e size v n xs u m more) (hn : 0 < n) :
    ∃ b off cap, v = .slice (some ⟨b, off, none⟩) n cap ∧ ∀ j c, xs[j]? = some c → w.cell? ⟨b, off + j, none⟩ = some c := by
  obtain ⟨_, _, ao, cap, hv, hc, _⟩ := h
  rcases hc with ⟨_, h0⟩ | ⟨b, off, rfl, _, _, hcell⟩
  · omega
  · exact ⟨b, off, cap, hv, hcell⟩

theorem Grown.turn {w w' : World} {g g' : Tags} {T : List Nat} {t : Nat} {e : TypeId} {size : Nat} {v : Value} {n : Nat} {xs : List Value} {u : Value} {m : Nat} {more : List Value} (h : Grown w g t e size v n xs u m more) (k : Turn w g w' g' T) (ht : t ∉ T) : Grown w' g' t e size v n xs u m more := by
  obtain ⟨hl, ho, ao, cap, hv, hc, hu⟩ := h
  refine ⟨hl, ho.turn k ht, ao, cap, hv, ?_, hu⟩
  rcases hc with h0 | ⟨b, off, ha, hg, hb, hcell⟩
  · exact .inl h0
  refine .inr ⟨b, off, ha, (k.old b hb).trans hg, Nat.lt_of_lt_of_le hb k.size, fun j c hj => ?_⟩
  exact (World.cell?_of_block (k.block b hb (by rw [hg]; exact ht))).trans (hcell j c hj)

section
variable {P : Program} (w : World)
/-- ONE MORE BEHIND THE LONGER ONE, FOR THE WALK. -/
theorem wpList_append_grown {ops : Array Oper} {rest : List Oper} {o : Oper} {a : Act} {Q : Exit → Act → World → Prop} (hgd : o.guard = none) (s x : Operand) {t e : TypeId}
    (ho : o.op = .call { callee := .builtin .append, args := #[s, x], argTypes := #[t, t] }) {size bytes : Nat} {z : Value} (E : Elem P t e size bytes z)
    {v u : Value} {n m : Nat} {xs more : List Value} {g : Tags} {tg : Nat} (hs : a.eval s = u) (hG : Grown w g tg e size v n xs u m more) {y : Value} {ad : Addr} {c : Nat} {news : List Value} (hy : a.eval x = y) (hyy : y = .slice (some ad) 1 c) (hl : news.length = size) (hnews : ∀ j q, news[j]? = some q → w.cell? (ad.add j) = some q) (h1 : ∀ q ∈ news, q.oneCell' = true)
    (h63 : n + m + 1 ≤ maxLen) (hbytes : (n + m + 1) * bytes ≤ 140737488355328)
    (h : ∀ ao cap w' g', Grown w' g' tg e size v n xs (.slice ao (n + (m + 1)) cap) (m + 1) (more ++ news) → Turn w g w' g' [tg] → wpList P ops Q rest (a.put o.dst (.slice ao (n + (m + 1)) cap)) w') : wpList P ops Q (o :: rest) a w := by
  obtain ⟨hxl, ⟨k, hown, hk⟩, ao, cap, hv, hcell, hap⟩ := hG
  subst hyy
  obtain ⟨v', w', g', hr, hown', hor⟩ := run_append_at w E o.type hown (m := 1) (c := c) (by omega) hnews h1 h63 hbytes (by decide)
  refine wpList_plain hgd fun _ hK => ?_
  unfold Oper.wp execOp
  simp only [ho, resolve, invoke, builtin, Sem.run_bind, Sem.run_pure, Result.andThen_ok, List.map_toArray, List.map_cons, List.map_nil, hs, hy, hr]
  refine hK _ _ ?_
  rw [List.append_assoc] at hown'
  rcases hor with ⟨b, off, cp, hu, hv', hkb, hkb', hst⟩ | ⟨hb, k', cp, hv', hk', hge⟩
  · subst hv'
    have hT := Turn.of_step hst g tg (fun q e => by cases e; exact hk b hkb)
    refine h _ _ w' _ ⟨hxl, ⟨g', hown', fun q hq => ?_⟩, ao, cap, hv, ?_, fun b2 off2 c2 h2 => ?_⟩ hT
    · rw [hkb'] at hq; cases hq
      rw [Tags.ext_old _ _ _ _ (hown.lt b hkb)]; exact hk b hkb
    · rcases hcell with h0 | ⟨b3, off3, ha3, hg3, hlt3, hc3⟩
      · exact .inl h0
      refine .inr ⟨b3, off3, ha3, by rw [Tags.ext_old _ _ _ _ hlt3]; exact hg3, Nat.lt_of_lt_of_le hlt3 hst.size, fun j q hj => ?_⟩
      rcases hap b off cp (by rw [hu]) with h4 | h4
      · rw [ha3] at h4; cases h4
        rcases hown'.2 with ⟨e1, _⟩ | ⟨b5, off5, cap5, cur5, e5, _, hh5, h35, h45, h55, h65⟩
        · cases e1
        · cases e5
          have hj2 := (List.getElem?_eq_some_iff.1 hj).1
          rw [cell_of_row w' b (off + j) cur5 e (0, 0) hh5]
          have h7 : (xs ++ (more ++ news))[j]? = some q := by rw [List.getElem?_append_left hj2]; exact hj
          rw [← h65, List.getElem?_take] at h7
          split at h7
          · rw [List.getElem?_drop, Array.getElem?_toList] at h7; exact h7
          · cases h7
      · have hne : b3 ≠ b := h4 _ ha3
        exact (hst.cell (a := ⟨b3, off3 + j, none⟩) hlt3 (fun e => hne (by cases e; rfl))).trans (hc3 j q hj)
    · cases h2
      rcases hap b off cp (by rw [hu]) with h4 | h4
      · exact .inl h4
      · exact .inr h4
  · subst hv'
    have hT := (Turn.of_below hb g tg)
    refine h _ _ w' _ ⟨hxl, ⟨g', hown', fun q hq => ?_⟩, ao, cap, hv, ?_, fun b2 off2 c2 h2 => ?_⟩ (hT.mono (by simp))
    · rw [hk'] at hq; cases hq
      exact Tags.ext_new _ _ _ _ hge
    · rcases hcell with h0 | ⟨b3, off3, ha3, hg3, hlt3, hc3⟩
      · exact .inl h0
      refine .inr ⟨b3, off3, ha3, by rw [Tags.ext_old _ _ _ _ hlt3]; exact hg3, Nat.lt_of_lt_of_le hlt3 hb.size, fun j q hj => ?_⟩
      exact (World.cell?_of_block (hb.block b3 hlt3)).trans (hc3 j q hj)
    · cases h2
      rcases hcell with ⟨h0, _⟩ | ⟨b3, off3, ha3, hg3, hlt3, hc3⟩
      · exact .inr fun q hq => by rw [h0] at hq; cases hq
      · refine .inr fun q hq => ?_
        rw [ha3] at hq; cases hq
        show b3 ≠ k'
        omega
end

theorem oneCell_set {w : World} {b o : Nat} {cur : Array Value} {e : TypeId} (u : Value) (h : w.heap[b]? = some (.cells cur e (0, 0))) : (w.setCell ⟨b, o, none⟩ u).heap[b]? = some (.cells (cur.setIfInBounds o u) e (0, 0)) := heap_setCell_same w b o _ _ u h

theorem drop_set_take (l : List Value) (off j n : Nat) (u : Value) (hj : j < n) (_ : off + n ≤ l.length) : ((l.set (off + j) u).drop off).take n = ((l.drop off).take n).set j u := by
  apply List.ext_getElem
  · simp
  · intro i h1 h2
    simp only [List.getElem_take, List.getElem_drop, List.getElem_set]
    by_cases hij : i = j
    · subst hij; simp
    · rw [if_neg (by omega), if_neg (by omega)]

/-- A cell of a list that the call owns. -/
theorem Owns.cell {w : World} {g : Tags} {t : Nat} {e : TypeId} {size : Nat} {v : Value} {n : Nat} {xs : List Value} (h : Owns w g t e size v n xs) (hn : 0 < n) :
    ∃ b off cap, v = .slice (some ⟨b, off, none⟩) n cap ∧ g b = t ∧ n ≤ cap ∧ cap ≤ maxLen ∧ b < w.heap.size ∧ ∀ j, j < n * size → w.cell? ⟨b, off + j, none⟩ = xs[j]? ∧ w.frozen? ⟨b, off + j, none⟩ = false := by
  obtain ⟨k, ho, hk⟩ := h
  rcases ho.2 with ⟨_, rfl, _⟩ | ⟨b, off, cap, cur, rfl, hg, hh, h3, h4, h5, h6⟩
  · exact absurd hn (Nat.lt_irrefl _)
  · refine ⟨b, off, cap, rfl, hk b hg, h3, h4, (Array.getElem?_eq_some_iff.1 hh).1, fun j hj => ⟨?_, frozen_of_row w b (off + j) _ _ hh⟩⟩
    rw [cell_of_row w b (off + j) cur e (0, 0) hh, ← h6, List.getElem?_take, if_pos hj, List.getElem?_drop, Array.getElem?_toList]

/-- A STORE INTO IT. -/
theorem Owns.set {w : World} {g : Tags} {t : Nat} {e : TypeId} {size b off n cap : Nat} {xs : List Value} (h : Owns w g t e size (.slice (some ⟨b, off, none⟩) n cap) n xs) (j : Nat) (hj : j < n * size) (u : Value) :
    Owns (w.setCell ⟨b, off + j, none⟩ u) g t e size (.slice (some ⟨b, off, none⟩) n cap) n (xs.set j u) ∧ Turn w g (w.setCell ⟨b, off + j, none⟩ u) g [t] := by
  obtain ⟨k, ho, hk⟩ := h
  rcases ho.2 with ⟨hv, _⟩ | ⟨b', off', cap', cur, hv, hg, hh, h3, h4, h5, h6⟩
  · cases hv
  · cases hv
    have hb : g b = t := hk b hg
    refine ⟨⟨k, ⟨by rw [List.length_set]; exact ho.1, .inr ⟨b, off, cap, _, rfl, hg, oneCell_set u hh, h3, h4, by simpa using h5, ?_⟩⟩, hk⟩, ?_⟩
    · have h7 : n * size ≤ cap * size := Nat.mul_le_mul_right _ h3
      rw [← h6, Array.toList_setIfInBounds]
      exact drop_set_take _ _ _ _ _ hj (by rw [Array.length_toList]; omega)
    · have := Turn.setCell w g ⟨b, off + j, none⟩ u (by simp) rfl rfl rfl
      rw [hb] at this; exact this

/-- Many are not one of many. -/
theorem not_mem_upto (t m k : Nat) (h : t < k ∨ k + m ≤ t) : t ∉ (List.range m).map (k + ·) := by
  intro hm
  obtain ⟨j, hj, he⟩ := List.mem_map.1 hm
  have := List.mem_range.1 hj
  omega

/-- A block of cells that the call made. -/
def Bx (w : World) (g : Tags) (b : Nat) (ty : TypeId) (t : Nat) (cs : Array Value) : Prop := w.heap[b]? = some (.cells cs ty (0, 0)) ∧ g b = t
theorem Bx.lt {w : World} {g : Tags} {b : Nat} {ty : TypeId} {t : Nat} {cs : Array Value} (h : Bx w g b ty t cs) : b < w.heap.size := (Array.getElem?_eq_some_iff.1 h.1).1
theorem Bx.turn {w w' : World} {g g' : Tags} {T : List Nat} {b : Nat} {ty : TypeId} {t : Nat} {cs : Array Value} (h : Bx w g b ty t cs) (k : Turn w g w' g' T) (ht : t ∉ T) : Bx w' g' b ty t cs :=
  ⟨(k.block b h.lt (by rw [h.2]; exact ht)).trans h.1, (k.old b h.lt).trans h.2⟩
theorem Bx.cell {w : World} {g : Tags} {b : Nat} {ty : TypeId} {t : Nat} {cs : Array Value} (h : Bx w g b ty t cs) (i : Nat) : w.cell? ⟨b, i, none⟩ = cs[i]? ∧ w.frozen? ⟨b, i, none⟩ = false :=
  ⟨cell_of_row w b i _ _ _ h.1, frozen_of_row w b i _ _ h.1⟩
theorem Bx.alloc (w : World) (g : Tags) (ty : TypeId) (t : Nat) (cs : Array Value) : Bx (w.alloc (.cells cs ty)) (g.ext w.heap.size t) w.heap.size ty t cs :=
  ⟨heap_alloc_new w _, Tags.ext_new _ _ _ _ (Nat.le_refl _)⟩
theorem Bx.store {w : World} {g : Tags} {b : Nat} {ty : TypeId} {t : Nat} {cs : Array Value} (h : Bx w g b ty t cs) (i : Nat) (v : Value) :
    Turn w g (w.setCell ⟨b, i, none⟩ v) g [t] ∧ Bx (w.setCell ⟨b, i, none⟩ v) g b ty t (cs.setIfInBounds i v) := by
  refine ⟨?_, heap_setCell_same w b i _ _ v h.1, h.2⟩
  have := Turn.setCell w g ⟨b, i, none⟩ v (by simp) rfl rfl rfl
  rw [h.2] at this; exact this
end Go.My

/- Trees: how deep nodes are. -/
namespace Go.My
open Go.Nd
theorem NodeAt.frame {w w' : World} {S : Nat → Prop} {tw : Bool} {b off : Nat} {x : Nd} {v1 v2 v3 : Value} (h : NodeAt w S tw b off x v1 v2 v3) (hS : S b) (hs : ∀ b, S b → b < w.heap.size → w'.heap[b]? = w.heap[b]?) : NodeAt w' S tw b off x v1 v2 v3 := by
  have hlt := World.block_lt_of_cell? w _ h.d0
  have e : ∀ o, w'.cell? ⟨b, o, none⟩ = w.cell? ⟨b, o, none⟩ := fun o => World.cell?_of_block (hs b hS hlt)
  exact ⟨h.kind, h.text, (e _).trans h.d0, (e _).trans h.d1, (e _).trans h.d2, (e _).trans h.d3, (e _).trans h.d4, h.l.frame hs, h.body.frame hs, h.els.frame hs⟩
theorem items_cons_drop (xs : Ns) (i : Nat) (hi : i < xs.items.length) : xs.items.drop i = xs.items[i] :: xs.items.drop (i + 1) := List.drop_eq_getElem_cons hi

/-- How deep a list of nodes is, from a place on. -/
def deepL (wrap : Int → Int) : List Nd → Int
  | [] => 0
  | x :: r => max (wrap (1 + max (max (deep wrap x.l) (deep wrap x.body)) (deep wrap x.els))) (deepL wrap r)
theorem deep_items (wrap : Int → Int) (xs : Ns) : deep wrap xs = deepL wrap xs.items := by
  induction xs with
  | nil => rfl
  | cons k t l b e r _ _ _ ihr => rw [Ns.items_cons, deepL, ← ihr]; rfl
end Go.My
namespace Go.Proofs.YtobpnjnfpgcpaaaDoor
open Go.RowKit Go.My Go.Nd

def wrapI : Int → Int := IntKind.i64.wrap

def DeepAt (w : World) (xs : Ns) (gk : Nat) (v2 v7 : Value) (wr : World) : Prop :=
  ∃ (i : Nat) (n : Int), i ≤ xs.items.length ∧ gk = xs.items.length - i ∧ v7 = .int .i64 (i : Int) ∧ v2 = .int .i64 n ∧ 0 ≤ n ∧ max n (deepL wrapI (xs.items.drop i)) = deepL wrapI xs.items ∧ Below w.heap.size w wr

theorem ite_max (a b : Int) : (if a < b then b else a) = max a b := by split <;> omega
theorem max_assoc3 (a b c : Int) : max a (max b c) = max (max a b) c := by omega
theorem max_step {n W R D : Int} (h : max n (max W R) = D) : max (max n W) R = D := by omega

/-- What the loop asks of the lists in a node. -/
def DeepSaid (tw : Bool) (x : Ns) : Prop := ∀ (w : World) (B : Nat) (v : Value), B ≤ w.heap.size → Nodes w (· < B) tw v x → Calls Tryd.prog 47 #[v] w fun e w' => e = .returned (.int .i64 (deep wrapI x)) ∧ Below w.heap.size w w'

theorem deep_arm {tw : Bool} {x : Ns} (hI : DeepSaid tw x) {w4 w' : World} {B : Nat} {v : Value} (hB : B ≤ w4.heap.size) (hN : Nodes w4 (· < B) tw v x) {X : Prop} (hS : X ∧ Below w4.heap.size w4 w') :
    Calls Tryd.prog 47 #[v] w' fun e w'' => e = .returned (.int .i64 (deep wrapI x)) ∧ Below w'.heap.size w' w'' :=
  hI w' B v (Nat.le_trans hB hS.2.size) (hN.below (hS.2.mono hB))

theorem keep3 {w4 w' w'' : World} {bx : Nat} {v1 v2 v3 : Value} (hlt : bx < w4.heap.size) (hS : (w'.cell? ⟨bx, 2, none⟩ = some v1 ∧ w'.cell? ⟨bx, 3, none⟩ = some v2 ∧ w'.cell? ⟨bx, 4, none⟩ = some v3) ∧ Below w4.heap.size w4 w') (hk : Below w'.heap.size w' w'') :
    (w''.cell? ⟨bx, 2, none⟩ = some v1 ∧ w''.cell? ⟨bx, 3, none⟩ = some v2 ∧ w''.cell? ⟨bx, 4, none⟩ = some v3) ∧ Below w4.heap.size w4 w'' := by
  obtain ⟨⟨h2, h3, h4⟩, hb⟩ := hS
  have e : ∀ o, w''.cell? ⟨bx, o, none⟩ = w'.cell? ⟨bx, o, none⟩ := fun o => World.cell?_of_block (hk.block bx (Nat.lt_of_lt_of_le hlt hb.size))
  exact ⟨⟨(e _).trans h2, (e _).trans h3, (e _).trans h4⟩, hb.trans (hk.mono hb.size)⟩

set_option maxHeartbeats 4000000 in
theorem deep_said (tw : Bool) : ∀ xs, DeepSaid tw xs := by
  refine Ns.each fun xs ih w B v hB hv => ?_
  obtain ⟨a, c, rfl, hr, hc⟩ := hv.open_
  have HI := Lib.hid ih
  have HV := Lib.hid hv
  have HC := Lib.hid hc
  have l0 : (0 : Int) ≤ (xs.items.length : Int) := by omega
  have l1 : (xs.items.length : Int) ≤ 140737488351232 := by have := hr.2.2.1; omega
  clear ih hv hc hr
  go_enter Tryd.func47, Tryd.ntmps47
  go_wp2_with fail
  go_loopg [2, 7] xs.items.length (fun gk v2 v7 wr => DeepAt w xs gk v2 v7 wr)
  case atStart => exact ⟨0, 0, Nat.zero_le _, rfl, rfl, rfl, Int.le_refl _, by rw [List.drop_zero, ← deep_items]; have := deep_nonneg wrapI xs; omega, Below.refl _ _⟩
  case round =>
    obtain ⟨i, n, hi, rfl, rfl, rfl, hn, hd, hb⟩ := hrel
    have i0 : (0 : Int) ≤ (i : Int) := by omega
    by_cases hlt : i < xs.items.length
    · have i1 : (i : Int) < (xs.items.length : Int) := by omega
      obtain ⟨b, off, v1, v2, v3, rfl, hS, hN⟩ := HC.out i hlt
      have hN' := hN.frame hS fun k hk _ => hb.block k (Nat.lt_of_lt_of_le hk hB)
      obtain ⟨x, hx⟩ : ∃ x, x = xs.items[i] := ⟨_, rfl⟩
      rw [← hx] at hN'
      obtain ⟨kd, tt, xl, xb, xe⟩ := x
      have d0 := hN'.d0
      have d1 := hN'.d1
      have d2 := hN'.d2
      have d3 := hN'.d3
      have d4 := hN'.d4
      obtain ⟨a1, c1, rfl, s1, m1⟩ := hN'.l
      obtain ⟨a2, c2, rfl, s2, m2⟩ := hN'.body
      obtain ⟨a3, c3, rfl, s3, m3⟩ := hN'.els
      simp only at d0 d1 d2 d3 d4
      have n1 : Nodes wr (· < B) tw (.slice a1 xl.len c1) xl := ⟨a1, c1, rfl, s1, m1⟩
      have n2 : Nodes wr (· < B) tw (.slice a2 xb.len c2) xb := ⟨a2, c2, rfl, s2, m2⟩
      have n3 : Nodes wr (· < B) tw (.slice a3 xe.len c3) xe := ⟨a3, c3, rfl, s3, m3⟩
      have hBr : B ≤ wr.heap.size := Nat.le_trans hB hb.size
      have hA := Below.alloc (Below.refl wr.heap.size wr) (Nat.le_refl _) (.cells #[.int .u8 (kd : Int), .string (tx tt), .slice a1 xl.len c1, .slice a2 xb.len c2, .slice a3 xe.len c3] 25)
      have hI := HI.out _ (List.getElem_mem hlt)
      rw [← hx] at hI
      have hdr := items_cons_drop xs i hlt
      have Y := Lib.hid (And.intro hb (And.intro hd (And.intro hx (And.intro hdr (And.intro (n1.below (hA.mono hBr)) (And.intro (n2.below (hA.mono hBr)) (And.intro (n3.below (hA.mono hBr)) (And.intro hA (And.intro hBr hI)))))))))
      clear hN hN' s1 s2 s3 m1 m2 m3 n1 n2 n3 hb hd hx hdr hA hBr hI hS
      go_upto_region 4 with fail
      obtain ⟨bx, hbx⟩ : ∃ bx, bx = wr.heap.size := ⟨_, rfl⟩
      obtain ⟨w4, hw4⟩ : ∃ w4, w4 = wr.alloc (.cells #[.int .u8 (kd : Int), .string (tx tt), .slice a1 xl.len c1, .slice a2 xb.len c2, .slice a3 xe.len c3] 25) := ⟨_, rfl⟩
      have hnew : w4.heap[bx]? = some (.cells #[.int .u8 (kd : Int), .string (tx tt), .slice a1 xl.len c1, .slice a2 xb.len c2, .slice a3 xe.len c3] 25 (0, 0)) := by rw [hw4, hbx]; exact heap_alloc_new wr _
      have hlt4 : bx < w4.heap.size := (Array.getElem?_eq_some_iff.1 hnew).1
      have e2 : w4.cell? ⟨bx, 2, none⟩ = some (.slice a1 xl.len c1) := cell_of_row w4 bx 2 _ _ _ hnew
      have e3 : w4.cell? ⟨bx, 3, none⟩ = some (.slice a2 xb.len c2) := cell_of_row w4 bx 3 _ _ _ hnew
      have e4 : w4.cell? ⟨bx, 4, none⟩ = some (.slice a3 xe.len c3) := cell_of_row w4 bx 4 _ _ _ hnew
      rw [← hbx, ← hw4]
      rw [← hw4] at Y
      have HX := Lib.hid hbx
      clear hw4 hnew d0 d1 d2 d3 d4 hbx
      go_region_held3 (fun w' => (w'.cell? ⟨bx, 2, none⟩ = some (.slice a1 xl.len c1) ∧ w'.cell? ⟨bx, 3, none⟩ = some (.slice a2 xb.len c2) ∧ w'.cell? ⟨bx, 4, none⟩ = some (.slice a3 xe.len c3)) ∧ Below w4.heap.size w4 w')
        (first | assumption | exact ⟨⟨e2, e3, e4⟩, (Below.refl _ _).drew⟩ | exact keep3 hlt4 (by assumption) (by assumption))
        (first
          | (go_at_call_of 47 (Value.slice a1 xl.len c1); refine (deep_arm Y.out.2.2.2.2.2.2.2.2.2.1 (Nat.le_trans Y.out.2.2.2.2.2.2.2.2.1 Y.out.2.2.2.2.2.2.2.1.size) Y.out.2.2.2.2.1 (by assumption)).mono ?_; rintro e w'' ⟨rfl, hk⟩)
          | (go_at_call_of 47 (Value.slice a2 xb.len c2); refine (deep_arm Y.out.2.2.2.2.2.2.2.2.2.2.1 (Nat.le_trans Y.out.2.2.2.2.2.2.2.2.1 Y.out.2.2.2.2.2.2.2.1.size) Y.out.2.2.2.2.2.1 (by assumption)).mono ?_; rintro e w'' ⟨rfl, hk⟩)
          | (go_at_call_of 47 (Value.slice a3 xe.len c3); refine (deep_arm Y.out.2.2.2.2.2.2.2.2.2.2.2 (Nat.le_trans Y.out.2.2.2.2.2.2.2.2.1 Y.out.2.2.2.2.2.2.2.1.size) Y.out.2.2.2.2.2.2.1 (by assumption)).mono ?_; rintro e w'' ⟨rfl, hk⟩))
      rename_i hH
      have Z := Lib.hid hH.2
      clear hH
      try simp only [ite_max]
      obtain ⟨z, hz⟩ : ∃ z, z = max n (IntKind.i64.wrap (1 + max (max (deep wrapI xl) (deep wrapI xb)) (deep wrapI xe))) := ⟨_, rfl⟩
      rw [← hz]
      have HZ := Lib.hid hz
      clear hz
      generalize max (max (deep wrapI xl) (deep wrapI xb)) (deep wrapI xe) = m3
      generalize IntKind.i64.wrap (1 + m3) = m4
      go_wp2_with fail
      go_roundg (xs.items.length - (i + 1))
      case measure => omega
      case rel =>
        refine ⟨i + 1, _, hlt, rfl, by go_num, rfl, ?_, ?_, ?_⟩
        · have := HZ.out; omega
        · rw [HZ.out]
          have hd := Y.out.2.1
          have hx := Y.out.2.2.1
          rw [Y.out.2.2.2.1, ← hx] at hd
          simp only [deepL] at hd
          exact max_step hd
        · exact (Y.out.1.trans (Y.out.2.2.2.2.2.2.2.1.mono Y.out.1.size)).trans (Z.out.mono (Nat.le_trans Y.out.1.size Y.out.2.2.2.2.2.2.2.1.size))
    · obtain rfl : i = xs.items.length := by omega
      clear hlt
      go_wp2_with fail
      go_ret
      exact ⟨by rw [deep_items, ← hd, List.drop_length]; simp [deepL]; omega, hb⟩

/-- The document's one. -/
def RDeepSaid (tw : Bool) (x : Ns) : Prop := ∀ (w : World) (B : Nat) (v : Value), B ≤ w.heap.size → Nodes w (· < B) tw v x → Calls Tryd.prog 59 #[v] w fun e w' => e = .returned (.int .i64 (deep wrapI x)) ∧ Below w.heap.size w w'

theorem rdeep_arm {tw : Bool} {x : Ns} (hI : RDeepSaid tw x) {w4 w' : World} {B : Nat} {v : Value} (hB : B ≤ w4.heap.size) (hN : Nodes w4 (· < B) tw v x) {X : Prop} (hS : X ∧ Below w4.heap.size w4 w') :
    Calls Tryd.prog 59 #[v] w' fun e w'' => e = .returned (.int .i64 (deep wrapI x)) ∧ Below w'.heap.size w' w'' :=
  hI w' B v (Nat.le_trans hB hS.2.size) (hN.below (hS.2.mono hB))

theorem keepAt {w4 w' w'' : World} {bx o2 o3 o4 : Nat} {v1 v2 v3 : Value} (hlt : bx < w4.heap.size) (hS : (w'.cell? ⟨bx, o2, none⟩ = some v1 ∧ w'.cell? ⟨bx, o3, none⟩ = some v2 ∧ w'.cell? ⟨bx, o4, none⟩ = some v3) ∧ Below w4.heap.size w4 w') (hk : Below w'.heap.size w' w'') :
    (w''.cell? ⟨bx, o2, none⟩ = some v1 ∧ w''.cell? ⟨bx, o3, none⟩ = some v2 ∧ w''.cell? ⟨bx, o4, none⟩ = some v3) ∧ Below w4.heap.size w4 w'' := by
  obtain ⟨⟨h2, h3, h4⟩, hb⟩ := hS
  have e : ∀ o, w''.cell? ⟨bx, o, none⟩ = w'.cell? ⟨bx, o, none⟩ := fun o => World.cell?_of_block (hk.block bx (Nat.lt_of_lt_of_le hlt hb.size))
  exact ⟨⟨(e _).trans h2, (e _).trans h3, (e _).trans h4⟩, hb.trans (hk.mono hb.size)⟩

set_option maxHeartbeats 4000000 in
theorem rdeep_said (tw : Bool) : ∀ xs, RDeepSaid tw xs := by
  refine Ns.each fun xs ih w B v hB hv => ?_
  obtain ⟨a, c, rfl, hr, hc⟩ := hv.open_
  have HI := Lib.hid ih
  have HC := Lib.hid hc
  have l0 : (0 : Int) ≤ (xs.items.length : Int) := by omega
  have l1 : (xs.items.length : Int) ≤ 140737488351232 := by have := hr.2.2.1; omega
  clear ih hv hc hr
  go_enter Tryd.func59, Tryd.ntmps59
  go_wp2_with fail
  go_loopg [3, 4] xs.items.length (fun gk v2 v7 wr => DeepAt w xs gk v2 v7 wr)
  case atStart => exact ⟨0, 0, Nat.zero_le _, rfl, rfl, rfl, Int.le_refl _, by rw [List.drop_zero, ← deep_items]; have := deep_nonneg wrapI xs; omega, Below.refl _ _⟩
  case round =>
    obtain ⟨i, n, hi, rfl, rfl, rfl, hn, hd, hb⟩ := hrel
    have i0 : (0 : Int) ≤ (i : Int) := by omega
    by_cases hlt : i < xs.items.length
    · have i1 : (i : Int) < (xs.items.length : Int) := by omega
      obtain ⟨b, off, v1, v2, v3, rfl, hS, hN⟩ := HC.out i hlt
      have hN' := hN.frame hS fun k hk _ => hb.block k (Nat.lt_of_lt_of_le hk hB)
      obtain ⟨x, hx⟩ : ∃ x, x = xs.items[i] := ⟨_, rfl⟩
      rw [← hx] at hN'
      obtain ⟨kd, tt, xl, xb, xe⟩ := x
      have d2 := hN'.d2
      have d3 := hN'.d3
      have d4 := hN'.d4
      obtain ⟨a1, c1, rfl, s1, m1⟩ := hN'.l
      obtain ⟨a2, c2, rfl, s2, m2⟩ := hN'.body
      obtain ⟨a3, c3, rfl, s3, m3⟩ := hN'.els
      simp only at d2 d3 d4
      have n1 : Nodes wr (· < B) tw (.slice a1 xl.len c1) xl := ⟨a1, c1, rfl, s1, m1⟩
      have n2 : Nodes wr (· < B) tw (.slice a2 xb.len c2) xb := ⟨a2, c2, rfl, s2, m2⟩
      have n3 : Nodes wr (· < B) tw (.slice a3 xe.len c3) xe := ⟨a3, c3, rfl, s3, m3⟩
      have hBr : B ≤ wr.heap.size := Nat.le_trans hB hb.size
      have hbx : b < wr.heap.size := Nat.lt_of_lt_of_le hS hBr
      have hI := HI.out _ (List.getElem_mem hlt)
      rw [← hx] at hI
      have hdr := items_cons_drop xs i hlt
      have Y := Lib.hid (And.intro hb (And.intro hd (And.intro hx (And.intro hdr (And.intro n1 (And.intro n2 (And.intro n3 (And.intro hBr hI))))))))
      clear hN hN' s1 s2 s3 m1 m2 m3 n1 n2 n3 hb hd hx hdr hBr hI hS
      go_upto_region 5 with fail
      go_region_held3 (fun w' => (w'.cell? ⟨b, off + i * 5 + 2, none⟩ = some (.slice a1 xl.len c1) ∧ w'.cell? ⟨b, off + i * 5 + 3, none⟩ = some (.slice a2 xb.len c2) ∧ w'.cell? ⟨b, off + i * 5 + 4, none⟩ = some (.slice a3 xe.len c3)) ∧ Below wr.heap.size wr w')
        (first | assumption | exact ⟨⟨d2, d3, d4⟩, (Below.refl _ _).drew⟩ | exact keepAt hbx (by assumption) (by assumption))
        (first
          | (go_at_call_of 59 (Value.slice a1 xl.len c1); refine (rdeep_arm Y.out.2.2.2.2.2.2.2.2.1 Y.out.2.2.2.2.2.2.2.1 Y.out.2.2.2.2.1 (by assumption)).mono ?_; rintro e w'' ⟨rfl, hk⟩)
          | (go_at_call_of 59 (Value.slice a2 xb.len c2); refine (rdeep_arm Y.out.2.2.2.2.2.2.2.2.2.1 Y.out.2.2.2.2.2.2.2.1 Y.out.2.2.2.2.2.1 (by assumption)).mono ?_; rintro e w'' ⟨rfl, hk⟩)
          | (go_at_call_of 59 (Value.slice a3 xe.len c3); refine (rdeep_arm Y.out.2.2.2.2.2.2.2.2.2.2 Y.out.2.2.2.2.2.2.2.1 Y.out.2.2.2.2.2.2.1 (by assumption)).mono ?_; rintro e w'' ⟨rfl, hk⟩))
      rename_i hH
      have Z := Lib.hid hH.2
      clear hH
      try simp only [ite_max]
      obtain ⟨z, hz⟩ : ∃ z, z = max n (IntKind.i64.wrap (1 + max (deep wrapI xl) (max (deep wrapI xb) (deep wrapI xe)))) := ⟨_, rfl⟩
      rw [← hz]
      have HZ := Lib.hid hz
      clear hz
      generalize max (deep wrapI xl) (max (deep wrapI xb) (deep wrapI xe)) = m3
      generalize IntKind.i64.wrap (1 + m3) = m4
      go_wp2_with fail
      go_roundg (xs.items.length - (i + 1))
      case measure => omega
      case rel =>
        refine ⟨i + 1, _, hlt, rfl, by go_num, rfl, ?_, ?_, ?_⟩
        · have := HZ.out; omega
        · rw [HZ.out, max_assoc3]
          have hd := Y.out.2.1
          have hx := Y.out.2.2.1
          rw [Y.out.2.2.2.1, ← hx] at hd
          simp only [deepL] at hd
          exact max_step hd
        · exact Y.out.1.trans (Z.out.mono Y.out.1.size)
    · obtain rfl : i = xs.items.length := by omega
      clear hlt
      go_wp2_with fail
      go_ret
      exact ⟨by rw [deep_items, ← hd, List.drop_length]; simp [deepL]; omega, hb⟩
end Go.Proofs.YtobpnjnfpgcpaaaDoor

/- Programs in memory: texts, functions. No program in sight. -/
namespace Go.My
open Go.RowKit Go.Nd

def spare : List UInt8 := [115, 112, 97, 114, 101]

/-- v reads as these texts, in blocks of S; tw: a mark stands behind them. -/
def TextsIn (w : World) (S : Nat → Prop) (tw : Bool) (v : Value) (ts : List (List UInt8)) : Prop :=
  ∃ a c, v = .slice a ts.length c ∧ ts.length ≤ c ∧ c ≤ maxLen ∧ ts.length * 16 ≤ 140737488351232 ∧
    (tw = true → ts.length < c ∧ ∃ b off, a = some ⟨b, off, none⟩ ∧ S b ∧ w.cell? ⟨b, off + ts.length, none⟩ = some (.string (tx spare))) ∧
    ∀ i (hi : i < ts.length), ∃ b off, a = some ⟨b, off, none⟩ ∧ S b ∧ w.cell? ⟨b, off + i, none⟩ = some (.string (tx ts[i])) ∧ (ts[i]).length ≤ 140737488351232

/-- The three cells of a function. -/
structure FnAt (w : World) (S : Nat → Prop) (tw : Bool) (b off : Nat) (f : Nd.Fn) (v1 v2 : Value) : Prop where
  name : f.name.length ≤ 140737488351232
  d0 : w.cell? ⟨b, off, none⟩ = some (.string (tx f.name))
  d1 : w.cell? ⟨b, off + 1, none⟩ = some v1
  d2 : w.cell? ⟨b, off + 2, none⟩ = some v2
  args : TextsIn w S tw v1 f.args
  body : Nodes w S tw v2 f.body

/-- The mark that stands behind a copy's functions. -/
def FnMark (w : World) (b off : Nat) : Prop := w.cell? ⟨b, off, none⟩ = some (.string (tx spare)) ∧ w.cell? ⟨b, off + 1, none⟩ = some (.slice none 0 0) ∧ w.cell? ⟨b, off + 2, none⟩ = some (.slice none 0 0)
theorem FnMark.frame {w w' : World} {b off : Nat} (h : FnMark w b off) (hs : w'.heap[b]? = w.heap[b]?) : FnMark w' b off := by
  have e : ∀ o, w'.cell? ⟨b, o, none⟩ = w.cell? ⟨b, o, none⟩ := fun o => World.cell?_of_block hs
  exact ⟨(e _).trans h.1, (e _).trans h.2.1, (e _).trans h.2.2⟩
theorem FnMark.lt {w : World} {b off : Nat} (h : FnMark w b off) : b < w.heap.size := World.block_lt_of_cell? w _ h.1

def FuncsIn (w : World) (S : Nat → Prop) (tw : Bool) (v : Value) (fs : List Nd.Fn) : Prop :=
  ∃ a c, v = .slice a fs.length c ∧ fs.length ≤ c ∧ c ≤ maxLen ∧ fs.length * 64 ≤ 140737488351232 ∧
    (tw = true → fs.length < c ∧ ∃ b off, a = some ⟨b, off, none⟩ ∧ S b ∧ FnMark w b (off + fs.length * 3)) ∧
    ∀ i (hi : i < fs.length), ∃ b off v1 v2, a = some ⟨b, off, none⟩ ∧ S b ∧ FnAt w S tw b (off + i * 3) fs[i] v1 v2

theorem TextsIn.frame {w w' : World} {S : Nat → Prop} {tw : Bool} {v : Value} {ts : List (List UInt8)} (h : TextsIn w S tw v ts) (hs : ∀ b, S b → b < w.heap.size → w'.heap[b]? = w.heap[b]?) : TextsIn w' S tw v ts := by
  obtain ⟨a, c, h1, h2, h3, h4, h5, h6⟩ := h
  have cell : ∀ b o u, S b → w.cell? ⟨b, o, none⟩ = some u → w'.cell? ⟨b, o, none⟩ = some u := fun b o u hS h =>
    (World.cell?_of_block (hs b hS (World.block_lt_of_cell? w _ h))).trans h
  refine ⟨a, c, h1, h2, h3, h4, fun e => ?_, fun i hi => ?_⟩
  · obtain ⟨k1, b, off, k2, k3, k4⟩ := h5 e
    exact ⟨k1, b, off, k2, k3, cell _ _ _ k3 k4⟩
  · obtain ⟨b, off, k1, k2, k3, k4⟩ := h6 i hi
    exact ⟨b, off, k1, k2, cell _ _ _ k2 k3, k4⟩
theorem TextsIn.mono {w : World} {S T : Nat → Prop} {tw : Bool} {v : Value} {ts : List (List UInt8)} (h : TextsIn w S tw v ts) (hs : ∀ b, b < w.heap.size → S b → T b) : TextsIn w T tw v ts := by
  obtain ⟨a, c, h1, h2, h3, h4, h5, h6⟩ := h
  refine ⟨a, c, h1, h2, h3, h4, fun e => ?_, fun i hi => ?_⟩
  · obtain ⟨k1, b, off, k2, k3, k4⟩ := h5 e
    exact ⟨k1, b, off, k2, hs _ (World.block_lt_of_cell? w _ k4) k3, k4⟩
  · obtain ⟨b, off, k1, k2, k3, k4⟩ := h6 i hi
    exact ⟨b, off, k1, hs _ (World.block_lt_of_cell? w _ k3) k2, k3, k4⟩
theorem TextsIn.form {w : World} {S : Nat → Prop} {tw : Bool} {v : Value} {ts : List (List UInt8)} (h : TextsIn w S tw v ts) : ∃ a c, v = .slice a ts.length c := by obtain ⟨a, c, e, _⟩ := h; exact ⟨a, c, e⟩
theorem FuncsIn.form {w : World} {S : Nat → Prop} {tw : Bool} {v : Value} {fs : List Nd.Fn} (h : FuncsIn w S tw v fs) : ∃ a c, v = .slice a fs.length c := by obtain ⟨a, c, e, _⟩ := h; exact ⟨a, c, e⟩
theorem Nodes.form {w : World} {S : Nat → Prop} {tw : Bool} {v : Value} {x : Ns} (h : Nodes w S tw v x) : ∃ a c, v = .slice a x.len c := by obtain ⟨a, c, e, _⟩ := h; exact ⟨a, c, e⟩
theorem FnAt.frame {w w' : World} {S : Nat → Prop} {tw : Bool} {b off : Nat} {f : Nd.Fn} {v1 v2 : Value} (h : FnAt w S tw b off f v1 v2) (hS : S b) (hs : ∀ b, S b → b < w.heap.size → w'.heap[b]? = w.heap[b]?) : FnAt w' S tw b off f v1 v2 := by
  have hlt := World.block_lt_of_cell? w _ h.d0
  have e : ∀ o, w'.cell? ⟨b, o, none⟩ = w.cell? ⟨b, o, none⟩ := fun o => World.cell?_of_block (hs b hS hlt)
  exact ⟨h.name, (e _).trans h.d0, (e _).trans h.d1, (e _).trans h.d2, h.args.frame hs, h.body.frame hs⟩
theorem FnAt.mono {w : World} {S T : Nat → Prop} {tw : Bool} {b off : Nat} {f : Nd.Fn} {v1 v2 : Value} (h : FnAt w S tw b off f v1 v2) (hs : ∀ b, b < w.heap.size → S b → T b) : FnAt w T tw b off f v1 v2 :=
  ⟨h.name, h.d0, h.d1, h.d2, h.args.mono hs, h.body.mono hs⟩
theorem FuncsIn.frame {w w' : World} {S : Nat → Prop} {tw : Bool} {v : Value} {fs : List Nd.Fn} (h : FuncsIn w S tw v fs) (hs : ∀ b, S b → b < w.heap.size → w'.heap[b]? = w.heap[b]?) : FuncsIn w' S tw v fs := by
  obtain ⟨a, c, h1, h2, h3, h4, h5, h6⟩ := h
  refine ⟨a, c, h1, h2, h3, h4, fun e => ?_, fun i hi => ?_⟩
  · obtain ⟨k1, b, off, k2, k3, k4⟩ := h5 e
    exact ⟨k1, b, off, k2, k3, k4.frame (hs b k3 k4.lt)⟩
  · obtain ⟨b, off, v1, v2, k1, k2, k3⟩ := h6 i hi
    exact ⟨b, off, v1, v2, k1, k2, k3.frame k2 hs⟩
theorem FuncsIn.mono {w : World} {S T : Nat → Prop} {tw : Bool} {v : Value} {fs : List Nd.Fn} (h : FuncsIn w S tw v fs) (hs : ∀ b, b < w.heap.size → S b → T b) : FuncsIn w T tw v fs := by
  obtain ⟨a, c, h1, h2, h3, h4, h5, h6⟩ := h
  refine ⟨a, c, h1, h2, h3, h4, fun e => ?_, fun i hi => ?_⟩
  · obtain ⟨k1, b, off, k2, k3, k4⟩ := h5 e
    exact ⟨k1, b, off, k2, hs _ k4.lt k3, k4⟩
  · obtain ⟨b, off, v1, v2, k1, k2, k3⟩ := h6 i hi
    exact ⟨b, off, v1, v2, k1, hs _ (World.block_lt_of_cell? w _ k3.d0) k2, k3.mono hs⟩
theorem TextsIn.below {w w' : World} {B : Nat} {tw : Bool} {v : Value} {ts : List (List UInt8)} (h : TextsIn w (· < B) tw v ts) (hb : Below B w w') : TextsIn w' (· < B) tw v ts := h.frame fun b hB _ => hb.block b hB
theorem FuncsIn.below {w w' : World} {B : Nat} {tw : Bool} {v : Value} {fs : List Nd.Fn} (h : FuncsIn w (· < B) tw v fs) (hb : Below B w w') : FuncsIn w' (· < B) tw v fs := h.frame fun b hB _ => hb.block b hB
end Go.My

/- Shows: an expression in another one; several, with commas between. -/
namespace Go.Proofs.YtobpnjnfpgcpaaaDoor
open Go.RowKit Go.My Go.Nd

/-- strings.Join over texts that stand somewhere in a block. -/
theorem joinO_t {w : World} {b o : Nat} (ls : List Tx) (sep : Tx) (hcells : ∀ j (hj : j < ls.length), w.cell? ⟨b, o + j, none⟩ = some (.string (bs ls[j]))) (hb : b < w.heap.size) (hn : ls.length ≤ 140737488355328) {c : Nat} (hc : ls.length ≤ c) (hlen : (sepx sep ls).length ≤ 140737488355328) :
    Calls Tryd.prog 20 #[.slice (some ⟨b, o, none⟩) ls.length c, .string (bs sep)] w fun e w' => e = .returned (.string (bs (sepx sep ls))) ∧ Below w.heap.size w w' := by
  have h := Tryd.strings_Join b o c (ls.map bs) (bs sep) w (fun j x hj => by
    rw [List.getElem?_map] at hj
    cases hl : ls[j]? with
    | none => rw [hl] at hj; cases hj
    | some s =>
      rw [hl] at hj
      simp only [Option.map_some, Option.some.injEq] at hj
      obtain ⟨hlt, he⟩ := List.getElem?_eq_some_iff.1 hl
      rw [hcells j hlt, he, hj])
    hb (by simpa using hn) (by simpa using hc) (by rw [map_bs, show (bs sep).data.toList = sep from rfl, join_sepx]; exact hlen)
  rw [map_bs, show (bs sep).data.toList = sep from rfl, join_sepx, List.length_map] at h
  exact h

/-- The contract of an expression's text. -/
def ExprOk (tw : Bool) (x : Nd) : Prop := ∀ (w : World) (B : Nat) (v : Value), B ≤ w.heap.size → NV tw w B v x → Calls Tryd.prog 15 #[v] w fun e w' => e = .returned (.string (bs x.sh)) ∧ Below w.heap.size w w'

set_option maxRecDepth 100000 in
set_option maxHeartbeats 4000000 in
theorem in_t {tw : Bool} {x : Nd} (hx : ExprOk tw x) (hlen : x.sh.length ≤ 35184372088832) {w : World} {B : Nat} {v : Value} (hB : B ≤ w.heap.size) (h : NV tw w B v x) (least : Nat) (hl : least ≤ 7) :
    Calls Tryd.prog 53 #[v, .int .i64 (least : Int)] w fun e w' => e = .returned (.string (bs (inx x.rk least x.sh))) ∧ Below w.heap.size w w' := by
  have hv := h
  obtain ⟨a1, c1, a2, c2, a3, c3, rfl, hk, ht, _, _, _⟩ := h
  obtain ⟨hA, hn, hz⟩ := Put.new w #[.int .u8 (x.kind : Int), .string (tx x.text), .slice a1 x.l.len c1, .slice a2 x.body.len c2, .slice a3 x.els.len c3] 25
  obtain ⟨bx, hbx⟩ : ∃ bx, bx = w.heap.size := ⟨_, rfl⟩
  obtain ⟨w0, hw0⟩ : ∃ w0, w0 = w.alloc (.cells #[.int .u8 (x.kind : Int), .string (tx x.text), .slice a1 x.l.len c1, .slice a2 x.body.len c2, .slice a3 x.els.len c3] 25) := ⟨_, rfl⟩
  rw [← hw0] at hA hn hz
  rw [← hbx] at hn
  obtain ⟨q0, q1, q2, q3, q4, _, _, _, _, _⟩ := row5 hn
  have X := Lib.hid (And.intro hA (And.intro hn (And.intro (hv.below (hA.mono hB)) (Nat.le_trans hB hA.size))))
  have HX := Lib.hid (And.intro hx hlen)
  have hr6 : x.rk ≤ 6 := by unfold Nd.rk rkx; (repeat' split) <;> omega
  have l0 : (0 : Int) ≤ (least : Int) := by omega
  have l1 : (least : Int) ≤ 7 := by omega
  clear hA hn hz hv hB hx hlen hk ht
  go_enter Tryd.func53, Tryd.ntmps53
  go_upto_region 1 with fail
  rw [← hbx, ← hw0]
  clear hbx hw0
  go_wp2_with fail
  refine (rank_s X.out.2.2.1).mono ?_
  rintro e w1 ⟨rfl, hb⟩
  have hrow := (hb.block _ (Array.getElem?_eq_some_iff.1 X.out.2.1).1).trans X.out.2.1
  have Y := Lib.hid (And.intro (X.out.1.trans (hb.mono X.out.1.size)) (And.intro (X.out.2.2.1.below (hb.mono X.out.2.2.2)) (Nat.le_trans X.out.2.2.2 hb.size)))
  clear q0 q1 q2 q3 q4
  obtain ⟨q0, q1, q2, q3, q4, _, _, _, _, _⟩ := row5 hrow
  obtain ⟨k, hkk⟩ : ∃ k, k = x.rk := ⟨_, rfl⟩
  rw [← hkk] at hr6 ⊢
  have HKK := Lib.hid hkk
  clear hrow hb hkk
  by_cases hlt : k < least
  · have i1 : (k : Int) < (least : Int) := by omega
    have hR := Lib.hid (show inx k least x.sh = [40] ++ x.sh ++ [41] by unfold inx; rw [if_pos hlt])
    clear hlt
    go_wp2_with fail
    refine (HX.out.1 w1 B _ Y.out.2.2 Y.out.2.1).mono ?_
    rintro e w2 ⟨rfl, hb⟩
    have K := Lib.hid (Y.out.1.trans (hb.mono Y.out.1.size))
    clear hb q0 q1 q2 q3 q4
    obtain ⟨hA3, hn3, _⟩ := Put.new w2 #[.string ⟨#[40]⟩, .string (bs x.sh), .string ⟨#[41]⟩] 9
    have K3 := Lib.hid (And.intro (K.out.trans (hA3.mono K.out.size)) hn3)
    clear hA3 hn3
    go_wp2_with fail
    refine (joined_t (T := 9) [[40], x.sh, [41]] K3.out.2 (by simp) (n := 3) rfl (by have := HX.out.2; simp; omega) (r := [40] ++ x.sh ++ [41]) (by simp)).mono ?_
    rintro e w4 ⟨rfl, hb⟩
    have K4 := Lib.hid (K3.out.1.trans (hb.mono K3.out.1.size))
    clear hb
    go_wp2_with fail
    go_ret
    exact ⟨by rw [← HKK.out, hR.out]; rfl, K4.out⟩
  · have i1 : (least : Int) ≤ (k : Int) := by omega
    have hR := Lib.hid (show inx k least x.sh = x.sh by unfold inx; rw [if_neg hlt])
    clear hlt
    go_wp2_with fail
    refine (HX.out.1 w1 B _ Y.out.2.2 Y.out.2.1).mono ?_
    rintro e w2 ⟨rfl, hb⟩
    have K := Lib.hid (Y.out.1.trans (hb.mono Y.out.1.size))
    clear hb q0 q1 q2 q3 q4
    go_wp2_with fail
    go_ret
    exact ⟨by rw [← HKK.out, hR.out]; rfl, K.out⟩

theorem strElS : Elem Tryd.prog 45 9 1 16 (.string ⟨#[]⟩) := Elem.mk' Tryd.underlying45 (by kernel_rfl) rfl (by decide)
def shC (x : Nd) : Value := .string (bs x.sh)
/-- The texts so far. -/
def CmAt (w : World) (xs : List Nd) (gk : Nat) (v3 v8 : Value) (wr : World) : Prop :=
  ∃ (k : Nat) (a : Option Addr) (c : Nat) (g : Tags), k ≤ xs.length ∧ gk = xs.length - k ∧ v3 = .slice a k c ∧ v8 = .int .i64 (k : Int) ∧ Since w wr g ∧ Owns wr g 2 9 1 (.slice a k c) k ((xs.take k).map shC)

set_option maxRecDepth 100000 in
set_option maxHeartbeats 8000000 in
theorem commas_t {tw : Bool} {xs : Ns} (hx : ∀ y ∈ xs.items, ExprOk tw y) (hlen : (sepx [44, 32] (xs.items.map Nd.sh)).length ≤ 140737488355328) {w : World} {B : Nat} {v : Value} (hB : B ≤ w.heap.size) (hv : Nodes w (· < B) tw v xs) :
    Calls Tryd.prog 50 #[v] w fun e w' => e = .returned (.string (bs (sepx [44, 32] (xs.items.map Nd.sh)))) ∧ Below w.heap.size w w' := by
  obtain ⟨a0, cp, rfl, hr, hcell⟩ := hv.open_
  have l0 : (0 : Int) ≤ (xs.items.length : Int) := by omega
  have l1 : (xs.items.length : Int) * 96 ≤ 140737488351232 := by have := hr.2.2.1; omega
  have HX := Lib.hid (And.intro hx hlen)
  have HC := Lib.hid (And.intro hcell hB)
  clear hx hlen hcell hB hr hv
  go_enter Tryd.func50, Tryd.ntmps50
  go_wp2_with fail
  go_loopg [3, 8] xs.items.length (fun gk v3 v8 wr => CmAt w xs.items gk v3 v8 wr)
  case atStart => exact ⟨0, none, 0, _, Nat.zero_le _, rfl, rfl, rfl, Since.start w, Owns.nil _ _ _ _ _⟩
  case round =>
    obtain ⟨k, a, c, g1, hk, rfl, rfl, rfl, hS, hO⟩ := hrel
    have k0 : (0 : Int) ≤ (k : Int) := by omega
    have X := Lib.hid (And.intro hS hO)
    clear hO
    by_cases hlt : k < xs.items.length
    · have k1 : (k : Int) < (xs.items.length : Int) := by omega
      obtain ⟨b, off, v1, v2, v3, hb1, hSb, hN⟩ := HC.out.1 k hlt
      subst hb1
      have hM := hN.frame hSb fun j hj _ => hS.below.block j (Nat.lt_of_lt_of_le hj HC.out.2)
      have hI := HX.out.1 _ (List.getElem_mem hlt)
      have e1 : ((xs.items.take (k + 1)).map shC) = (xs.items.take k).map shC ++ [shC xs.items[k]] := by
        rw [List.take_succ_eq_append_getElem hlt, List.map_append]; rfl
      generalize xs.items[k] = x at *
      have d0 := hM.d0
      have d1 := hM.d1
      have d2 := hM.d2
      have d3 := hM.d3
      have d4 := hM.d4
      have hV := NodeAt.nv hM
      have M1 := hM.l
      have M2 := hM.body
      have M3 := hM.els
      obtain ⟨z1, y1, rfl⟩ := M1.form
      obtain ⟨z2, y2, rfl⟩ := M2.form
      obtain ⟨z3, y3, rfl⟩ := M3.form
      have hBr : B ≤ wr.heap.size := Nat.le_trans HC.out.2 hS.below.size
      obtain ⟨hA, hn, hz⟩ := Put.new wr #[.int .u8 (x.kind : Int), .string (tx x.text), .slice z1 x.l.len y1, .slice z2 x.body.len y2, .slice z3 x.els.len y3] 25
      obtain ⟨bx, hbx⟩ : ∃ bx, bx = wr.heap.size := ⟨_, rfl⟩
      obtain ⟨w1, hw1⟩ : ∃ w1, w1 = wr.alloc (.cells #[.int .u8 (x.kind : Int), .string (tx x.text), .slice z1 x.l.len y1, .slice z2 x.body.len y2, .slice z3 x.els.len y3] 25) := ⟨_, rfl⟩
      rw [← hw1] at hA hn hz
      rw [← hbx] at hn
      obtain ⟨q0, q1, q2, q3, q4, _, _, _, _, _⟩ := row5 hn
      have Z := Lib.hid (And.intro hA (And.intro (hV.below (hA.mono hBr)) (And.intro (Nat.le_trans hBr hA.size) (And.intro hI (And.intro e1 hlt)))))
      clear hA hn hz hV hM hN M1 M2 M3 hSb hS hBr hI e1 hk hlt
      go_upto_region 5 with fail
      rw [← hbx, ← hw1]
      clear hbx hw1 d0 d1 d2 d3 d4
      go_wp2_with fail
      refine (Z.out.2.2.2.1 w1 B _ Z.out.2.2.1 Z.out.2.1).mono ?_
      rintro e w2 ⟨rfl, hb⟩
      have hb2 := Z.out.1.trans (hb.mono Z.out.1.size)
      have T2 := Turn.of_below hb2 g1 3
      have T4 := Turn.alloc w2 (g1.ext wr.heap.size 3) 3 (.cells #[shC x] 9)
      have X4 := Lib.hid (And.intro ((X.out.1.turn T2 (by decide)).turn T4 (by decide)) (And.intro ((X.out.2.turn T2 (by decide)).turn T4 (by decide)) (And.intro Z.out.2.2.2.2.1 Z.out.2.2.2.2.2)))
      clear hb hb2 T2 T4 q0 q1 q2 q3 q4 X Z
      go_wp2_with (at_builtin; refine wpList_append_t _ rfl (.tmp 12) (.tmp 15) rfl strElS (v := .slice a k c) (y := .slice (some ⟨w2.heap.size, 0, none⟩) 1 1) rfl X4.out.2.1 rfl (Src.lit #[shC x] 9 rfl rfl) (by simp [Value.oneCell', shC]) (by unfold maxLen; omega) (by omega) ?_; intro a2 c2 w3 g2 O2 T2; have X2 := Lib.hid (And.intro O2 T2); clear O2 T2)
      have X7 := Lib.hid (And.intro (X4.out.1.turn X2.out.2 (by decide)) (show Owns w3 g2 2 9 1 (.slice a2 (k + 1) c2) (k + 1) ((xs.items.take (k + 1)).map shC) by rw [X4.out.2.2.1]; exact X2.out.1))
      have hL := Lib.hid X4.out.2.2.2
      clear X4 X2
      go_roundg (xs.items.length - (k + 1))
      case measure => have := hL.out; omega
      case rel => exact ⟨k + 1, a2, c2, g2, hL.out, rfl, rfl, by go_num, X7.out.1, X7.out.2⟩
    · obtain rfl : k = xs.items.length := by omega
      have hOO := X.out.2
      rw [List.take_length] at hOO
      have hj : Calls Tryd.prog 20 #[.slice a xs.items.length c, .string ⟨#[44, 32]⟩] wr fun e w' => e = .returned (.string (bs (sepx [44, 32] (xs.items.map Nd.sh)))) ∧ Below wr.heap.size wr w' := by
        by_cases h0 : xs.items.length = 0
        · have hnil : xs.items = [] := List.eq_nil_of_length_eq_zero h0
          rw [hnil]
          exact (Tryd.strings_Join_none a c ⟨#[44, 32]⟩ wr).mono fun e w' ⟨he, hw⟩ => ⟨he, hw ▸ Below.refl _ _⟩
        · obtain ⟨b, off, cp2, hv, _, hc1, _, hbl, hcs⟩ := hOO.cell (by omega)
          simp only [Value.slice.injEq] at hv
          obtain ⟨rfl, _, rfl⟩ := hv
          have := joinO_t (w := wr) (b := b) (o := off) (xs.items.map Nd.sh) [44, 32] (fun j hj => by
            have hj2 : j < xs.items.length := by simpa using hj
            rw [(hcs j (by omega)).1]
            simp [hj2, shC]) hbl (by simp; omega) (c := c) (by simpa using hc1) HX.out.2
          rw [List.length_map] at this
          exact this
      have HJ := Lib.hid hj
      clear hlt hk hS hOO hj
      go_wp2_with fail
      refine HJ.out.mono ?_
      rintro e w2 ⟨rfl, hb⟩
      have K := Lib.hid (X.out.1.below.trans (hb.mono X.out.1.below.size))
      clear hb
      go_wp2_with fail
      go_ret
      exact ⟨rfl, K.out⟩
end Go.Proofs.YtobpnjnfpgcpaaaDoor

/- Shows: a strings.Builder of the call's own; what stands ahead of a statement's expression. -/
namespace Go.Proofs.YtobpnjnfpgcpaaaDoor
open Go.RowKit Go.My Go.Nd

/-- A builder in block b, that holds these letters. -/
def Bld (w : World) (b : Nat) (s : Tx) : Prop := Lib.IsBuilderF 62 5 b b (Lib.byteCells s) w

theorem Bld.new (w : World) : Bld (w.alloc (.cells #[.pointer none, .slice none 0 0] 62)) w.heap.size [] :=
  Lib.IsBuilderF.of (Lib.fresh_isBuilder 62 5 w)
theorem Bld.below {w w' : World} {b : Nat} {s : Tx} (h : Bld w b s) (hb : Below w.heap.size w w') : Bld w' b s := by
  have one : ∀ {p : Value}, Lib.BuilderAtF 62 5 b b p (Lib.byteCells s) w → Lib.BuilderAtF 62 5 b b p (Lib.byteCells s) w' := by
    intro p h
    have hlt := h.lt
    obtain ⟨hB, v, hbk, hown, hne⟩ := h
    refine ⟨hB, v, (hb.block b hlt).trans hbk, ⟨hown.1, ?_⟩, hne⟩
    rcases hown.2 with hn | ⟨g, cap, cur, fz, hv, hbg, hg, rest⟩
    · exact .inl hn
    · exact .inr ⟨g, cap, cur, fz, hv, hbg, (hb.block g (Array.getElem?_eq_some_iff.1 hg).1).trans hg, rest⟩
  exact h.elim (fun x => .inl (one x)) (fun x => .inr (one x))
theorem Bld.lt {w : World} {b : Nat} {s : Tx} (h : Bld w b s) : b < w.heap.size := h.elim (fun x => x.lt) (fun x => x.lt)

/-- Behind a write: every block that is neither the builder nor a row of bytes stands. -/
theorem wr_t {w : World} {b : Nat} {s t : Tx} (h : Bld w b s) (hlen : s.length + t.length ≤ 140737488355328) :
    Calls Tryd.prog 36 #[.pointer (some ⟨b, 0, none⟩), .string (bs t)] w fun e w' => e = .returned (.tuple #[.int .i64 (t.length : Int), .nilIface]) ∧ Bld w' b (s ++ t) ∧ Below b w w' ∧ Lib.OthersKept 5 (some b) w w' := by
  have hL := h.lt
  refine (Any.Builder_WriteString_k { Tryd.lays156 with } Tryd.Builder_Extra_156 b b (Lib.byteCells s) (bs t) w h (by rw [Lib.byteCells_length]; exact hlen) (Nat.le_of_lt hL)).mono ?_
  rintro e w' ⟨rfl, h1, h2, h3⟩
  refine ⟨rfl, .inr ?_, h2, h3⟩
  rw [Lib.byteCells_append]
  exact h1
theorem end_t {w : World} {b : Nat} {s : Tx} (h : Bld w b s) : Calls Tryd.prog 37 #[.pointer (some ⟨b, 0, none⟩)] w fun e w' => e = .returned (.string (bs s)) ∧ Below b w w' := by
  refine (Tryd.Builder_String_any_k b b s w h (Nat.le_of_lt h.lt)).mono ?_
  rintro e w' ⟨rfl, _, h2, _⟩
  exact ⟨rfl, h2⟩

theorem repeat_tabs : ∀ d : Nat, Lib.repeatL [9] d = tabs d
  | 0 => rfl
  | d + 1 => by show [9] ++ Lib.repeatL [9] d = tabs (d + 1); rw [repeat_tabs d]; rfl
theorem tabs_t (d : Nat) (w : World) (hd : d ≤ 140737488355328) : Calls Tryd.prog 38 #[.string ⟨#[9]⟩, .int .i64 (d : Int)] w fun e w' => e = .returned (.string (bs (tabs d))) ∧ Below w.heap.size w w' := by
  have h := Tryd.strings_Repeat ⟨#[9]⟩ d w (by omega) (by show 1 * d ≤ _; omega)
  rw [show (⟨#[9]⟩ : ByteArray).data.toList = [9] from rfl, repeat_tabs] at h
  exact h

theorem bs_app10 (a b : Tx) : bs a ++ bs b = bs (a ++ b) := by
  apply ByteArray.ext
  simp [bs]
theorem add_any (a b : Tx) (h : a.length + b.length ≤ 140737488355328) : ∀ wx, (Op.stringOp .add (bs a) (bs b)).run Tryd.prog wx = .ok (.string (bs (a ++ b))) wx := fun wx => by
  rw [run_string_add_sum wx _ _ (by rw [bs_size, bs_size]; omega), bs_app10]
set_option maxRecDepth 100000 in
set_option maxHeartbeats 4000000 in
theorem ahead_s {tw : Bool} {w : World} {B : Nat} {v : Value} {x : Nd} (h : NV tw w B v x) : Calls Tryd.prog 39 #[v] w fun e w' => e = .returned (.string (bs (aheadOf x.kind x.text))) ∧ Below w.heap.size w w' := by
  obtain ⟨a1, c1, a2, c2, a3, c3, rfl, hk, ht, _, _, _⟩ := h
  obtain ⟨k, t, l, b, e⟩ := x
  simp only at hk ht ⊢
  obtain ⟨hA, hn, hz⟩ := Put.new w #[.int .u8 (k : Int), .string (tx t), .slice a1 l.len c1, .slice a2 b.len c2, .slice a3 e.len c3] 25
  obtain ⟨bx, hbx⟩ : ∃ bx, bx = w.heap.size := ⟨_, rfl⟩
  obtain ⟨w0, hw0⟩ : ∃ w0, w0 = w.alloc (.cells #[.int .u8 (k : Int), .string (tx t), .slice a1 l.len c1, .slice a2 b.len c2, .slice a3 e.len c3] 25) := ⟨_, rfl⟩
  rw [← hw0] at hA hn hz
  rw [← hbx] at hn
  obtain ⟨q0, q1, q2, q3, q4, _, _, _, _, _⟩ := row5 hn
  have X := Lib.hid hA
  have HT := Lib.hid ht
  have k0 : (0 : Int) ≤ (k : Int) := by omega
  clear hA hn hz ht
  go_enter Tryd.func39, Tryd.ntmps39
  go_upto_region 1 with fail
  rw [← hbx, ← hw0]
  clear hbx hw0
  by_cases h8 : k = 8
  · subst h8
    have hadd : ∀ wx, (Op.stringOp .add (tx t) ⟨#[32, 61, 32]⟩).run Tryd.prog wx = .ok (.string (bs (t ++ [32, 61, 32]))) wx := (add_any t [32, 61, 32] (by have := HT.out; simp; omega))
    go_wp2_with fail
    go_ret
    exact ⟨rfl, X.out⟩
  · by_cases h11 : k = 11
    · subst h11
      go_wp2_with fail
      go_ret
      exact ⟨rfl, X.out⟩
    · by_cases h12 : k = 12
      · subst h12
        go_wp2_with fail
        go_ret
        exact ⟨rfl, X.out⟩
      · have e8 : ((k : Int) == 8) = false := by rw [beq_eq_false_iff_ne]; omega
        have e11 : ((k : Int) == 11) = false := by rw [beq_eq_false_iff_ne]; omega
        have e12 : ((k : Int) == 12) = false := by rw [beq_eq_false_iff_ne]; omega
        have HR := Lib.hid (show aheadOf k t = [] by unfold aheadOf; rw [if_neg h8, if_neg h11, if_neg h12])
        go_wp2_with fail
        go_ret
        exact ⟨by rw [HR.out]; rfl, X.out⟩
end Go.Proofs.YtobpnjnfpgcpaaaDoor

/- Shows: the ways of writing expressions. -/
namespace Go.Proofs.YtobpnjnfpgcpaaaDoor
open Go.RowKit Go.My Go.Nd

/-- The node lies in block bx. -/
structure BxIs (tw : Bool) (w : World) (B bx : Nat) (x : Nd) (a1 : Option Addr) (c1 : Nat) (a2 : Option Addr) (c2 : Nat) (a3 : Option Addr) (c3 : Nat) : Prop where
  row : w.heap[bx]? = some (.cells #[.int .u8 (x.kind : Int), .string (tx x.text), .slice a1 x.l.len c1, .slice a2 x.body.len c2, .slice a3 x.els.len c3] 25 (0, 0))
  kind : x.kind < 256
  text : x.text.length ≤ 140737488351232
  l : Nodes w (· < B) tw (.slice a1 x.l.len c1) x.l
  body : Nodes w (· < B) tw (.slice a2 x.body.len c2) x.body
  els : Nodes w (· < B) tw (.slice a3 x.els.len c3) x.els
  hB : B ≤ w.heap.size
theorem BxIs.later {tw : Bool} {w w' : World} {B bx : Nat} {x : Nd} {a1 a2 a3 : Option Addr} {c1 c2 c3 : Nat} (h : BxIs tw w B bx x a1 c1 a2 c2 a3 c3) (hb : Below w.heap.size w w') : BxIs tw w' B bx x a1 c1 a2 c2 a3 c3 :=
  have hm := hb.mono h.hB
  ⟨(hb.block _ (Array.getElem?_eq_some_iff.1 h.row).1).trans h.row, h.kind, h.text, h.l.below hm, h.body.below hm, h.els.below hm, Nat.le_trans h.hB hb.size⟩
theorem BxIs.nv {tw : Bool} {w : World} {B bx : Nat} {x : Nd} {a1 a2 a3 : Option Addr} {c1 c2 c3 : Nat} (h : BxIs tw w B bx x a1 c1 a2 c2 a3 c3) : NV tw w B (.agg #[.int .u8 (x.kind : Int), .string (tx x.text), .slice a1 x.l.len c1, .slice a2 x.body.len c2, .slice a3 x.els.len c3]) x :=
  ⟨a1, c1, a2, c2, a3, c3, rfl, h.kind, h.text, h.l, h.body, h.els⟩
def WayOk (f : FuncId) (tw : Bool) (x : Nd) (s : Tx) : Prop := ∀ (w : World) (B bx : Nat) (a1 : Option Addr) (c1 : Nat) (a2 : Option Addr) (c2 : Nat) (a3 : Option Addr) (c3 : Nat), BxIs tw w B bx x a1 c1 a2 c2 a3 c3 →
  Calls Tryd.prog f #[.pointer (some ⟨bx, 0, none⟩)] w fun e w' => e = .returned (.string (bs s)) ∧ Below w.heap.size w w'

set_option maxRecDepth 100000 in
set_option maxHeartbeats 4000000 in
theorem way1 {tw : Bool} {x : Nd} (hx : ∀ y ∈ x.l.items, ExprOk tw y) (hlen : (sepx [44, 32] (x.l.items.map Nd.sh)).length ≤ 35184372088832) : WayOk 49 tw x ([91] ++ sepx [44, 32] (x.l.items.map Nd.sh) ++ [93]) := by
  intro w B bx a1 c1 a2 c2 a3 c3 h
  obtain ⟨q0, q1, q2, q3, q4, _, _, _, _, _⟩ := row5 h.row
  have H := Lib.hid h
  have HX := Lib.hid (And.intro hx hlen)
  clear h hx hlen
  go_enter Tryd.func49, Tryd.ntmps49
  go_wp2_with fail
  refine (commas_t HX.out.1 (by have := HX.out.2; omega) H.out.hB H.out.l).mono ?_
  rintro e w1 ⟨rfl, hb⟩
  obtain ⟨s, hs⟩ : ∃ s, s = sepx [44, 32] (x.l.items.map Nd.sh) := ⟨_, rfl⟩
  have hl := HX.out.2
  rw [← hs] at hl ⊢
  obtain ⟨hA3, hn3, _⟩ := Put.new w1 #[.string ⟨#[91]⟩, .string (bs s), .string ⟨#[93]⟩] 9
  have K := Lib.hid (And.intro (hb.trans (hA3.mono hb.size)) (And.intro hn3 hl))
  clear hb hA3 hn3 hl q0 q1 q2 q3 q4
  have HS := Lib.hid hs
  clear hs
  go_wp2_with fail
  refine (joined_t (T := 9) [[91], s, [93]] K.out.2.1 (by simp) (n := 3) rfl (by have := K.out.2.2; simp; omega) (r := [91] ++ s ++ [93]) (by simp)).mono ?_
  rintro e w4 ⟨rfl, hb⟩
  have K4 := Lib.hid (K.out.1.trans (hb.mono K.out.1.size))
  clear hb
  go_wp2_with fail
  go_ret
  exact ⟨by rw [← HS.out]; rfl, K4.out⟩

set_option maxRecDepth 100000 in
set_option maxHeartbeats 8000000 in
theorem way2 {tw : Bool} {x : Nd} (hx : ∀ y ∈ x.l.items, ExprOk tw y) (ht : x.text.length ≤ 1048576) (hlen : (sepx [44, 32] (x.l.items.map Nd.sh)).length ≤ 35184372088832) : WayOk 51 tw x (x.text ++ [40] ++ sepx [44, 32] (x.l.items.map Nd.sh) ++ [41]) := by
  intro w B bx a1 c1 a2 c2 a3 c3 h
  obtain ⟨q0, q1, q2, q3, q4, _, _, _, _, _⟩ := row5 h.row
  have H := Lib.hid h
  have HX := Lib.hid (And.intro hx (And.intro ht hlen))
  obtain ⟨r, hr⟩ : ∃ r, r = x.text ++ [40] ++ sepx [44, 32] (x.l.items.map Nd.sh) ++ [41] := ⟨_, rfl⟩
  rw [← hr]
  have HS := Lib.hid hr
  clear h hx hlen ht hr
  go_enter Tryd.func51, Tryd.ntmps51
  go_wp2_with fail
  go_region_law (first
    | (go_simp; go_at_call 50; refine (commas_t HX.out.1 (by have := HX.out.2.2; omega) (H.out.later (Below.refl _ _).drew).hB (H.out.later (Below.refl _ _).drew).l).mono ?_; rintro e w1 ⟨rfl, hb⟩; have K1 := Lib.hid ((Below.refl w.heap.size w).drew.trans hb); clear hb; have e1 := (row5 (H.out.later K1.out).row).2.1; have e1' := fun o => (row5 (H.out.later (K1.out.trans ((Below.alloc (Below.refl w1.heap.size w1) (Nat.le_refl _) o).mono K1.out.size))).row).2.1)
    | (go_simp; go_at_call 19; refine (joined_t (T := 9) [x.text, [40], sepx [44, 32] (x.l.items.map Nd.sh), [41]] (heap_alloc_new w1 _) (by simp) (n := 4) rfl (by have := HX.out.2; simp; omega) (r := r) (by rw [HS.out]; simp)).mono ?_; rintro e w4 ⟨rfl, hb⟩; have K4 := Lib.hid ((K1.out.trans ((Below.alloc (Below.refl w1.heap.size w1) (Nat.le_refl _) _).mono K1.out.size)).trans (hb.mono (by have := K1.out.size; simp; omega))); clear hb))
  all_goals
    go_wp2_with fail
    go_ret
    exact ⟨rfl, K4.out⟩

/-- The first of the nodes in it; the second one. -/
theorem BxIs.child {tw : Bool} {w : World} {B bx : Nat} {x : Nd} {a1 a2 a3 : Option Addr} {c1 c2 c3 : Nat} (h : BxIs tw w B bx x a1 c1 a2 c2 a3 c3) (i : Nat) (hi : i < x.l.items.length) : ∃ b off z1 y1 z2 y2 z3 y3, a1 = some ⟨b, off, none⟩ ∧ b < B ∧
    (∀ w', Below w.heap.size w w' → w'.cell? ⟨b, off + i * 5, none⟩ = some (.int .u8 ((x.l.items[i]).kind : Int)) ∧ w'.cell? ⟨b, off + i * 5 + 1, none⟩ = some (.string (tx (x.l.items[i]).text)) ∧ w'.cell? ⟨b, off + i * 5 + 2, none⟩ = some (.slice z1 (x.l.items[i]).l.len y1) ∧
      w'.cell? ⟨b, off + i * 5 + 3, none⟩ = some (.slice z2 (x.l.items[i]).body.len y2) ∧ w'.cell? ⟨b, off + i * 5 + 4, none⟩ = some (.slice z3 (x.l.items[i]).els.len y3)) ∧
    (∀ w', Below w.heap.size w w' → NV tw w' B (.agg #[.int .u8 ((x.l.items[i]).kind : Int), .string (tx (x.l.items[i]).text), .slice z1 (x.l.items[i]).l.len y1, .slice z2 (x.l.items[i]).body.len y2, .slice z3 (x.l.items[i]).els.len y3]) x.l.items[i]) := by
  obtain ⟨a, c, e, _, hat⟩ := h.l.open_
  simp only [Value.slice.injEq] at e
  obtain ⟨rfl, _, rfl⟩ := e
  obtain ⟨b, off, v1, v2, v3, e, hS, hN⟩ := hat i hi
  have M1 := hN.l
  have M2 := hN.body
  have M3 := hN.els
  obtain ⟨z1, y1, rfl⟩ := M1.form
  obtain ⟨z2, y2, rfl⟩ := M2.form
  obtain ⟨z3, y3, rfl⟩ := M3.form
  have hlt : b < w.heap.size := Nat.lt_of_lt_of_le hS h.hB
  refine ⟨b, off, z1, y1, z2, y2, z3, y3, e, hS, fun w' hb => ?_, fun w' hb => (NodeAt.nv hN).below (hb.mono h.hB)⟩
  have q : ∀ o, w'.cell? ⟨b, o, none⟩ = w.cell? ⟨b, o, none⟩ := fun o => World.cell?_of_block (hb.block b hlt)
  exact ⟨(q _).trans hN.d0, (q _).trans hN.d1, (q _).trans hN.d2, (q _).trans hN.d3, (q _).trans hN.d4⟩

set_option maxRecDepth 100000 in
set_option maxHeartbeats 4000000 in
theorem way3 {tw : Bool} {x y : Nd} (hi : x.l.items = [y]) (hx : ExprOk tw y) (hlen : y.sh.length ≤ 35184372088832) : WayOk 52 tw x ([45] ++ inx y.rk 4 y.sh) := by
  intro w B bx a1 c1 a2 c2 a3 c3 h
  obtain ⟨q0, q1, q2, q3, q4, _, _, _, _, _⟩ := row5 h.row
  have hlen1 : x.l.items.length = 1 := by rw [hi]; rfl
  obtain ⟨b, off, z1, y1, z2, y2, z3, y3, rfl, hbB, hcell, hnv⟩ := h.child 0 (by omega)
  have hy : x.l.items[0]'(by omega) = y := by simp [hi]
  rw [hy] at hcell hnv
  have hl1 : x.l.len = 1 := hlen1
  rw [hl1] at q2
  have H := Lib.hid (And.intro h hnv)
  have HX := Lib.hid (And.intro hx hlen)
  obtain ⟨d0, d1, d2, d3, d4⟩ := hcell w (Below.refl _ _)
  simp only [Nat.zero_mul, Nat.add_zero] at d0 d1 d2 d3 d4
  obtain ⟨s, hs⟩ : ∃ s, s = inx y.rk 4 y.sh := ⟨_, rfl⟩
  have hsl := inx_len y.rk 4 y.sh
  rw [← hs] at hsl ⊢
  have HS := Lib.hid (And.intro hs hsl)
  clear h hnv hx hlen hs hsl hcell hy hlen1 hl1 hi hbB
  go_enter Tryd.func52, Tryd.ntmps52
  go_wp2_with fail
  refine (in_t HX.out.1 (by have := HX.out.2; omega) H.out.1.hB (H.out.2 w (Below.refl _ _)) 4 (by decide)).mono ?_
  rintro e w1 ⟨rfl, hb⟩
  rw [← HS.out.1]
  obtain ⟨hA3, hn3, _⟩ := Put.new w1 #[.string ⟨#[45]⟩, .string (bs s)] 9
  have K := Lib.hid (And.intro (hb.trans (hA3.mono hb.size)) hn3)
  clear hb hA3 hn3 q0 q1 q2 q3 q4 d0 d1 d2 d3 d4
  go_wp2_with fail
  refine (joined_t (T := 9) [[45], s] K.out.2 (by simp) (n := 2) rfl (by have := HX.out.2; have := HS.out.2; simp; omega) (r := [45] ++ s) (by simp)).mono ?_
  rintro e w4 ⟨rfl, hb⟩
  have K4 := Lib.hid (K.out.1.trans (hb.mono K.out.1.size))
  clear hb
  go_wp2_with fail
  go_ret
  exact ⟨rfl, K4.out⟩
set_option maxRecDepth 100000 in
set_option maxHeartbeats 4000000 in
theorem way4 {tw : Bool} {x y : Nd} (hi : x.l.items = [y]) (hx : ExprOk tw y) (hlen : y.sh.length ≤ 35184372088832) : WayOk 54 tw x ([110, 111, 116, 32] ++ inx y.rk 4 y.sh) := by
  intro w B bx a1 c1 a2 c2 a3 c3 h
  obtain ⟨q0, q1, q2, q3, q4, _, _, _, _, _⟩ := row5 h.row
  have hlen1 : x.l.items.length = 1 := by rw [hi]; rfl
  obtain ⟨b, off, z1, y1, z2, y2, z3, y3, rfl, hbB, hcell, hnv⟩ := h.child 0 (by omega)
  have hy : x.l.items[0]'(by omega) = y := by simp [hi]
  rw [hy] at hcell hnv
  have hl1 : x.l.len = 1 := hlen1
  rw [hl1] at q2
  have H := Lib.hid (And.intro h hnv)
  have HX := Lib.hid (And.intro hx hlen)
  obtain ⟨d0, d1, d2, d3, d4⟩ := hcell w (Below.refl _ _)
  simp only [Nat.zero_mul, Nat.add_zero] at d0 d1 d2 d3 d4
  obtain ⟨s, hs⟩ : ∃ s, s = inx y.rk 4 y.sh := ⟨_, rfl⟩
  have hsl := inx_len y.rk 4 y.sh
  rw [← hs] at hsl ⊢
  have HS := Lib.hid (And.intro hs hsl)
  clear h hnv hx hlen hs hsl hcell hy hlen1 hl1 hi hbB
  go_enter Tryd.func54, Tryd.ntmps54
  go_wp2_with fail
  refine (in_t HX.out.1 (by have := HX.out.2; omega) H.out.1.hB (H.out.2 w (Below.refl _ _)) 4 (by decide)).mono ?_
  rintro e w1 ⟨rfl, hb⟩
  rw [← HS.out.1]
  obtain ⟨hA3, hn3, _⟩ := Put.new w1 #[.string ⟨#[110, 111, 116, 32]⟩, .string (bs s)] 9
  have K := Lib.hid (And.intro (hb.trans (hA3.mono hb.size)) hn3)
  clear hb hA3 hn3 q0 q1 q2 q3 q4 d0 d1 d2 d3 d4
  go_wp2_with fail
  refine (joined_t (T := 9) [[110, 111, 116, 32], s] K.out.2 (by simp) (n := 2) rfl (by have := HX.out.2; have := HS.out.2; simp; omega) (r := [110, 111, 116, 32] ++ s) (by simp)).mono ?_
  rintro e w4 ⟨rfl, hb⟩
  have K4 := Lib.hid (K.out.1.trans (hb.mono K.out.1.size))
  clear hb
  go_wp2_with fail
  go_ret
  exact ⟨rfl, K4.out⟩
end Go.Proofs.YtobpnjnfpgcpaaaDoor

/- Shows: statements, line by line. -/
namespace Go.Proofs.YtobpnjnfpgcpaaaDoor
open Go.RowKit Go.My Go.Nd

/-- The contract of some statements' lines. -/
def LinesOk (tw : Bool) (xs : Ns) : Prop := ∀ (w : World) (B : Nat) (v : Value) (d : Nat) (z : Int), z = (d : Int) → B ≤ w.heap.size → Nodes w (· < B) tw v xs → d + xs.sz ≤ 1048600 →
  Calls Tryd.prog 21 #[v, .int .i64 z] w fun e w' => e = .returned (.string (bs (xs.lines d))) ∧ Below w.heap.size w w'
def LineOk (tw : Bool) (x : Nd) : Prop := (∃ y, x.l.items = [y] ∧ ExprOk tw y) ∧ LinesOk tw x.body ∧ LinesOk tw x.els

theorem sz_of_mem {xs : Ns} : ∀ x ∈ xs.items, 1 + x.text.length + x.l.sz + x.body.sz + x.els.sz ≤ xs.sz := by
  induction xs with
  | nil => intro x hx; cases hx
  | cons k t l b e r _ _ _ ih =>
    intro x hx
    show _ ≤ 1 + t.length + l.sz + b.sz + e.sz + r.sz
    rcases List.mem_cons.1 hx with rfl | hx
    · simp only; omega
    · have := ih x hx; omega

/-- In a round of lines: the builder holds s, the node lies in block bx. -/
structure LnSt (tw : Bool) (w : World) (B : Nat) (wr : World) (b0 bx : Nat) (x : Nd) (a1 : Option Addr) (c1 : Nat) (a2 : Option Addr) (c2 : Nat) (a3 : Option Addr) (c3 : Nat) (s : Tx) : Prop where
  below : Below w.heap.size w wr
  bld : Bld wr b0 s
  box : BxIs tw wr B bx x a1 c1 a2 c2 a3 c3
  ne : bx ≠ b0
  hb0 : w.heap.size ≤ b0
  hB : B ≤ w.heap.size
theorem LnSt.call {tw : Bool} {w : World} {B : Nat} {wr w' : World} {b0 bx : Nat} {x : Nd} {a1 a2 a3 : Option Addr} {c1 c2 c3 : Nat} {s : Tx} (h : LnSt tw w B wr b0 bx x a1 c1 a2 c2 a3 c3 s) (hb : Below wr.heap.size wr w') : LnSt tw w B w' b0 bx x a1 c1 a2 c2 a3 c3 s :=
  ⟨h.below.trans (hb.mono h.below.size), h.bld.below hb, h.box.later hb, h.ne, h.hb0, h.hB⟩
theorem LnSt.wr {tw : Bool} {w : World} {B : Nat} {wr w' : World} {b0 bx : Nat} {x : Nd} {a1 a2 a3 : Option Addr} {c1 c2 c3 : Nat} {s s' : Tx} (h : LnSt tw w B wr b0 bx x a1 c1 a2 c2 a3 c3 s) (h1 : Bld w' b0 s') (hb : Below b0 wr w') (ho : Lib.OthersKept 5 (some b0) wr w') : LnSt tw w B w' b0 bx x a1 c1 a2 c2 a3 c3 s' :=
  have hm : Below B wr w' := hb.mono (Nat.le_trans h.hB h.hb0)
  ⟨h.below.trans (hb.mono h.hb0), h1,
    ⟨ho _ _ h.box.row (fun e => h.ne (Option.some.inj e)) (fun c fz e => by cases e), h.box.kind, h.box.text, h.box.l.below hm, h.box.body.below hm, h.box.els.below hm, Nat.le_trans h.box.hB hb.size⟩, h.ne, h.hb0, h.hB⟩

/-- What the first lines hold. -/
def upto (xs : Ns) (d k : Nat) : Tx := ((xs.items.take k).map (Nd.line · d)).flatten
theorem upto_step (xs : Ns) (d k : Nat) (h : k < xs.items.length) : upto xs d (k + 1) = upto xs d k ++ (xs.items[k]).line d := by
  unfold upto
  rw [List.take_succ_eq_append_getElem h, List.map_append, List.flatten_append]
  simp
theorem upto_all (xs : Ns) (d : Nat) : upto xs d xs.items.length = xs.lines d := by
  unfold upto
  rw [List.take_length, lines_items]
theorem upto_le (xs : Ns) (d k : Nat) : (upto xs d k).length ≤ (xs.lines d).length := by
  rw [lines_items]
  unfold upto
  have : xs.items = xs.items.take k ++ xs.items.drop k := (List.take_append_drop k _).symm
  conv => rhs; rw [this]
  rw [List.map_append, List.flatten_append, List.length_append]
  omega
theorem lines_short (xs : Ns) (d : Nat) (h : d + xs.sz ≤ 1048600) : (xs.lines d).length ≤ 70368744177664 := by
  have h1 := lines_len xs d 1048600 h
  have h2 : xs.sz * (40 * (1048600 + 1)) ≤ 1048600 * (40 * (1048600 + 1)) := Nat.mul_le_mul_right _ (by omega)
  omega

/-- Between two rounds. -/
def LnAt (w : World) (b0 : Nat) (xs : Ns) (d : Nat) (gk : Nat) (v14 : Value) (wr : World) : Prop :=
  ∃ k : Nat, k ≤ xs.items.length ∧ gk = xs.items.length - k ∧ v14 = .int .i64 (k : Int) ∧ Below w.heap.size w wr ∧ Bld wr b0 (upto xs d k)

set_option maxRecDepth 100000 in
set_option maxHeartbeats 8000000 in
theorem lines_t {tw : Bool} {xs : Ns} (hx : ∀ x ∈ xs.items, LineOk tw x) : LinesOk tw xs := by
  intro w B v d z hz hB hv hd
  obtain ⟨a0, cp, rfl, hr, hcell⟩ := hv.open_
  have l0 : (0 : Int) ≤ (xs.items.length : Int) := by omega
  have l1 : (xs.items.length : Int) * 96 ≤ 140737488351232 := by have := hr.2.2.1; omega
  have z0 : 0 ≤ z := by omega
  have z1 : z ≤ 1048600 := by omega
  have HX := Lib.hid (And.intro hx (And.intro hd (lines_short xs d hd)))
  have HC := Lib.hid (And.intro hcell hB)
  have HZ := Lib.hid hz
  clear hx hd hcell hB hr hv hz
  go_enter Tryd.func21, Tryd.ntmps21
  go_wp2_with fail
  rw [HZ.out]
  refine (tabs_t d w (by have := HX.out.2.1; omega)).mono ?_
  rintro e w1 ⟨rfl, hb1⟩
  have hnew := Bld.new w1
  obtain ⟨b0, hb0⟩ : ∃ b0, b0 = w1.heap.size := ⟨_, rfl⟩
  have hA : Below w.heap.size w (w1.alloc (.cells #[.pointer none, .slice none 0 0] 62)) := hb1.trans ((Below.alloc (Below.refl w1.heap.size w1) (Nat.le_refl _) _).mono hb1.size)
  rw [← hb0] at hnew
  have hb0' : w.heap.size ≤ b0 := by rw [hb0]; exact hb1.size
  have S := Lib.hid (And.intro hnew (And.intro hA hb0'))
  clear hnew hA hb0' hb1
  go_wp2_with fail
  rw [← hb0]
  clear hb0
  go_loopg [14] xs.items.length (fun gk v14 wr => LnAt w b0 xs d gk v14 wr)
  case atStart => exact ⟨0, Nat.zero_le _, rfl, rfl, S.out.2.1, S.out.1⟩
  case round =>
    obtain ⟨k, hk, rfl, rfl, hS, hO⟩ := hrel
    have k0 : (0 : Int) ≤ (k : Int) := by omega
    by_cases hlt : k < xs.items.length
    · have k1 : (k : Int) < (xs.items.length : Int) := by omega
      obtain ⟨b, off, v1, v2, v3, hb1, hSb, hN⟩ := HC.out.1 k hlt
      subst hb1
      have hM := hN.frame hSb fun j hj _ => hS.block j (Nat.lt_of_lt_of_le hj HC.out.2)
      have hI := HX.out.1 _ (List.getElem_mem hlt)
      have hsz := sz_of_mem _ (List.getElem_mem hlt)
      have hup := upto_step xs d k hlt
      have hle := upto_le xs d (k + 1)
      rw [hup] at hle
      generalize hxx : xs.items[k] = x at *
      clear hxx
      have d0 := hM.d0
      have d1 := hM.d1
      have d2 := hM.d2
      have d3 := hM.d3
      have d4 := hM.d4
      have M1 := hM.l
      have M2 := hM.body
      have M3 := hM.els
      obtain ⟨z1, y1, rfl⟩ := M1.form
      obtain ⟨z2, y2, rfl⟩ := M2.form
      obtain ⟨z3, y3, rfl⟩ := M3.form
      have hBr : B ≤ wr.heap.size := Nat.le_trans HC.out.2 hS.size
      obtain ⟨hA, hn, hz⟩ := Put.new wr #[.int .u8 (x.kind : Int), .string (tx x.text), .slice z1 x.l.len y1, .slice z2 x.body.len y2, .slice z3 x.els.len y3] 25
      obtain ⟨bx, hbx⟩ : ∃ bx, bx = wr.heap.size := ⟨_, rfl⟩
      obtain ⟨w1, hw1⟩ : ∃ w1, w1 = wr.alloc (.cells #[.int .u8 (x.kind : Int), .string (tx x.text), .slice z1 x.l.len y1, .slice z2 x.body.len y2, .slice z3 x.els.len y3] 25) := ⟨_, rfl⟩
      rw [← hw1] at hA hn hz
      rw [← hbx] at hn
      obtain ⟨q0, q1, q2, q3, q4, _, _, _, _, _⟩ := row5 hn
      have hmB : Below B wr w1 := hA.mono hBr
      have hst : LnSt tw w B w1 b0 bx x z1 y1 z2 y2 z3 y3 (upto xs d k) :=
        ⟨hS.trans (hA.mono hS.size), hO.below hA, ⟨hn, hM.kind, hM.text, M1.below hmB, M2.below hmB, M3.below hmB, Nat.le_trans hBr hA.size⟩, by rw [hbx]; exact Nat.ne_of_gt hO.lt, S.out.2.2, HC.out.2⟩
      obtain ⟨⟨y, hy, hey⟩, hib, hie⟩ := hI
      have hlen1 : x.l.items.length = 1 := by rw [hy]; rfl
      obtain ⟨cb, co, u1, g1, u2, g2, u3, g3, rfl, hcB, hcc, hcn⟩ := hst.box.child 0 (by omega)
      have hy0 : x.l.items[0]'(by omega) = y := by simp [hy]
      rw [hy0] at hcc hcn
      have hl1 : x.l.len = 1 := hlen1
      rw [hl1] at q2
      obtain ⟨p0, p1, p2, p3, p4⟩ := hcc w1 (Below.refl _ _)
      simp only [Nat.zero_mul, Nat.add_zero] at p0 p1 p2 p3 p4
      obtain ⟨u, hu⟩ : ∃ u, u = upto xs d k := ⟨_, rfl⟩
      have hE : x.l.sh.getD 0 [] = y.sh := by rw [sh_items, hy]; rfl
      have hline : x.line d = lineOf x.kind x.text y.sh d (x.body.lines (d + 1)) (x.els.lines (d + 1)) (x.els.len != 0) := by unfold Nd.line; rw [hE]
      rw [hline] at hup hle
      rw [← hu] at hup hle hst
      have hxd := HX.out.2.1
      have hxs := HX.out.2.2
      have Z := Lib.hid (And.intro hst (And.intro (hcn w1 (Below.refl _ _)) (And.intro hey (And.intro hib (And.intro hie (And.intro (show d + 1 + x.body.sz ≤ 1048600 ∧ d + 1 + x.els.sz ≤ 1048600 by omega) hlt))))))
      have HU := Lib.hid (And.intro hup (Nat.le_trans hle hxs))
      clear hA hn hz hst hN hM M1 M2 M3 hSb hS hO hBr hmB hey hib hie hy hlen1 hl1 hy0 hcc hcn hcB hup hle hxs hxd hE hline hu hsz hk hlt
      go_upto_region 6 with fail
      rw [← hbx, ← hw1]
      clear hbx hw1 d0 d1 d2 d3 d4
      go_wp2_with fail
      refine (Z.out.2.2.1 w1 B _ Z.out.1.box.hB Z.out.2.1).mono ?_
      rintro e w2 ⟨rfl, hb⟩
      have S2 := Lib.hid (Z.out.1.call hb)
      clear hb q0 q1 q2 q3 q4 p0 p1 p2 p3 p4
      go_wp2_with fail
      refine (wr_t S2.out.bld (t := tabs d) (by have := HU.out.2; unfold lineOf at this; simp only [List.length_append] at this; omega)).mono ?_
      rintro e w3 ⟨rfl, hbl, hb, ho⟩
      have S3 := Lib.hid (S2.out.wr hbl hb ho)
      clear hbl hb ho S2
      obtain ⟨q0, q1, q2, q3, q4, _, _, _, _, _⟩ := row5 S3.out.box.row
      have hS := HU.out.2
      rw [List.length_append] at hS
      have hZ := Z.out.2.2.2.2.2
      have HV := Lib.hid (And.intro hZ hS)
      have hib := Lib.hid Z.out.2.2.2.1
      have hie := Lib.hid Z.out.2.2.2.2.1
      clear hS hZ Z
      have Z6 := Lib.hid (show k + 1 ≤ xs.items.length from HV.out.1.2)
      obtain ⟨R, hR⟩ : ∃ R, R = lineOf x.kind x.text y.sh d (x.body.lines (d + 1)) (x.els.lines (d + 1)) (x.els.len != 0) := ⟨_, rfl⟩
      have HUU := Lib.hid (show upto xs d (k + 1) = u ++ R ∧ u.length + R.length ≤ 70368744177664 by rw [hR]; exact ⟨HU.out.1, HV.out.2⟩)
      have HD := Lib.hid HV.out.1.1
      have W1 := Lib.hid (show wrap64 ((d : Int) + 1) = ((d + 1 : Nat) : Int) by have := HD.out.1; simp only [wrap64]; omega)
      clear HU HV
      unfold lineOf at hR
      by_cases h9 : x.kind = 9
      · have HK := Lib.hid (show (x.kind : Int) = 9 by omega)
        rw [HK.out] at q0
        rw [if_pos h9] at hR
        clear h9
        cases h0 : (x.els.len != 0)
        · have h0' : x.els.len = 0 := by simpa using h0
          have HR := Lib.hid (show R = tabs d ++ ([105, 102, 32] ++ y.sh ++ [32, 123, 10] ++ x.body.lines (d + 1) ++ tabs d ++ [] ++ [125, 10]) by rw [hR, h0]; rfl)
          clear hR h0
          have h0' := Lib.hid h0'
          go_wp2_with fail
          refine (hib.out w3 B _ (d + 1) _ W1.out S3.out.box.hB S3.out.box.body HD.out.1).mono ?_
          rintro e w4 ⟨rfl, hb⟩
          have S4 := Lib.hid (S3.out.call hb)
          clear hb S3
          obtain ⟨rS5, hrS5⟩ : ∃ r, r = [105, 102, 32] ++ y.sh ++ [32, 123, 10] ++ x.body.lines (d + 1) ++ tabs d := ⟨_, rfl⟩
          have rS5h := Lib.hid hrS5
          clear hrS5
          obtain ⟨hAS5, hnS5, _⟩ := Put.new w4 #[.string ⟨#[105, 102, 32]⟩, .string (bs y.sh), .string ⟨#[32, 123, 10]⟩, .string (bs (x.body.lines (d + 1))), .string (bs (tabs d))] 9
          have S5 := Lib.hid (And.intro (S4.out.call hAS5) hnS5)
          clear hAS5 hnS5 q0 q1 q2 q3 q4
          go_wp2_with fail
          refine (joined_t (T := 9) [[105, 102, 32], y.sh, [32, 123, 10], x.body.lines (d + 1), tabs d] S5.out.2 (by simp) (n := 5) rfl (by have := HUU.out.2; have hRl := congrArg List.length HR.out; simp only [List.length_append, List.length_cons, List.length_nil] at hRl; simp only [List.flatten_cons, List.flatten_nil, List.length_append, List.length_cons, List.length_nil]; omega) (r := rS5) (by rw [rS5h.out]; simp)).mono ?_
          rintro e w6 ⟨rfl, hb⟩
          have S6 := Lib.hid (S5.out.1.call hb)
          clear hb S4 S5
          go_wp2_with fail
          refine (wr_t S6.out.bld (t := rS5) (by have := HUU.out.2; have hRl := congrArg List.length HR.out; simp only [List.length_append, List.length_cons, List.length_nil] at hRl; rw [rS5h.out]; simp only [List.length_append, List.length_cons, List.length_nil]; omega)).mono ?_
          rintro e w7 ⟨rfl, hbl, hb, ho⟩
          have S7 := Lib.hid (S6.out.wr hbl hb ho)
          clear hbl hb ho S6
          obtain ⟨q0, q1, q2, q3, q4, _, _, _, _, _⟩ := row5 S7.out.box.row
          try rw [HK.out] at q0
          rw [h0'.out] at q4
          go_wp2_with fail
          refine (wr_t S7.out.bld (t := [125, 10]) (by have lrS5 := congrArg List.length rS5h.out; simp only [List.length_append, List.length_cons, List.length_nil] at lrS5; have := HUU.out.2; have hRl := congrArg List.length HR.out; simp only [List.length_append, List.length_cons, List.length_nil] at hRl; simp only [List.length_append, List.length_cons, List.length_nil]; omega)).mono ?_
          rintro e w8 ⟨rfl, hbl, hb, ho⟩
          have S8 := Lib.hid (S7.out.wr hbl hb ho)
          clear hbl hb ho S7
          obtain ⟨q0, q1, q2, q3, q4, _, _, _, _, _⟩ := row5 S8.out.box.row
          try rw [HK.out] at q0
          go_wp2_with fail
          go_roundg (xs.items.length - (k + 1))
          case measure => have := Z6.out; omega
          case rel => exact ⟨k + 1, Z6.out, rfl, by go_num, S8.out.below, by rw [HUU.out.1, HR.out]; have hbd := S8.out.bld; rw [rS5h.out] at hbd; simpa only [List.append_assoc, List.nil_append] using hbd⟩
        · have i0 : (0 : Int) < (x.els.len : Int) := by simp only [bne_iff_ne, ne_eq] at h0; omega
          have HR := Lib.hid (show R = tabs d ++ ([105, 102, 32] ++ y.sh ++ [32, 123, 10] ++ x.body.lines (d + 1) ++ tabs d ++ ([125, 32, 101, 108, 115, 101, 32, 123, 10] ++ x.els.lines (d + 1) ++ tabs d) ++ [125, 10]) by rw [hR, h0]; rfl)
          clear hR h0
          go_wp2_with fail
          refine (hib.out w3 B _ (d + 1) _ W1.out S3.out.box.hB S3.out.box.body HD.out.1).mono ?_
          rintro e w4 ⟨rfl, hb⟩
          have S4 := Lib.hid (S3.out.call hb)
          clear hb S3
          obtain ⟨rS5, hrS5⟩ : ∃ r, r = [105, 102, 32] ++ y.sh ++ [32, 123, 10] ++ x.body.lines (d + 1) ++ tabs d := ⟨_, rfl⟩
          have rS5h := Lib.hid hrS5
          clear hrS5
          obtain ⟨hAS5, hnS5, _⟩ := Put.new w4 #[.string ⟨#[105, 102, 32]⟩, .string (bs y.sh), .string ⟨#[32, 123, 10]⟩, .string (bs (x.body.lines (d + 1))), .string (bs (tabs d))] 9
          have S5 := Lib.hid (And.intro (S4.out.call hAS5) hnS5)
          clear hAS5 hnS5 q0 q1 q2 q3 q4
          go_wp2_with fail
          refine (joined_t (T := 9) [[105, 102, 32], y.sh, [32, 123, 10], x.body.lines (d + 1), tabs d] S5.out.2 (by simp) (n := 5) rfl (by have := HUU.out.2; have hRl := congrArg List.length HR.out; simp only [List.length_append, List.length_cons, List.length_nil] at hRl; simp only [List.flatten_cons, List.flatten_nil, List.length_append, List.length_cons, List.length_nil]; omega) (r := rS5) (by rw [rS5h.out]; simp)).mono ?_
          rintro e w6 ⟨rfl, hb⟩
          have S6 := Lib.hid (S5.out.1.call hb)
          clear hb S4 S5
          go_wp2_with fail
          refine (wr_t S6.out.bld (t := rS5) (by have := HUU.out.2; have hRl := congrArg List.length HR.out; simp only [List.length_append, List.length_cons, List.length_nil] at hRl; rw [rS5h.out]; simp only [List.length_append, List.length_cons, List.length_nil]; omega)).mono ?_
          rintro e w7 ⟨rfl, hbl, hb, ho⟩
          have S7 := Lib.hid (S6.out.wr hbl hb ho)
          clear hbl hb ho S6
          obtain ⟨q0, q1, q2, q3, q4, _, _, _, _, _⟩ := row5 S7.out.box.row
          try rw [HK.out] at q0
          go_wp2_with fail
          refine (hie.out w7 B _ (d + 1) _ W1.out S7.out.box.hB S7.out.box.els HD.out.2).mono ?_
          rintro e w8 ⟨rfl, hb⟩
          have S8 := Lib.hid (S7.out.call hb)
          clear hb S7
          obtain ⟨rS9, hrS9⟩ : ∃ r, r = [125, 32, 101, 108, 115, 101, 32, 123, 10] ++ x.els.lines (d + 1) ++ tabs d := ⟨_, rfl⟩
          have rS9h := Lib.hid hrS9
          clear hrS9
          obtain ⟨hAS9, hnS9, _⟩ := Put.new w8 #[.string ⟨#[125, 32, 101, 108, 115, 101, 32, 123, 10]⟩, .string (bs (x.els.lines (d + 1))), .string (bs (tabs d))] 9
          have S9 := Lib.hid (And.intro (S8.out.call hAS9) hnS9)
          clear hAS9 hnS9 q0 q1 q2 q3 q4
          go_wp2_with fail
          refine (joined_t (T := 9) [[125, 32, 101, 108, 115, 101, 32, 123, 10], x.els.lines (d + 1), tabs d] S9.out.2 (by simp) (n := 3) rfl (by have := HUU.out.2; have hRl := congrArg List.length HR.out; simp only [List.length_append, List.length_cons, List.length_nil] at hRl; simp only [List.flatten_cons, List.flatten_nil, List.length_append, List.length_cons, List.length_nil]; omega) (r := rS9) (by rw [rS9h.out]; simp)).mono ?_
          rintro e w10 ⟨rfl, hb⟩
          have S10 := Lib.hid (S9.out.1.call hb)
          clear hb S8 S9
          go_wp2_with fail
          refine (wr_t S10.out.bld (t := rS9) (by have lrS5 := congrArg List.length rS5h.out; simp only [List.length_append, List.length_cons, List.length_nil] at lrS5; have := HUU.out.2; have hRl := congrArg List.length HR.out; simp only [List.length_append, List.length_cons, List.length_nil] at hRl; rw [rS9h.out]; simp only [List.length_append, List.length_cons, List.length_nil]; omega)).mono ?_
          rintro e w11 ⟨rfl, hbl, hb, ho⟩
          have S11 := Lib.hid (S10.out.wr hbl hb ho)
          clear hbl hb ho S10
          obtain ⟨q0, q1, q2, q3, q4, _, _, _, _, _⟩ := row5 S11.out.box.row
          try rw [HK.out] at q0
          go_wp2_with fail
          refine (wr_t S11.out.bld (t := [125, 10]) (by have lrS5 := congrArg List.length rS5h.out; simp only [List.length_append, List.length_cons, List.length_nil] at lrS5; have lrS9 := congrArg List.length rS9h.out; simp only [List.length_append, List.length_cons, List.length_nil] at lrS9; have := HUU.out.2; have hRl := congrArg List.length HR.out; simp only [List.length_append, List.length_cons, List.length_nil] at hRl; simp only [List.length_append, List.length_cons, List.length_nil]; omega)).mono ?_
          rintro e w12 ⟨rfl, hbl, hb, ho⟩
          have S12 := Lib.hid (S11.out.wr hbl hb ho)
          clear hbl hb ho S11
          obtain ⟨q0, q1, q2, q3, q4, _, _, _, _, _⟩ := row5 S12.out.box.row
          try rw [HK.out] at q0
          go_wp2_with fail
          go_roundg (xs.items.length - (k + 1))
          case measure => have := Z6.out; omega
          case rel => exact ⟨k + 1, Z6.out, rfl, by go_num, S12.out.below, by rw [HUU.out.1, HR.out]; have hbd := S12.out.bld; rw [rS5h.out, rS9h.out] at hbd; simpa only [List.append_assoc, List.nil_append] using hbd⟩
      · by_cases h10 : x.kind = 10
        · have HK := Lib.hid (show (x.kind : Int) = 10 by omega)
          rw [HK.out] at q0
          rw [if_neg h9, if_pos h10] at hR
          have HR := Lib.hid (show R = tabs d ++ ([119, 104, 105, 108, 101, 32] ++ y.sh ++ [32, 123, 10] ++ x.body.lines (d + 1) ++ tabs d ++ [125, 10]) from hR)
          clear hR h9 h10
          go_wp2_with fail
          refine (hib.out w3 B _ (d + 1) _ W1.out S3.out.box.hB S3.out.box.body HD.out.1).mono ?_
          rintro e w4 ⟨rfl, hb⟩
          have S4 := Lib.hid (S3.out.call hb)
          clear hb S3
          obtain ⟨rS5, hrS5⟩ : ∃ r, r = [119, 104, 105, 108, 101, 32] ++ y.sh ++ [32, 123, 10] ++ x.body.lines (d + 1) ++ tabs d ++ [125, 10] := ⟨_, rfl⟩
          have rS5h := Lib.hid hrS5
          clear hrS5
          obtain ⟨hAS5, hnS5, _⟩ := Put.new w4 #[.string ⟨#[119, 104, 105, 108, 101, 32]⟩, .string (bs y.sh), .string ⟨#[32, 123, 10]⟩, .string (bs (x.body.lines (d + 1))), .string (bs (tabs d)), .string ⟨#[125, 10]⟩] 9
          have S5 := Lib.hid (And.intro (S4.out.call hAS5) hnS5)
          clear hAS5 hnS5 q0 q1 q2 q3 q4
          go_wp2_with fail
          refine (joined_t (T := 9) [[119, 104, 105, 108, 101, 32], y.sh, [32, 123, 10], x.body.lines (d + 1), tabs d, [125, 10]] S5.out.2 (by simp) (n := 6) rfl (by have := HUU.out.2; have hRl := congrArg List.length HR.out; simp only [List.length_append, List.length_cons, List.length_nil] at hRl; simp only [List.flatten_cons, List.flatten_nil, List.length_append, List.length_cons, List.length_nil]; omega) (r := rS5) (by rw [rS5h.out]; simp)).mono ?_
          rintro e w6 ⟨rfl, hb⟩
          have S6 := Lib.hid (S5.out.1.call hb)
          clear hb S4 S5
          go_wp2_with fail
          refine (wr_t S6.out.bld (t := rS5) (by have := HUU.out.2; have hRl := congrArg List.length HR.out; simp only [List.length_append, List.length_cons, List.length_nil] at hRl; rw [rS5h.out]; simp only [List.length_append, List.length_cons, List.length_nil]; omega)).mono ?_
          rintro e w7 ⟨rfl, hbl, hb, ho⟩
          have S7 := Lib.hid (S6.out.wr hbl hb ho)
          clear hbl hb ho S6
          obtain ⟨q0, q1, q2, q3, q4, _, _, _, _, _⟩ := row5 S7.out.box.row
          try rw [HK.out] at q0
          go_wp2_with fail
          go_roundg (xs.items.length - (k + 1))
          case measure => have := Z6.out; omega
          case rel => exact ⟨k + 1, Z6.out, rfl, by go_num, S7.out.below, by rw [HUU.out.1, HR.out]; have hbd := S7.out.bld; rw [rS5h.out] at hbd; simpa only [List.append_assoc, List.nil_append] using hbd⟩
        · have HK := Lib.hid (show (x.kind : Int) = (x.kind : Int) from rfl)
          rw [if_neg h9, if_neg h10] at hR
          obtain ⟨A, hA⟩ : ∃ A, A = aheadOf x.kind x.text := ⟨_, rfl⟩
          rw [← hA] at hR
          have HA := Lib.hid hA
          have HR := Lib.hid (show R = tabs d ++ (A ++ y.sh ++ [59, 10]) from hR)
          have e9 : ((x.kind : Int) == 9) = false := by rw [beq_eq_false_iff_ne]; omega
          have e10 : ((x.kind : Int) == 10) = false := by rw [beq_eq_false_iff_ne]; omega
          clear hR hA h9 h10
          go_wp2_with fail
          refine (ahead_s S3.out.box.nv).mono ?_
          rintro e w4 ⟨rfl, hb⟩
          rw [← HA.out]
          have S4 := Lib.hid (S3.out.call hb)
          clear hb S3
          obtain ⟨rS5, hrS5⟩ : ∃ r, r = A ++ y.sh ++ [59, 10] := ⟨_, rfl⟩
          have rS5h := Lib.hid hrS5
          clear hrS5
          obtain ⟨hAS5, hnS5, _⟩ := Put.new w4 #[.string (bs A), .string (bs y.sh), .string ⟨#[59, 10]⟩] 9
          have S5 := Lib.hid (And.intro (S4.out.call hAS5) hnS5)
          clear hAS5 hnS5 q0 q1 q2 q3 q4
          go_wp2_with fail
          refine (joined_t (T := 9) [A, y.sh, [59, 10]] S5.out.2 (by simp) (n := 3) rfl (by have := HUU.out.2; have hRl := congrArg List.length HR.out; simp only [List.length_append, List.length_cons, List.length_nil] at hRl; simp only [List.flatten_cons, List.flatten_nil, List.length_append, List.length_cons, List.length_nil]; omega) (r := rS5) (by rw [rS5h.out]; simp)).mono ?_
          rintro e w6 ⟨rfl, hb⟩
          have S6 := Lib.hid (S5.out.1.call hb)
          clear hb S4 S5
          go_wp2_with fail
          refine (wr_t S6.out.bld (t := rS5) (by have := HUU.out.2; have hRl := congrArg List.length HR.out; simp only [List.length_append, List.length_cons, List.length_nil] at hRl; rw [rS5h.out]; simp only [List.length_append, List.length_cons, List.length_nil]; omega)).mono ?_
          rintro e w7 ⟨rfl, hbl, hb, ho⟩
          have S7 := Lib.hid (S6.out.wr hbl hb ho)
          clear hbl hb ho S6
          obtain ⟨q0, q1, q2, q3, q4, _, _, _, _, _⟩ := row5 S7.out.box.row
          try rw [HK.out] at q0
          go_wp2_with fail
          go_roundg (xs.items.length - (k + 1))
          case measure => have := Z6.out; omega
          case rel => exact ⟨k + 1, Z6.out, rfl, by go_num, S7.out.below, by rw [HUU.out.1, HR.out]; have hbd := S7.out.bld; rw [rS5h.out] at hbd; simpa only [List.append_assoc, List.nil_append] using hbd⟩
    · obtain rfl : k = xs.items.length := by omega
      rw [upto_all] at hO
      have X := Lib.hid (And.intro hS hO)
      have h0 := Lib.hid S.out.2.2
      clear hS hO hk hlt
      go_wp2_with fail
      refine (end_t X.out.2).mono ?_
      rintro e w2 ⟨rfl, hb⟩
      have K := Lib.hid (X.out.1.trans (hb.mono h0.out))
      clear hb
      go_wp2_with fail
      go_ret
      exact ⟨rfl, K.out⟩
end Go.Proofs.YtobpnjnfpgcpaaaDoor

/- Shows: an expression of two. -/
namespace Go.Proofs.YtobpnjnfpgcpaaaDoor
open Go.RowKit Go.My Go.Nd

theorem keepW {w w2 w3 : World} {X : Prop} (hS : X ∧ Below w.heap.size w w2) (hk : Below w2.heap.size w2 w3) : Below w.heap.size w w3 := hS.2.trans (hk.mono hS.2.size)
theorem keepO {w w2 : World} {X : Prop} (o : Obj) (hS : X ∧ Below w.heap.size w w2) : Below w.heap.size w (w2.alloc o) := hS.2.trans ((Below.alloc (Below.refl w2.heap.size w2) (Nat.le_refl _) o).mono hS.2.size)

theorem inS {tw : Bool} {w w' : World} {B bx : Nat} {x y : Nd} {a1 a2 a3 : Option Addr} {c1 c2 c3 : Nat} {v : Value} (h : BxIs tw w B bx x a1 c1 a2 c2 a3 c3) (gy : ExprOk tw y) (ly : y.sh.length ≤ 35184372088832) (hv : ∀ w', Below w.heap.size w w' → NV tw w' B v y) {X : Prop} (hS : X ∧ Below w.heap.size w w') (least : Nat) (hl : least ≤ 7) :
    Calls Tryd.prog 53 #[v, .int .i64 (least : Int)] w' fun e w'' => e = .returned (.string (bs (inx y.rk least y.sh))) ∧ Below w'.heap.size w' w'' := in_t gy ly (Nat.le_trans h.hB hS.2.size) (hv w' hS.2) least hl
theorem exprS {tw : Bool} {w w' : World} {B bx : Nat} {x y : Nd} {a1 a2 a3 : Option Addr} {c1 c2 c3 : Nat} {v : Value} (h : BxIs tw w B bx x a1 c1 a2 c2 a3 c3) (gy : ExprOk tw y) (hv : ∀ w', Below w.heap.size w w' → NV tw w' B v y) {X : Prop} (hS : X ∧ Below w.heap.size w w') :
    Calls Tryd.prog 15 #[v] w' fun e w'' => e = .returned (.string (bs y.sh)) ∧ Below w'.heap.size w' w'' := gy w' B v (Nat.le_trans h.hB hS.2.size) (hv w' hS.2)

set_option maxRecDepth 100000 in
set_option maxHeartbeats 8000000 in
theorem way5_pow {tw : Bool} {x a b : Nd} (hk : x.kind = 5) (htx : x.text = [94]) (hi : x.l.items = [a, b]) (ga : ExprOk tw a) (gb : ExprOk tw b) (la : a.sh.length ≤ 35184372088832) (lb : b.sh.length ≤ 35184372088832) (ht : x.text.length ≤ 1048576) :
    WayOk 55 tw x (inx a.rk 6 a.sh ++ x.text ++ b.sh) := by
  intro w B bx a1 c1 a2 c2 a3 c3 h
  obtain ⟨q0, q1, q2, q3, q4, _, _, _, _, _⟩ := row5 h.row
  have hlen2 : x.l.items.length = 2 := by rw [hi]; rfl
  obtain ⟨b0, o0, z1, y1, z2, y2, z3, y3, rfl, _, hcA, hnA⟩ := h.child 0 (by omega)
  obtain ⟨b0', o0', u1, v1, u2, v2, u3, v3, heq, _, hcB, hnB⟩ := h.child 1 (by omega)
  cases heq
  have ha : x.l.items[0]'(by omega) = a := by simp [hi]
  have hb' : x.l.items[1]'(by omega) = b := by simp [hi]
  rw [ha] at hcA hnA
  rw [hb'] at hcB hnB
  have hl2 : x.l.len = 2 := hlen2
  rw [hl2] at q2
  have H := Lib.hid (And.intro h (And.intro hnA hnB))
  have hnv := h.nv
  rw [hl2] at hnv
  have HNV := Lib.hid hnv
  have HL2 := Lib.hid hl2
  have HC := Lib.hid (fun (w' : World) (hb : Below w.heap.size w w') => And.intro (row5 (h.later hb).row) (And.intro (hcA w' hb) (hcB w' hb)))
  have HX := Lib.hid (And.intro ga (And.intro gb (And.intro la (And.intro lb ht))))
  clear hcA hcB hnA hnB ga gb la lb ht ha hb' hlen2 hnv hl2
  have hrk : x.rk = 5 := by unfold Nd.rk; rw [hk, htx]; rfl
  have HRK := Lib.hid hrk
  obtain ⟨r, hr⟩ : ∃ r, r = inx a.rk 6 a.sh ++ x.text ++ b.sh := ⟨_, rfl⟩
  rw [← hr]
  have HR := Lib.hid hr
  clear h hr hrk hk htx hi
  go_enter Tryd.func55, Tryd.ntmps55
  go_wp2_with fail
  refine (rank_s HNV.out).mono ?_
  rintro e w1 ⟨rfl, hb⟩
  rw [HRK.out]
  have K1 := Lib.hid hb
  clear hb q0 q1 q2 q3 q4
  obtain ⟨⟨q0, q1, q2, q3, q4, _, _, _, _, _⟩, ⟨d0, d1, d2, d3, d4⟩, ⟨e0, e1, e2, e3, e4⟩⟩ := HC.out w1 K1.out
  rw [HL2.out] at q2
  simp only [Nat.zero_mul, Nat.one_mul, Nat.add_zero] at d0 d1 d2 d3 d4 e0 e1 e2 e3 e4
  go_upto_region 3 with fail
  have KS := Lib.hid (fun (w' : World) (hb : Below w.heap.size w w') => (show (w'.cell? ⟨bx, 1, none⟩ = some (.string (tx x.text)) ∧ w'.cell? ⟨bx, 2, none⟩ = some (.slice (some ⟨b0, o0, none⟩) 2 c1)) ∧ (w'.cell? ⟨b0, o0, none⟩ = some (.int .u8 (a.kind : Int)) ∧ w'.cell? ⟨b0, o0 + 1, none⟩ = some (.string (tx a.text)) ∧ w'.cell? ⟨b0, o0 + 2, none⟩ = some (.slice z1 a.l.len y1) ∧ w'.cell? ⟨b0, o0 + 3, none⟩ = some (.slice z2 a.body.len y2) ∧ w'.cell? ⟨b0, o0 + 4, none⟩ = some (.slice z3 a.els.len y3)) ∧ (w'.cell? ⟨b0, o0 + 5, none⟩ = some (.int .u8 (b.kind : Int)) ∧ w'.cell? ⟨b0, o0 + 5 + 1, none⟩ = some (.string (tx b.text)) ∧ w'.cell? ⟨b0, o0 + 5 + 2, none⟩ = some (.slice u1 b.l.len v1) ∧ w'.cell? ⟨b0, o0 + 5 + 3, none⟩ = some (.slice u2 b.body.len v2) ∧ w'.cell? ⟨b0, o0 + 5 + 4, none⟩ = some (.slice u3 b.els.len v3)) from by
    obtain ⟨⟨_, p1, p2, _, _, _, _, _, _, _⟩, f, g⟩ := HC.out w' hb
    rw [HL2.out] at p2
    simp only [Nat.zero_mul, Nat.one_mul, Nat.add_zero] at f g
    exact ⟨⟨p1, p2⟩, f, g⟩))
  go_region_held3 (fun w' => ((w'.cell? ⟨bx, 1, none⟩ = some (.string (tx x.text)) ∧ w'.cell? ⟨bx, 2, none⟩ = some (.slice (some ⟨b0, o0, none⟩) 2 c1)) ∧ (w'.cell? ⟨b0, o0, none⟩ = some (.int .u8 (a.kind : Int)) ∧ w'.cell? ⟨b0, o0 + 1, none⟩ = some (.string (tx a.text)) ∧ w'.cell? ⟨b0, o0 + 2, none⟩ = some (.slice z1 a.l.len y1) ∧ w'.cell? ⟨b0, o0 + 3, none⟩ = some (.slice z2 a.body.len y2) ∧ w'.cell? ⟨b0, o0 + 4, none⟩ = some (.slice z3 a.els.len y3)) ∧ (w'.cell? ⟨b0, o0 + 5, none⟩ = some (.int .u8 (b.kind : Int)) ∧ w'.cell? ⟨b0, o0 + 5 + 1, none⟩ = some (.string (tx b.text)) ∧ w'.cell? ⟨b0, o0 + 5 + 2, none⟩ = some (.slice u1 b.l.len v1) ∧ w'.cell? ⟨b0, o0 + 5 + 3, none⟩ = some (.slice u2 b.body.len v2) ∧ w'.cell? ⟨b0, o0 + 5 + 4, none⟩ = some (.slice u3 b.els.len v3))) ∧ Below w.heap.size w w')
    (first | assumption | exact ⟨KS.out _ K1.out.drew, K1.out.drew⟩ | exact ⟨KS.out _ (keepW (by assumption) (by assumption)), keepW (by assumption) (by assumption)⟩ | exact ⟨KS.out _ (keepO _ (by assumption)), keepO _ (by assumption)⟩)
    (first
      | (go_at_call 53; refine (inS H.out.1 HX.out.1 HX.out.2.2.1 H.out.2.1 (by assumption) 6 (by decide)).mono ?_; rintro e w'' ⟨rfl, hk⟩)
      | (go_at_call 15; refine (exprS H.out.1 HX.out.2.1 H.out.2.2 (by assumption)).mono ?_; rintro e w'' ⟨rfl, hk⟩)
      | (go_at_call 19; refine (joined_t (T := 9) [inx a.rk 6 a.sh, x.text, b.sh] (heap_alloc_new _ _) (by simp) (n := 3) rfl (by have := HX.out.2; have := inx_len a.rk 6 a.sh; simp; omega) (r := r) (by rw [HR.out]; simp)).mono ?_; rintro e w'' ⟨rfl, hk⟩))
  rename_i hH
  have K4 := Lib.hid hH.2
  clear hH
  all_goals
    go_wp2_with fail
    go_ret
    exact ⟨rfl, K4.out⟩
set_option maxRecDepth 100000 in
set_option maxHeartbeats 8000000 in
theorem way5_1 {tw : Bool} {x a b : Nd} (hrk : x.rk = 1) (hi : x.l.items = [a, b]) (ga : ExprOk tw a) (gb : ExprOk tw b) (la : a.sh.length ≤ 35184372088832) (lb : b.sh.length ≤ 35184372088832) (ht : x.text.length ≤ 1048576) :
    WayOk 55 tw x (inx a.rk 2 a.sh ++ [32] ++ x.text ++ [32] ++ inx b.rk 2 b.sh) := by
  intro w B bx a1 c1 a2 c2 a3 c3 h
  obtain ⟨q0, q1, q2, q3, q4, _, _, _, _, _⟩ := row5 h.row
  have hlen2 : x.l.items.length = 2 := by rw [hi]; rfl
  obtain ⟨b0, o0, z1, y1, z2, y2, z3, y3, rfl, _, hcA, hnA⟩ := h.child 0 (by omega)
  obtain ⟨b0', o0', u1, v1, u2, v2, u3, v3, heq, _, hcB, hnB⟩ := h.child 1 (by omega)
  cases heq
  have ha : x.l.items[0]'(by omega) = a := by simp [hi]
  have hb' : x.l.items[1]'(by omega) = b := by simp [hi]
  rw [ha] at hcA hnA
  rw [hb'] at hcB hnB
  have hl2 : x.l.len = 2 := hlen2
  rw [hl2] at q2
  have H := Lib.hid (And.intro h (And.intro hnA hnB))
  have hnv := h.nv
  rw [hl2] at hnv
  have HNV := Lib.hid hnv
  have HL2 := Lib.hid hl2
  have HC := Lib.hid (fun (w' : World) (hb : Below w.heap.size w w') => And.intro (row5 (h.later hb).row) (And.intro (hcA w' hb) (hcB w' hb)))
  have HX := Lib.hid (And.intro ga (And.intro gb (And.intro la (And.intro lb ht))))
  clear hcA hcB hnA hnB ga gb la lb ht ha hb' hlen2 hnv hl2
  have HRK := Lib.hid hrk
  obtain ⟨r, hr⟩ : ∃ r, r = inx a.rk 2 a.sh ++ [32] ++ x.text ++ [32] ++ inx b.rk 2 b.sh := ⟨_, rfl⟩
  rw [← hr]
  have HR := Lib.hid hr
  clear h hr hrk hi
  go_enter Tryd.func55, Tryd.ntmps55
  go_wp2_with fail
  refine (rank_s HNV.out).mono ?_
  rintro e w1 ⟨rfl, hb⟩
  rw [HRK.out]
  have K1 := Lib.hid hb
  clear hb q0 q1 q2 q3 q4
  obtain ⟨⟨q0, q1, q2, q3, q4, _, _, _, _, _⟩, ⟨d0, d1, d2, d3, d4⟩, ⟨e0, e1, e2, e3, e4⟩⟩ := HC.out w1 K1.out
  rw [HL2.out] at q2
  simp only [Nat.zero_mul, Nat.one_mul, Nat.add_zero] at d0 d1 d2 d3 d4 e0 e1 e2 e3 e4
  go_upto_region 4 with fail
  have KS := Lib.hid (fun (w' : World) (hb : Below w.heap.size w w') => (show (w'.cell? ⟨bx, 1, none⟩ = some (.string (tx x.text)) ∧ w'.cell? ⟨bx, 2, none⟩ = some (.slice (some ⟨b0, o0, none⟩) 2 c1)) ∧ (w'.cell? ⟨b0, o0, none⟩ = some (.int .u8 (a.kind : Int)) ∧ w'.cell? ⟨b0, o0 + 1, none⟩ = some (.string (tx a.text)) ∧ w'.cell? ⟨b0, o0 + 2, none⟩ = some (.slice z1 a.l.len y1) ∧ w'.cell? ⟨b0, o0 + 3, none⟩ = some (.slice z2 a.body.len y2) ∧ w'.cell? ⟨b0, o0 + 4, none⟩ = some (.slice z3 a.els.len y3)) ∧ (w'.cell? ⟨b0, o0 + 5, none⟩ = some (.int .u8 (b.kind : Int)) ∧ w'.cell? ⟨b0, o0 + 5 + 1, none⟩ = some (.string (tx b.text)) ∧ w'.cell? ⟨b0, o0 + 5 + 2, none⟩ = some (.slice u1 b.l.len v1) ∧ w'.cell? ⟨b0, o0 + 5 + 3, none⟩ = some (.slice u2 b.body.len v2) ∧ w'.cell? ⟨b0, o0 + 5 + 4, none⟩ = some (.slice u3 b.els.len v3)) from by
    obtain ⟨⟨_, p1, p2, _, _, _, _, _, _, _⟩, f, g⟩ := HC.out w' hb
    rw [HL2.out] at p2
    simp only [Nat.zero_mul, Nat.one_mul, Nat.add_zero] at f g
    exact ⟨⟨p1, p2⟩, f, g⟩))
  go_region_held3 (fun w' => ((w'.cell? ⟨bx, 1, none⟩ = some (.string (tx x.text)) ∧ w'.cell? ⟨bx, 2, none⟩ = some (.slice (some ⟨b0, o0, none⟩) 2 c1)) ∧ (w'.cell? ⟨b0, o0, none⟩ = some (.int .u8 (a.kind : Int)) ∧ w'.cell? ⟨b0, o0 + 1, none⟩ = some (.string (tx a.text)) ∧ w'.cell? ⟨b0, o0 + 2, none⟩ = some (.slice z1 a.l.len y1) ∧ w'.cell? ⟨b0, o0 + 3, none⟩ = some (.slice z2 a.body.len y2) ∧ w'.cell? ⟨b0, o0 + 4, none⟩ = some (.slice z3 a.els.len y3)) ∧ (w'.cell? ⟨b0, o0 + 5, none⟩ = some (.int .u8 (b.kind : Int)) ∧ w'.cell? ⟨b0, o0 + 5 + 1, none⟩ = some (.string (tx b.text)) ∧ w'.cell? ⟨b0, o0 + 5 + 2, none⟩ = some (.slice u1 b.l.len v1) ∧ w'.cell? ⟨b0, o0 + 5 + 3, none⟩ = some (.slice u2 b.body.len v2) ∧ w'.cell? ⟨b0, o0 + 5 + 4, none⟩ = some (.slice u3 b.els.len v3))) ∧ Below w.heap.size w w')
    (first | assumption | exact ⟨KS.out _ K1.out.drew, K1.out.drew⟩ | exact ⟨KS.out _ (keepW (by assumption) (by assumption)), keepW (by assumption) (by assumption)⟩ | exact ⟨KS.out _ (keepO _ (by assumption)), keepO _ (by assumption)⟩)
    (first
      | (go_at_call_of 53 (Value.agg #[.int .u8 (a.kind : Int), .string (tx a.text), .slice z1 a.l.len y1, .slice z2 a.body.len y2, .slice z3 a.els.len y3]); refine (inS H.out.1 HX.out.1 HX.out.2.2.1 H.out.2.1 (by assumption) 2 (by decide)).mono ?_; rintro e w'' ⟨rfl, hk⟩)
      | (go_at_call_of 53 (Value.agg #[.int .u8 (b.kind : Int), .string (tx b.text), .slice u1 b.l.len v1, .slice u2 b.body.len v2, .slice u3 b.els.len v3]); refine (inS H.out.1 HX.out.2.1 HX.out.2.2.2.1 H.out.2.2 (by assumption) 2 (by decide)).mono ?_; rintro e w'' ⟨rfl, hk⟩)
      | (go_at_call 19; refine (joined_t (T := 9) [inx a.rk 2 a.sh, [32], x.text, [32], inx b.rk 2 b.sh] (heap_alloc_new _ _) (by simp) (n := 5) rfl (by have := HX.out.2; have := inx_len a.rk 2 a.sh; have := inx_len b.rk 2 b.sh; simp; omega) (r := r) (by rw [HR.out]; simp)).mono ?_; rintro e w'' ⟨rfl, hk⟩))
  rename_i hH
  have K4 := Lib.hid hH.2
  clear hH
  all_goals
    go_wp2_with fail
    go_ret
    exact ⟨rfl, K4.out⟩
set_option maxRecDepth 100000 in
set_option maxHeartbeats 8000000 in
theorem way5_2 {tw : Bool} {x a b : Nd} (hrk : x.rk = 2) (hi : x.l.items = [a, b]) (ga : ExprOk tw a) (gb : ExprOk tw b) (la : a.sh.length ≤ 35184372088832) (lb : b.sh.length ≤ 35184372088832) (ht : x.text.length ≤ 1048576) :
    WayOk 55 tw x (inx a.rk 2 a.sh ++ [32] ++ x.text ++ [32] ++ inx b.rk 3 b.sh) := by
  intro w B bx a1 c1 a2 c2 a3 c3 h
  obtain ⟨q0, q1, q2, q3, q4, _, _, _, _, _⟩ := row5 h.row
  have hlen2 : x.l.items.length = 2 := by rw [hi]; rfl
  obtain ⟨b0, o0, z1, y1, z2, y2, z3, y3, rfl, _, hcA, hnA⟩ := h.child 0 (by omega)
  obtain ⟨b0', o0', u1, v1, u2, v2, u3, v3, heq, _, hcB, hnB⟩ := h.child 1 (by omega)
  cases heq
  have ha : x.l.items[0]'(by omega) = a := by simp [hi]
  have hb' : x.l.items[1]'(by omega) = b := by simp [hi]
  rw [ha] at hcA hnA
  rw [hb'] at hcB hnB
  have hl2 : x.l.len = 2 := hlen2
  rw [hl2] at q2
  have H := Lib.hid (And.intro h (And.intro hnA hnB))
  have hnv := h.nv
  rw [hl2] at hnv
  have HNV := Lib.hid hnv
  have HL2 := Lib.hid hl2
  have HC := Lib.hid (fun (w' : World) (hb : Below w.heap.size w w') => And.intro (row5 (h.later hb).row) (And.intro (hcA w' hb) (hcB w' hb)))
  have HX := Lib.hid (And.intro ga (And.intro gb (And.intro la (And.intro lb ht))))
  clear hcA hcB hnA hnB ga gb la lb ht ha hb' hlen2 hnv hl2
  have HRK := Lib.hid hrk
  obtain ⟨r, hr⟩ : ∃ r, r = inx a.rk 2 a.sh ++ [32] ++ x.text ++ [32] ++ inx b.rk 3 b.sh := ⟨_, rfl⟩
  rw [← hr]
  have HR := Lib.hid hr
  clear h hr hrk hi
  go_enter Tryd.func55, Tryd.ntmps55
  go_wp2_with fail
  refine (rank_s HNV.out).mono ?_
  rintro e w1 ⟨rfl, hb⟩
  rw [HRK.out]
  have K1 := Lib.hid hb
  clear hb q0 q1 q2 q3 q4
  obtain ⟨⟨q0, q1, q2, q3, q4, _, _, _, _, _⟩, ⟨d0, d1, d2, d3, d4⟩, ⟨e0, e1, e2, e3, e4⟩⟩ := HC.out w1 K1.out
  rw [HL2.out] at q2
  simp only [Nat.zero_mul, Nat.one_mul, Nat.add_zero] at d0 d1 d2 d3 d4 e0 e1 e2 e3 e4
  go_upto_region 4 with fail
  have KS := Lib.hid (fun (w' : World) (hb : Below w.heap.size w w') => (show (w'.cell? ⟨bx, 1, none⟩ = some (.string (tx x.text)) ∧ w'.cell? ⟨bx, 2, none⟩ = some (.slice (some ⟨b0, o0, none⟩) 2 c1)) ∧ (w'.cell? ⟨b0, o0, none⟩ = some (.int .u8 (a.kind : Int)) ∧ w'.cell? ⟨b0, o0 + 1, none⟩ = some (.string (tx a.text)) ∧ w'.cell? ⟨b0, o0 + 2, none⟩ = some (.slice z1 a.l.len y1) ∧ w'.cell? ⟨b0, o0 + 3, none⟩ = some (.slice z2 a.body.len y2) ∧ w'.cell? ⟨b0, o0 + 4, none⟩ = some (.slice z3 a.els.len y3)) ∧ (w'.cell? ⟨b0, o0 + 5, none⟩ = some (.int .u8 (b.kind : Int)) ∧ w'.cell? ⟨b0, o0 + 5 + 1, none⟩ = some (.string (tx b.text)) ∧ w'.cell? ⟨b0, o0 + 5 + 2, none⟩ = some (.slice u1 b.l.len v1) ∧ w'.cell? ⟨b0, o0 + 5 + 3, none⟩ = some (.slice u2 b.body.len v2) ∧ w'.cell? ⟨b0, o0 + 5 + 4, none⟩ = some (.slice u3 b.els.len v3)) from by
    obtain ⟨⟨_, p1, p2, _, _, _, _, _, _, _⟩, f, g⟩ := HC.out w' hb
    rw [HL2.out] at p2
    simp only [Nat.zero_mul, Nat.one_mul, Nat.add_zero] at f g
    exact ⟨⟨p1, p2⟩, f, g⟩))
  go_region_held3 (fun w' => ((w'.cell? ⟨bx, 1, none⟩ = some (.string (tx x.text)) ∧ w'.cell? ⟨bx, 2, none⟩ = some (.slice (some ⟨b0, o0, none⟩) 2 c1)) ∧ (w'.cell? ⟨b0, o0, none⟩ = some (.int .u8 (a.kind : Int)) ∧ w'.cell? ⟨b0, o0 + 1, none⟩ = some (.string (tx a.text)) ∧ w'.cell? ⟨b0, o0 + 2, none⟩ = some (.slice z1 a.l.len y1) ∧ w'.cell? ⟨b0, o0 + 3, none⟩ = some (.slice z2 a.body.len y2) ∧ w'.cell? ⟨b0, o0 + 4, none⟩ = some (.slice z3 a.els.len y3)) ∧ (w'.cell? ⟨b0, o0 + 5, none⟩ = some (.int .u8 (b.kind : Int)) ∧ w'.cell? ⟨b0, o0 + 5 + 1, none⟩ = some (.string (tx b.text)) ∧ w'.cell? ⟨b0, o0 + 5 + 2, none⟩ = some (.slice u1 b.l.len v1) ∧ w'.cell? ⟨b0, o0 + 5 + 3, none⟩ = some (.slice u2 b.body.len v2) ∧ w'.cell? ⟨b0, o0 + 5 + 4, none⟩ = some (.slice u3 b.els.len v3))) ∧ Below w.heap.size w w')
    (first | assumption | exact ⟨KS.out _ K1.out.drew, K1.out.drew⟩ | exact ⟨KS.out _ (keepW (by assumption) (by assumption)), keepW (by assumption) (by assumption)⟩ | exact ⟨KS.out _ (keepO _ (by assumption)), keepO _ (by assumption)⟩)
    (first
      | (go_at_call_of 53 (Value.agg #[.int .u8 (a.kind : Int), .string (tx a.text), .slice z1 a.l.len y1, .slice z2 a.body.len y2, .slice z3 a.els.len y3]); refine (inS H.out.1 HX.out.1 HX.out.2.2.1 H.out.2.1 (by assumption) 2 (by decide)).mono ?_; rintro e w'' ⟨rfl, hk⟩)
      | (go_at_call_of 53 (Value.agg #[.int .u8 (b.kind : Int), .string (tx b.text), .slice u1 b.l.len v1, .slice u2 b.body.len v2, .slice u3 b.els.len v3]); refine (inS H.out.1 HX.out.2.1 HX.out.2.2.2.1 H.out.2.2 (by assumption) 3 (by decide)).mono ?_; rintro e w'' ⟨rfl, hk⟩)
      | (go_at_call 19; refine (joined_t (T := 9) [inx a.rk 2 a.sh, [32], x.text, [32], inx b.rk 3 b.sh] (heap_alloc_new _ _) (by simp) (n := 5) rfl (by have := HX.out.2; have := inx_len a.rk 2 a.sh; have := inx_len b.rk 3 b.sh; simp; omega) (r := r) (by rw [HR.out]; simp)).mono ?_; rintro e w'' ⟨rfl, hk⟩))
  rename_i hH
  have K4 := Lib.hid hH.2
  clear hH
  all_goals
    go_wp2_with fail
    go_ret
    exact ⟨rfl, K4.out⟩
set_option maxRecDepth 100000 in
set_option maxHeartbeats 8000000 in
theorem way5_3 {tw : Bool} {x a b : Nd} (hrk : x.rk = 3) (hi : x.l.items = [a, b]) (ga : ExprOk tw a) (gb : ExprOk tw b) (la : a.sh.length ≤ 35184372088832) (lb : b.sh.length ≤ 35184372088832) (ht : x.text.length ≤ 1048576) :
    WayOk 55 tw x (inx a.rk 3 a.sh ++ [32] ++ x.text ++ [32] ++ inx b.rk 4 b.sh) := by
  intro w B bx a1 c1 a2 c2 a3 c3 h
  obtain ⟨q0, q1, q2, q3, q4, _, _, _, _, _⟩ := row5 h.row
  have hlen2 : x.l.items.length = 2 := by rw [hi]; rfl
  obtain ⟨b0, o0, z1, y1, z2, y2, z3, y3, rfl, _, hcA, hnA⟩ := h.child 0 (by omega)
  obtain ⟨b0', o0', u1, v1, u2, v2, u3, v3, heq, _, hcB, hnB⟩ := h.child 1 (by omega)
  cases heq
  have ha : x.l.items[0]'(by omega) = a := by simp [hi]
  have hb' : x.l.items[1]'(by omega) = b := by simp [hi]
  rw [ha] at hcA hnA
  rw [hb'] at hcB hnB
  have hl2 : x.l.len = 2 := hlen2
  rw [hl2] at q2
  have H := Lib.hid (And.intro h (And.intro hnA hnB))
  have hnv := h.nv
  rw [hl2] at hnv
  have HNV := Lib.hid hnv
  have HL2 := Lib.hid hl2
  have HC := Lib.hid (fun (w' : World) (hb : Below w.heap.size w w') => And.intro (row5 (h.later hb).row) (And.intro (hcA w' hb) (hcB w' hb)))
  have HX := Lib.hid (And.intro ga (And.intro gb (And.intro la (And.intro lb ht))))
  clear hcA hcB hnA hnB ga gb la lb ht ha hb' hlen2 hnv hl2
  have HRK := Lib.hid hrk
  obtain ⟨r, hr⟩ : ∃ r, r = inx a.rk 3 a.sh ++ [32] ++ x.text ++ [32] ++ inx b.rk 4 b.sh := ⟨_, rfl⟩
  rw [← hr]
  have HR := Lib.hid hr
  clear h hr hrk hi
  go_enter Tryd.func55, Tryd.ntmps55
  go_wp2_with fail
  refine (rank_s HNV.out).mono ?_
  rintro e w1 ⟨rfl, hb⟩
  rw [HRK.out]
  have K1 := Lib.hid hb
  clear hb q0 q1 q2 q3 q4
  obtain ⟨⟨q0, q1, q2, q3, q4, _, _, _, _, _⟩, ⟨d0, d1, d2, d3, d4⟩, ⟨e0, e1, e2, e3, e4⟩⟩ := HC.out w1 K1.out
  rw [HL2.out] at q2
  simp only [Nat.zero_mul, Nat.one_mul, Nat.add_zero] at d0 d1 d2 d3 d4 e0 e1 e2 e3 e4
  go_upto_region 4 with fail
  have KS := Lib.hid (fun (w' : World) (hb : Below w.heap.size w w') => (show (w'.cell? ⟨bx, 1, none⟩ = some (.string (tx x.text)) ∧ w'.cell? ⟨bx, 2, none⟩ = some (.slice (some ⟨b0, o0, none⟩) 2 c1)) ∧ (w'.cell? ⟨b0, o0, none⟩ = some (.int .u8 (a.kind : Int)) ∧ w'.cell? ⟨b0, o0 + 1, none⟩ = some (.string (tx a.text)) ∧ w'.cell? ⟨b0, o0 + 2, none⟩ = some (.slice z1 a.l.len y1) ∧ w'.cell? ⟨b0, o0 + 3, none⟩ = some (.slice z2 a.body.len y2) ∧ w'.cell? ⟨b0, o0 + 4, none⟩ = some (.slice z3 a.els.len y3)) ∧ (w'.cell? ⟨b0, o0 + 5, none⟩ = some (.int .u8 (b.kind : Int)) ∧ w'.cell? ⟨b0, o0 + 5 + 1, none⟩ = some (.string (tx b.text)) ∧ w'.cell? ⟨b0, o0 + 5 + 2, none⟩ = some (.slice u1 b.l.len v1) ∧ w'.cell? ⟨b0, o0 + 5 + 3, none⟩ = some (.slice u2 b.body.len v2) ∧ w'.cell? ⟨b0, o0 + 5 + 4, none⟩ = some (.slice u3 b.els.len v3)) from by
    obtain ⟨⟨_, p1, p2, _, _, _, _, _, _, _⟩, f, g⟩ := HC.out w' hb
    rw [HL2.out] at p2
    simp only [Nat.zero_mul, Nat.one_mul, Nat.add_zero] at f g
    exact ⟨⟨p1, p2⟩, f, g⟩))
  go_region_held3 (fun w' => ((w'.cell? ⟨bx, 1, none⟩ = some (.string (tx x.text)) ∧ w'.cell? ⟨bx, 2, none⟩ = some (.slice (some ⟨b0, o0, none⟩) 2 c1)) ∧ (w'.cell? ⟨b0, o0, none⟩ = some (.int .u8 (a.kind : Int)) ∧ w'.cell? ⟨b0, o0 + 1, none⟩ = some (.string (tx a.text)) ∧ w'.cell? ⟨b0, o0 + 2, none⟩ = some (.slice z1 a.l.len y1) ∧ w'.cell? ⟨b0, o0 + 3, none⟩ = some (.slice z2 a.body.len y2) ∧ w'.cell? ⟨b0, o0 + 4, none⟩ = some (.slice z3 a.els.len y3)) ∧ (w'.cell? ⟨b0, o0 + 5, none⟩ = some (.int .u8 (b.kind : Int)) ∧ w'.cell? ⟨b0, o0 + 5 + 1, none⟩ = some (.string (tx b.text)) ∧ w'.cell? ⟨b0, o0 + 5 + 2, none⟩ = some (.slice u1 b.l.len v1) ∧ w'.cell? ⟨b0, o0 + 5 + 3, none⟩ = some (.slice u2 b.body.len v2) ∧ w'.cell? ⟨b0, o0 + 5 + 4, none⟩ = some (.slice u3 b.els.len v3))) ∧ Below w.heap.size w w')
    (first | assumption | exact ⟨KS.out _ K1.out.drew, K1.out.drew⟩ | exact ⟨KS.out _ (keepW (by assumption) (by assumption)), keepW (by assumption) (by assumption)⟩ | exact ⟨KS.out _ (keepO _ (by assumption)), keepO _ (by assumption)⟩)
    (first
      | (go_at_call_of 53 (Value.agg #[.int .u8 (a.kind : Int), .string (tx a.text), .slice z1 a.l.len y1, .slice z2 a.body.len y2, .slice z3 a.els.len y3]); refine (inS H.out.1 HX.out.1 HX.out.2.2.1 H.out.2.1 (by assumption) 3 (by decide)).mono ?_; rintro e w'' ⟨rfl, hk⟩)
      | (go_at_call_of 53 (Value.agg #[.int .u8 (b.kind : Int), .string (tx b.text), .slice u1 b.l.len v1, .slice u2 b.body.len v2, .slice u3 b.els.len v3]); refine (inS H.out.1 HX.out.2.1 HX.out.2.2.2.1 H.out.2.2 (by assumption) 4 (by decide)).mono ?_; rintro e w'' ⟨rfl, hk⟩)
      | (go_at_call 19; refine (joined_t (T := 9) [inx a.rk 3 a.sh, [32], x.text, [32], inx b.rk 4 b.sh] (heap_alloc_new _ _) (by simp) (n := 5) rfl (by have := HX.out.2; have := inx_len a.rk 3 a.sh; have := inx_len b.rk 4 b.sh; simp; omega) (r := r) (by rw [HR.out]; simp)).mono ?_; rintro e w'' ⟨rfl, hk⟩))
  rename_i hH
  have K4 := Lib.hid hH.2
  clear hH
  all_goals
    go_wp2_with fail
    go_ret
    exact ⟨rfl, K4.out⟩
end Go.Proofs.YtobpnjnfpgcpaaaDoor

/- Shows: the text of an expression. -/
namespace Go.Proofs.YtobpnjnfpgcpaaaDoor
open Go.RowKit Go.My Go.Nd Go.Maps

/-- 'm[k]' of a map with keys of an integer kind. -/
theorem mapIs_at {P : Program} {k : TypeId} {q : IntKind} {w : World} {b n : Nat} {f : Int → Option Value} {t e : TypeId} (h : MapIs P k q w b n f) (hk : P.underlying k = some (.int q)) (ht : P.underlying t = some (.map k e)) {z : Value} (hz : (zeroValue e).run P w = .ok z w) {i : Int} (hi : (Lit.int q i).wf = true) :
    (Instr.lookup t (.map (some b)) (.int q i) false).run P w = .ok ((f i).getD z) w := by
  obtain ⟨D, h, hm, hf⟩ := h
  obtain ⟨h1, h2⟩ := hf i hi
  obtain ⟨v, ps, hrun, hv⟩ := h.lookup (R := selfElem) (int_keyed hk) ht hz (zd := .held z) (zp := []) rfl (keyOf_int_mk hk hi)
  cases hu : f i with
  | some u =>
    rw [h2 u hu] at hv
    simp only [selfElem, Option.some.injEq, Prod.mk.injEq, DataW.held.injEq] at hv
    rw [hv.1] at hrun
    exact hrun
  | none =>
    rw [atKey_of_not_has (by rw [h1, hu]; rfl)] at hv
    simp only [selfElem, Option.some.injEq, Prod.mk.injEq, DataW.held.injEq] at hv
    rw [hv.1] at hrun
    exact hrun

/-- A way of writing, the node in block bw. -/
def wayFn (bw : Nat) (f : FuncId) : Value := .func (.func f) #[] #[.pointer (some ⟨bw, 0, none⟩)]
def waysF (bw : Nat) (i : Int) : Option Value :=
  if i = 5 then some (wayFn bw 55) else if i = 7 then some (wayFn bw 54) else if i = 6 then some (wayFn bw 52) else if i = 4 then some (wayFn bw 51) else if i = 3 then some (wayFn bw 49) else none
theorem ways_built (wA : World) (bw : Nat) : ∃ w1 w2 w3 w4 w5,
    (Instr.mapUpdate 56 (.map (some wA.heap.size)) (.int .u8 3) (wayFn bw 49)).run Tryd.prog (wA.alloc (.map #[] 0)) = .ok () w1 ∧
    (Instr.mapUpdate 56 (.map (some wA.heap.size)) (.int .u8 4) (wayFn bw 51)).run Tryd.prog w1 = .ok () w2 ∧
    (Instr.mapUpdate 56 (.map (some wA.heap.size)) (.int .u8 6) (wayFn bw 52)).run Tryd.prog w2 = .ok () w3 ∧
    (Instr.mapUpdate 56 (.map (some wA.heap.size)) (.int .u8 7) (wayFn bw 54)).run Tryd.prog w3 = .ok () w4 ∧
    (Instr.mapUpdate 56 (.map (some wA.heap.size)) (.int .u8 5) (wayFn bw 55)).run Tryd.prog w4 = .ok () w5 ∧
    MapIs Tryd.prog 22 .u8 w5 wA.heap.size 5 (waysF bw) ∧ Below wA.heap.size wA w5 := by
  have m0 := MapIs.made wA Tryd.prog 22 .u8
  have hA : Below wA.heap.size wA (wA.alloc (.map #[] 0)) := Below.alloc (Below.refl _ wA) (Nat.le_refl _) _
  have ht : Tryd.prog.underlying 56 = some (.map 22 55) := Tryd.underlying56
  have gb : ∀ {w w1 w2 : World} {b : Nat}, Below wA.heap.size wA w1 → w1.grownBy w2 (some b) → wA.heap.size ≤ b → Below wA.heap.size wA w2 := fun hb hg h =>
    Below.grown hb hg (Nat.le_trans (Nat.le_refl _) hb.size) (fun k e => by cases e; exact h)
  obtain ⟨w1, r1, m1, g1⟩ := m0.store Tryd.underlying22 ht (by decide) (i := 3) (by decide) (wayFn bw 49)
  obtain ⟨w2, r2, m2, g2⟩ := m1.store Tryd.underlying22 ht (by decide) (i := 4) (by decide) (wayFn bw 51)
  obtain ⟨w3, r3, m3, g3⟩ := m2.store Tryd.underlying22 ht (by decide) (i := 6) (by decide) (wayFn bw 52)
  obtain ⟨w4, r4, m4, g4⟩ := m3.store Tryd.underlying22 ht (by decide) (i := 7) (by decide) (wayFn bw 54)
  obtain ⟨w5, r5, m5, g5⟩ := m4.store Tryd.underlying22 ht (by decide) (i := 5) (by decide) (wayFn bw 55)
  refine ⟨w1, w2, w3, w4, w5, r1, r2, r3, r4, r5, m5.mono (by decide), ?_⟩
  have b1 := gb (w := wA) hA g1 (Nat.le_refl _)
  have b2 := gb (w := wA) b1 g2 (Nat.le_refl _)
  have b3 := gb (w := wA) b2 g3 (Nat.le_refl _)
  have b4 := gb (w := wA) b3 g4 (Nat.le_refl _)
  exact gb (w := wA) b4 g5 (Nat.le_refl _)

set_option maxRecDepth 100000 in
set_option maxHeartbeats 4000000 in
theorem ways_t {tw : Bool} {w : World} {B : Nat} {x : Nd} {a1 a2 a3 : Option Addr} {c1 c2 c3 : Nat} (hB : B ≤ w.heap.size)
    (h : NV tw w B (.agg #[.int .u8 (x.kind : Int), .string (tx x.text), .slice a1 x.l.len c1, .slice a2 x.body.len c2, .slice a3 x.els.len c3]) x) {Q : Ending → World → Prop}
    (hQ : ∀ bw mb w', Below w.heap.size w w' → BxIs tw w' B bw x a1 c1 a2 c2 a3 c3 → MapIs Tryd.prog 22 .u8 w' mb 5 (waysF bw) → Q (.returned (.map (some mb))) w') :
    Calls Tryd.prog 28 #[.agg #[.int .u8 (x.kind : Int), .string (tx x.text), .slice a1 x.l.len c1, .slice a2 x.body.len c2, .slice a3 x.els.len c3]] w Q := by
  obtain ⟨a1', c1', a2', c2', a3', c3', he, hk, ht, n1, n2, n3⟩ := h
  simp only [Value.agg.injEq, Array.mk.injEq, List.cons.injEq, Value.slice.injEq, true_and, and_true] at he
  obtain ⟨⟨rfl, rfl⟩, ⟨rfl, rfl⟩, rfl, rfl⟩ := he
  obtain ⟨hA, hn, hz⟩ := Put.new w #[.int .u8 (x.kind : Int), .string (tx x.text), .slice a1 x.l.len c1, .slice a2 x.body.len c2, .slice a3 x.els.len c3] 25
  obtain ⟨bx, hbx⟩ : ∃ bx, bx = w.heap.size := ⟨_, rfl⟩
  obtain ⟨w0, hw0⟩ : ∃ w0, w0 = w.alloc (.cells #[.int .u8 (x.kind : Int), .string (tx x.text), .slice a1 x.l.len c1, .slice a2 x.body.len c2, .slice a3 x.els.len c3] 25) := ⟨_, rfl⟩
  rw [← hw0] at hA hn hz
  rw [← hbx] at hn
  have hm := hA.mono hB
  have hbox : BxIs tw w0 B bx x a1 c1 a2 c2 a3 c3 := ⟨hn, hk, ht, n1.below hm, n2.below hm, n3.below hm, Nat.le_trans hB hA.size⟩
  obtain ⟨w1, w2, w3, w4, w5, r1, r2, r3, r4, r5, hM, hb5⟩ := ways_built w0 bx
  obtain ⟨mb, hmb⟩ : ∃ mb, mb = w0.heap.size := ⟨_, rfl⟩
  rw [← hmb] at r1 r2 r3 r4 r5
  unfold wayFn at r1 r2 r3 r4 r5
  have hmk : (Instr.makeMap 56 none).run Tryd.prog w0 = .ok (.map (some mb)) (w0.alloc (.map #[] 0)) := by rw [hmb]; rfl
  have X := Lib.hid (hQ bx mb w5 (hA.trans (hb5.mono hA.size)) (hbox.later hb5) (hmb ▸ hM))
  clear hA hn hz hM hb5 hmb hm hbox n1 n2 n3 hB hk ht hQ
  go_enter Tryd.func28, Tryd.ntmps28
  go_upto_region 1 with fail
  rw [← hbx, ← hw0]
  clear hbx hw0
  go_wp2_with fail
  exact X.out

theorem wf_u8 {k : Nat} (h : k < 256) : (Lit.int .u8 (k : Int)).wf = true := by simp [Lit.wf, IntKind.min, IntKind.max, IntKind.signed, IntKind.bits]; omega
theorem fs_neq (f : Fn) (a b : Array Value) (w : World) : (binOp .neq 55 (.func f a b) .nilFunc).run Tryd.prog w = .ok (.bool true) w := by kernel_rfl
theorem ns_neq (w : World) : (binOp .neq 55 .nilFunc .nilFunc).run Tryd.prog w = .ok (.bool false) w := by kernel_rfl

set_option maxRecDepth 100000 in
set_option maxHeartbeats 8000000 in
/-- An expression that has a way of its own. -/
theorem expr_way {tw : Bool} {x : Nd} {f : FuncId} (hf : ∀ bw, waysF bw (x.kind : Int) = some (wayFn bw f)) (hcf : ∀ (bw : Nat) (wx : World), (callFunc f #[.pointer (some ⟨bw, 0, none⟩)]).run Tryd.prog wx = .ok (.enter f #[.pointer (some ⟨bw, 0, none⟩)]) wx) (hway : WayOk f tw x x.sh) : ExprOk tw x := by
  intro w B v hB h
  have hv := h
  obtain ⟨a1, c1, a2, c2, a3, c3, rfl, hk, ht, _, _, _⟩ := h
  obtain ⟨hA, hn, hz⟩ := Put.new w #[.int .u8 (x.kind : Int), .string (tx x.text), .slice a1 x.l.len c1, .slice a2 x.body.len c2, .slice a3 x.els.len c3] 25
  obtain ⟨bx, hbx⟩ : ∃ bx, bx = w.heap.size := ⟨_, rfl⟩
  obtain ⟨w0, hw0⟩ : ∃ w0, w0 = w.alloc (.cells #[.int .u8 (x.kind : Int), .string (tx x.text), .slice a1 x.l.len c1, .slice a2 x.body.len c2, .slice a3 x.els.len c3] 25) := ⟨_, rfl⟩
  rw [← hw0] at hA hn hz
  rw [← hbx] at hn
  obtain ⟨q0, q1, q2, q3, q4, _, _, _, _, _⟩ := row5 hn
  have X := Lib.hid (And.intro hA (And.intro hn (And.intro (hv.below (hA.mono hB)) (Nat.le_trans hB hA.size))))
  have HF := Lib.hid (And.intro hf (And.intro hway hk))
  clear hA hn hz hv hB hf hway hk ht
  go_enter Tryd.func15, Tryd.ntmps15
  go_upto_region 1 with fail
  rw [← hbx, ← hw0]
  clear hbx hw0
  go_region_law (first
    | ((try go_simp); go_at_call 28; refine ways_t (w := w0.drew) (B := B) X.out.2.2.2 (X.out.2.2.1.below ((Below.refl w0.heap.size w0).drew.mono X.out.2.2.2)) fun bw mb w1 hb hbw hM => ?_; have K1 := Lib.hid (And.intro ((Below.refl w0.heap.size w0).drew.trans hb) hbw); have p0 := (row5 ((hb.block bx (Array.getElem?_eq_some_iff.1 X.out.2.1).1).trans X.out.2.1)).1; have hlk := mapIs_at hM Tryd.underlying22 Tryd.underlying56 (z := .nilFunc) (by kernel_rfl) (i := (x.kind : Int)) (wf_u8 HF.out.2.2); rw [HF.out.1 bw] at hlk; unfold wayFn at hlk; simp only [Option.getD_some] at hlk; clear hb hbw hM))
  all_goals
    have hne := fs_neq (.func f) #[] #[.pointer (some ⟨bw, 0, none⟩)] w1
    have hc2 := hcf bw
    go_wp2_with fail
    refine (HF.out.2.1 w1 B bw a1 c1 a2 c2 a3 c3 K1.out.2).mono ?_
    rintro e w2 ⟨rfl, hb⟩
    have K2 := Lib.hid (X.out.1.trans ((K1.out.1.trans (hb.mono K1.out.1.size)).mono X.out.1.size))
    clear hb hlk hne hc2
    go_wp2_with fail
    go_ret
    exact ⟨rfl, K2.out⟩
set_option maxRecDepth 100000 in
set_option maxHeartbeats 8000000 in
/-- An expression that is its text. -/
theorem expr_text {tw : Bool} {x : Nd} (hf : ∀ bw, waysF bw (x.kind : Int) = none) (hway : x.sh = x.text) : ExprOk tw x := by
  intro w B v hB h
  have hv := h
  obtain ⟨a1, c1, a2, c2, a3, c3, rfl, hk, ht, _, _, _⟩ := h
  obtain ⟨hA, hn, hz⟩ := Put.new w #[.int .u8 (x.kind : Int), .string (tx x.text), .slice a1 x.l.len c1, .slice a2 x.body.len c2, .slice a3 x.els.len c3] 25
  obtain ⟨bx, hbx⟩ : ∃ bx, bx = w.heap.size := ⟨_, rfl⟩
  obtain ⟨w0, hw0⟩ : ∃ w0, w0 = w.alloc (.cells #[.int .u8 (x.kind : Int), .string (tx x.text), .slice a1 x.l.len c1, .slice a2 x.body.len c2, .slice a3 x.els.len c3] 25) := ⟨_, rfl⟩
  rw [← hw0] at hA hn hz
  rw [← hbx] at hn
  obtain ⟨q0, q1, q2, q3, q4, _, _, _, _, _⟩ := row5 hn
  have X := Lib.hid (And.intro hA (And.intro hn (And.intro (hv.below (hA.mono hB)) (Nat.le_trans hB hA.size))))
  have HF := Lib.hid (And.intro hf (And.intro hway hk))
  clear hA hn hz hv hB hf hway hk ht
  go_enter Tryd.func15, Tryd.ntmps15
  go_upto_region 1 with fail
  rw [← hbx, ← hw0]
  clear hbx hw0
  go_region_law (first
    | ((try go_simp); go_at_call 28; refine ways_t (w := w0.drew) (B := B) X.out.2.2.2 (X.out.2.2.1.below ((Below.refl w0.heap.size w0).drew.mono X.out.2.2.2)) fun bw mb w1 hb hbw hM => ?_; have K1 := Lib.hid (And.intro ((Below.refl w0.heap.size w0).drew.trans hb) hbw); have p0 := (row5 ((hb.block bx (Array.getElem?_eq_some_iff.1 X.out.2.1).1).trans X.out.2.1)).1; have hlk := mapIs_at hM Tryd.underlying22 Tryd.underlying56 (z := .nilFunc) (by kernel_rfl) (i := (x.kind : Int)) (wf_u8 HF.out.2.2); rw [HF.out.1 bw] at hlk; simp only [Option.getD_none] at hlk; have p1 := (row5 ((hb.block bx (Array.getElem?_eq_some_iff.1 X.out.2.1).1).trans X.out.2.1)).2.1; clear hb hbw hM))
  all_goals
    have hne := ns_neq w1
    have K2 := Lib.hid (X.out.1.trans (K1.out.1.mono X.out.1.size))
    clear hlk
    go_wp2_with fail
    go_ret
    exact ⟨by rw [HF.out.2.1]; rfl, K2.out⟩

theorem nd_sh' (x : Nd) : x.sh = shOne x.kind x.text (x.l.items.map Nd.rk) (x.l.items.map Nd.sh) := by rw [← sh_items]; rfl
theorem item_sz : ∀ (xs : Ns) (y : Nd), y ∈ xs.items → 1 + y.text.length + y.l.sz + y.body.sz + y.els.sz ≤ xs.sz := by
  intro xs
  induction xs with
  | nil => intro y h; cases h
  | cons k t l b e r _ _ _ ir =>
    intro y h
    show _ ≤ 1 + t.length + l.sz + b.sz + e.sz + r.sz
    rcases List.mem_cons.1 h with rfl | h
    · simp only; omega
    · have := ir y h; omega
theorem expr_one_ok {tw : Bool} (x : Nd) (hx : okx x = true) (hsz : 1 + x.text.length + x.l.sz ≤ 1048576) (ih : ∀ y ∈ x.l.items, ExprOk tw y) : ExprOk tw x := by
  have hlen : ∀ y ∈ x.l.items, y.sh.length ≤ 12 * 1048576 := fun y hy => by
    have h1 := nd_sh_len y
    have h2 := item_sz _ y hy
    omega
  have hsep : (sepx [44, 32] (x.l.items.map Nd.sh)).length ≤ 12 * 1048576 := by
    have h1 := sepx_len [44, 32] (by decide) (x.l.items.map Nd.sh)
    have h2 := sh_tot x.l
    rw [sh_items] at h2
    omega
  have hsh := nd_sh' x
  obtain ⟨k, t, l, b, e⟩ := x
  unfold okx at hx
  simp only [Bool.and_eq_true, beq_iff_eq] at hx hsz ih hlen hsep hsh
  obtain ⟨⟨⟨_, _⟩, hl⟩, hh⟩ := hx
  have hcf : ∀ f, (∀ (bw : Nat) (wx : World), (callFunc f #[.pointer (some ⟨bw, 0, none⟩)]).run Tryd.prog wx = .ok (.enter f #[.pointer (some ⟨bw, 0, none⟩)]) wx) → ∀ (bw : Nat) (wx : World), (callFunc f #[.pointer (some ⟨bw, 0, none⟩)]).run Tryd.prog wx = .ok (.enter f #[.pointer (some ⟨bw, 0, none⟩)]) wx := fun _ h => h
  unfold head at hh
  by_cases k1 : k = 1
  · subst k1
    exact expr_text (fun bw => by unfold waysF; simp) hsh
  · rw [if_neg k1] at hh
    by_cases k2 : k = 2
    · subst k2
      exact expr_text (fun bw => by unfold waysF; simp) hsh
    · rw [if_neg k2] at hh
      by_cases k3 : k = 3
      · subst k3
        refine expr_way (f := 49) (fun bw => by unfold waysF; simp) (fun bw wx => by kernel_rfl) ?_
        rw [hsh]
        exact way1 ih (by simp only; omega)
      · rw [if_neg k3] at hh
        by_cases k4 : k = 4
        · subst k4
          refine expr_way (f := 51) (fun bw => by unfold waysF; simp) (fun bw wx => by kernel_rfl) ?_
          rw [hsh]
          exact way2 ih (by simp only; omega) (by simp only; omega)
        · rw [if_neg k4] at hh
          by_cases k67 : k = 6 ∨ k = 7
          · rw [if_pos k67] at hh
            simp only [Bool.and_eq_true, beq_iff_eq, List.isEmpty_iff] at hh
            obtain ⟨h1, rfl⟩ := hh
            obtain ⟨a, rfl⟩ := one_of h1
            have hia : (Ns.of [a]).items = [a] := Ns.items_of _
            have ga := ih a (by rw [hia]; simp)
            have la := hlen a (by rw [hia]; simp)
            rw [hia] at hsh
            rcases k67 with rfl | rfl
            · refine expr_way (f := 52) (fun bw => by unfold waysF; simp) (fun bw wx => by kernel_rfl) ?_
              rw [hsh]
              exact way3 hia ga (by omega)
            · refine expr_way (f := 54) (fun bw => by unfold waysF; simp) (fun bw wx => by kernel_rfl) ?_
              rw [hsh]
              exact way4 hia ga (by omega)
          · rw [if_neg k67] at hh
            by_cases k5 : k = 5
            · subst k5
              rw [if_pos rfl] at hh
              refine expr_way (f := 55) (fun bw => by unfold waysF; simp) (fun bw wx => by kernel_rfl) ?_
              by_cases ht : t = [94]
              · subst ht
                rw [if_pos rfl] at hh
                obtain ⟨a, b, rfl, _⟩ := raised_two hh
                have hia : (Ns.of [a, b]).items = [a, b] := Ns.items_of _
                rw [hia] at hsh
                rw [hsh]
                exact way5_pow rfl rfl hia (ih a (by rw [hia]; simp)) (ih b (by rw [hia]; simp)) (by have := hlen a (by rw [hia]; simp); omega) (by have := hlen b (by rw [hia]; simp); omega) (by simp)
              · rw [if_neg ht] at hh
                simp only [Bool.and_eq_true, beq_iff_eq] at hh
                obtain ⟨h2, _⟩ := hh
                obtain ⟨a, b, rfl⟩ := two_of h2
                have hia : (Ns.of [a, b]).items = [a, b] := Ns.items_of _
                rw [hia] at hsh
                have ga := ih a (by rw [hia]; simp)
                have gb := ih b (by rw [hia]; simp)
                have la := hlen a (by rw [hia]; simp)
                have lb := hlen b (by rw [hia]; simp)
                have hs2 : shOne 5 t ([a, b].map Nd.rk) ([a, b].map Nd.sh) = inx a.rk (max (rkx 5 t) 2) a.sh ++ [32] ++ t ++ [32] ++ inx b.rk (rkx 5 t + 1) b.sh := by
                  unfold shOne
                  simp only [Nat.reduceEqDiff, if_false, if_true]
                  rw [if_neg ht]; rfl
                have hsh2 := hsh.trans hs2
                have hr : rkx 5 t = 1 ∨ rkx 5 t = 2 ∨ rkx 5 t = 3 := by unfold rkx; rw [if_neg (by decide), if_pos rfl, if_neg ht]; (repeat' split) <;> simp
                rcases hr with hr | hr | hr
                all_goals
                  rw [hsh2, hr]
                · exact way5_1 hr hia ga gb (by omega) (by omega) (by simp only; omega)
                · exact way5_2 hr hia ga gb (by omega) (by omega) (by simp only; omega)
                · exact way5_3 hr hia ga gb (by omega) (by omega) (by simp only; omega)
            · rw [if_neg k5] at hh; cases hh
theorem expr_all_ok (tw : Bool) : ∀ xs : Ns, xs.sz ≤ 1048576 → ∀ x ∈ xs.items, okx x = true → ExprOk tw x := by
  intro xs
  induction xs with
  | nil => intro _ x hx; cases hx
  | cons k t l b e r il _ _ ir =>
    intro hs x hx ho
    have hs' : 1 + t.length + l.sz + b.sz + e.sz + r.sz ≤ 1048576 := hs
    rcases List.mem_cons.1 hx with rfl | hx
    · refine expr_one_ok _ ho (by simp only; omega) fun y hy => il (by omega) y hy ?_
      unfold okx at ho
      simp only [Bool.and_eq_true] at ho
      have := ho.1.2
      rw [exprs_items] at this
      exact List.all_eq_true.1 this y hy
    · exact ir (by omega) x hx ho
theorem expr_ok (tw : Bool) (x : Nd) (h : okx x = true) (hs : 1 + x.text.length + x.l.sz + x.body.sz + x.els.sz ≤ 1048576) : ExprOk tw x :=
  expr_all_ok tw (Ns.of [x]) (by show 1 + x.text.length + x.l.sz + x.body.sz + x.els.sz + 0 ≤ _; omega) x (by rw [Ns.items_of]; simp) h
end Go.Proofs.YtobpnjnfpgcpaaaDoor

/- Shows: what stands as statements is written so; a function's text. -/
namespace Go.Proofs.YtobpnjnfpgcpaaaDoor
open Go.RowKit Go.My Go.Nd

theorem stmts_items (inner : Bool) (xs : Ns) : stmts inner xs = xs.items.all (oks inner) := by
  induction xs with
  | nil => rfl
  | cons k t l b e r _ _ _ ih => show (_ && stmts inner r) = _; rw [ih]; rfl
theorem lines_ok {tw inner : Bool} : ∀ xs : Ns, xs.sz ≤ 1048576 → stmts inner xs = true → LinesOk tw xs := by
  refine Ns.each fun xs ih hs ho => lines_t fun x hx => ?_
  rw [stmts_items] at ho
  have hox := List.all_eq_true.1 ho x hx
  have hsz := sz_of_mem x hx
  unfold oks at hox
  simp only [Bool.and_eq_true, beq_iff_eq] at hox
  obtain ⟨⟨⟨⟨h1, h2⟩, h3⟩, h4⟩, _⟩ := hox
  obtain ⟨_, ib, ie⟩ := ih x hx
  refine ⟨?_, ib (by omega) h3, ie (by omega) h4⟩
  obtain ⟨y, hy⟩ : ∃ y, x.l.items = [y] := by
    have h1' : x.l.items.length = 1 := h1
    exact List.length_eq_one_iff.1 h1'
  refine ⟨y, hy, ?_⟩
  rw [exprs_items, hy] at h2
  have hsy := sz_of_mem (xs := x.l) y (by rw [hy]; simp)
  exact expr_ok tw y (by simpa using h2) (by omega)
end Go.Proofs.YtobpnjnfpgcpaaaDoor

/- Trees: is there one of a list of nodes for which a function says yes; is a number too long. -/
namespace Go.Proofs.YtobpnjnfpgcpaaaDoor
open Go.RowKit Go.My Go.Nd

/-- A function of a node, asked at any later world. -/
def Asked (tw : Bool) (B : Nat) (fn : FuncId) (p : Nd → Bool) (x : Nd) : Prop :=
  ∀ (w' : World) (a1 a2 a3 : Option Addr) (c1 c2 c3 : Nat), B ≤ w'.heap.size → Nodes w' (· < B) tw (.slice a1 x.l.len c1) x.l → Nodes w' (· < B) tw (.slice a2 x.body.len c2) x.body → Nodes w' (· < B) tw (.slice a3 x.els.len c3) x.els → x.kind < 256 → x.text.length ≤ 140737488351232 →
    Calls Tryd.prog fn #[.agg #[.int .u8 (x.kind : Int), .string (tx x.text), .slice a1 x.l.len c1, .slice a2 x.body.len c2, .slice a3 x.els.len c3]] w' fun e w'' => e = .returned (.bool (p x)) ∧ Below w'.heap.size w' w''

def IndexSaid (w : World) (b : Bool) (e : Ending) (w' : World) : Prop := ∃ n : Int, e = .returned (.int .i64 n) ∧ (decide (0 ≤ n)) = b ∧ Below w.heap.size w w'

def IndexAt (w : World) (xs : Ns) (p : Nd → Bool) (gk : Nat) (v8 : Value) (wr : World) : Prop :=
  ∃ i : Nat, i ≤ xs.items.length ∧ gk = xs.items.length - i ∧ v8 = .int .i64 (i : Int) ∧ (xs.items.drop i).any p = xs.items.any p ∧ Below w.heap.size w wr

set_option maxRecDepth 100000 in
set_option maxHeartbeats 4000000 in
theorem index_said {tw : Bool} {xs : Ns} {fn : Nat} {p : Nd → Bool} {w : World} {B : Nat} {v : Value} (hB : B ≤ w.heap.size) (hv : Nodes w (· < B) tw v xs) (hf : ∀ x ∈ xs.items, Asked tw B fn p x) (hcf : ∀ (args : Array Value) (wx : World), (callFunc fn args).run Tryd.prog wx = .ok (.enter fn args) wx) :
    Calls Tryd.prog 87 #[v, .func (.func fn) #[] #[]] w (IndexSaid w (xs.items.any p)) := by
  obtain ⟨a, c, rfl, hr, hc⟩ := hv.open_
  have HF := Lib.hid hf
  have HC := Lib.hid hc
  have l0 : (0 : Int) ≤ (xs.items.length : Int) := by omega
  have l1 : (xs.items.length : Int) ≤ 140737488351232 := by have := hr.2.2.1; omega
  clear hv hc hr hf
  go_enter Tryd.func87, Tryd.ntmps87
  go_wp2_with fail
  go_loopg [8] xs.items.length (fun gk v8 wr => IndexAt w xs p gk v8 wr)
  case atStart => exact ⟨0, Nat.zero_le _, rfl, rfl, rfl, Below.refl _ _⟩
  case round =>
    obtain ⟨i, hi, rfl, rfl, hd, hb⟩ := hrel
    have i0 : (0 : Int) ≤ (i : Int) := by omega
    by_cases hlt : i < xs.items.length
    · have i1 : (i : Int) < (xs.items.length : Int) := by omega
      obtain ⟨b, off, v1, v2, v3, rfl, hS, hN⟩ := HC.out i hlt
      have hN' := hN.frame hS fun k hk _ => hb.block k (Nat.lt_of_lt_of_le hk hB)
      obtain ⟨x, hx⟩ : ∃ x, x = xs.items[i] := ⟨_, rfl⟩
      rw [← hx] at hN'
      have hA := HF.out _ (List.getElem_mem hlt)
      rw [← hx] at hA
      have hdr := items_cons_drop xs i hlt
      rw [← hx] at hdr
      obtain ⟨kd, tt, xl, xb, xe⟩ := x
      have d0 := hN'.d0
      have d1 := hN'.d1
      have d2 := hN'.d2
      have d3 := hN'.d3
      have d4 := hN'.d4
      obtain ⟨a1, c1, rfl, s1, m1⟩ := hN'.l
      obtain ⟨a2, c2, rfl, s2, m2⟩ := hN'.body
      obtain ⟨a3, c3, rfl, s3, m3⟩ := hN'.els
      simp only at d0 d1 d2 d3 d4
      have Y := Lib.hid (And.intro hb (And.intro hd (And.intro hdr (hA wr a1 a2 a3 c1 c2 c3 (Nat.le_trans hB hb.size) ⟨a1, c1, rfl, s1, m1⟩ ⟨a2, c2, rfl, s2, m2⟩ ⟨a3, c3, rfl, s3, m3⟩ hN'.kind hN'.text))))
      clear hN hN' s1 s2 s3 m1 m2 m3 hb hd hx hdr hA hS
      go_wp2_with fail
      refine Y.out.2.2.2.mono ?_
      rintro e w' ⟨rfl, hk⟩
      have K := Lib.hid (Y.out.1.trans (hk.mono Y.out.1.size))
      clear hk
      cases hp : p ⟨kd, tt, xl, xb, xe⟩ with
      | true =>
        have HP := Lib.hid hp
        clear hp
        go_wp2_with fail
        go_ret
        refine ⟨(i : Int), rfl, ?_, K.out⟩
        have hd := Y.out.2.1
        rw [Y.out.2.2.1, List.any_cons, HP.out] at hd
        rw [← hd]; simp
      | false =>
        have HP := Lib.hid hp
        clear hp
        go_wp2_with fail
        go_roundg (xs.items.length - (i + 1))
        case measure => omega
        case rel =>
          refine ⟨i + 1, hlt, rfl, by go_num, ?_, K.out⟩
          have hd := Y.out.2.1
          rw [Y.out.2.2.1, List.any_cons, HP.out, Bool.false_or] at hd
          exact hd
    · obtain rfl : i = xs.items.length := by omega
      clear hlt
      go_wp2_with fail
      go_ret
      exact ⟨-1, rfl, by rw [← hd, List.drop_length]; rfl, hb⟩

set_option maxRecDepth 100000 in
set_option maxHeartbeats 4000000 in
theorem contains_said {tw : Bool} {xs : Ns} {fn : Nat} {p : Nd → Bool} {w : World} {B : Nat} {v : Value} (hB : B ≤ w.heap.size) (hv : Nodes w (· < B) tw v xs) (hf : ∀ x ∈ xs.items, Asked tw B fn p x) (hcf : ∀ (args : Array Value) (wx : World), (callFunc fn args).run Tryd.prog wx = .ok (.enter fn args) wx) :
    Calls Tryd.prog 72 #[v, .func (.func fn) #[] #[]] w fun e w' => e = .returned (.bool (xs.items.any p)) ∧ Below w.heap.size w w' := by
  have H := Lib.hid (index_said hB hv hf hcf)
  clear hv hf hcf
  go_enter Tryd.func72, Tryd.ntmps72
  go_wp2_with fail
  refine H.out.mono ?_
  rintro e w' ⟨n, rfl, hn, hb⟩
  have K := Lib.hid (And.intro hn hb)
  clear hn hb
  go_wp2_with fail
  go_ret
  refine ⟨?_, K.out.2⟩
  rw [← K.out.1]; rfl
end Go.Proofs.YtobpnjnfpgcpaaaDoor

/- Trees: is a number too long. -/
namespace Go.My
open Go.Nd
def longOne (x : Nd) : Bool := (x.kind == 1 && decide (200 < x.text.length)) || long x.l || long x.body || long x.els
theorem long_items (xs : Ns) : long xs = xs.items.any longOne := by
  induction xs with
  | nil => rfl
  | cons k t l b e r _ _ _ ihr => rw [Ns.items_cons, List.any_cons, ← ihr]; rfl
theorem tx_size (l : List UInt8) : (tx l).size = l.length := by simp [tx, ByteArray.size]
end Go.My
namespace Go.Proofs.YtobpnjnfpgcpaaaDoor
open Go.RowKit Go.My Go.Nd

def LongSaid (tw : Bool) (x : Ns) : Prop := ∀ (w : World) (B : Nat) (v : Value), B ≤ w.heap.size → Nodes w (· < B) tw v x → Calls Tryd.prog 48 #[v] w fun e w' => e = .returned (.bool (long x)) ∧ Below w.heap.size w w'

theorem box_later {w w1 : World} {cs : Array Value} {ty : TypeId} (hb : Below (w.alloc (.cells cs ty)).heap.size (w.alloc (.cells cs ty)) w1) (o : Nat) : w1.cell? ⟨w.heap.size, o, none⟩ = cs[o]? :=
  (World.cell?_of_block (hb.block w.heap.size (by simp))).trans (cell_of_row _ w.heap.size o _ _ _ (heap_alloc_new w (.cells cs ty)))

set_option maxRecDepth 100000 in
set_option maxHeartbeats 4000000 in
theorem long_one {tw : Bool} {B : Nat} {x : Nd} (h1 : LongSaid tw x.l) (h2 : LongSaid tw x.body) (h3 : LongSaid tw x.els) : Asked tw B 76 longOne x := by
  intro w a1 a2 a3 c1 c2 c3 hB n1 n2 n3 hk ht
  obtain ⟨kd, tt, xl, xb, xe⟩ := x
  simp only at *
  have hA := Below.alloc (Below.refl w.heap.size w) (Nat.le_refl _) (.cells #[.int .u8 (kd : Int), .string (tx tt), .slice a1 xl.len c1, .slice a2 xb.len c2, .slice a3 xe.len c3] 25)
  have Y := Lib.hid (And.intro h1 (And.intro h2 (And.intro h3 (And.intro (n1.below (hA.mono hB)) (And.intro (n2.below (hA.mono hB)) (And.intro (n3.below (hA.mono hB)) (And.intro hA hB)))))))
  have ts := tx_size tt
  have k0 : (0 : Int) ≤ (kd : Int) := by omega
  have tl : (tt.length : Int) ≤ 140737488351232 := by omega
  obtain ⟨bx, hbx⟩ : ∃ bx, bx = w.heap.size := ⟨_, rfl⟩
  have HX := Lib.hid hbx
  obtain ⟨p, hp⟩ : ∃ p, p = (kd == 1 && decide (200 < tt.length)) := ⟨_, rfl⟩
  have HR := Lib.hid (show longOne ⟨kd, tt, xl, xb, xe⟩ = (p || long xl || long xb || long xe) by rw [hp]; rfl)
  clear h1 h2 h3 n1 n2 n3 hA hB hbx
  go_enter Tryd.func76, Tryd.ntmps76
  cases p with
  | true =>
    have hq : kd = 1 ∧ 200 < tt.length := by have := hp.symm; simpa using this
    obtain ⟨rfl, hq⟩ := hq
    have hq2 : (200 : Int) < (tt.length : Int) := by omega
    clear hp hq
    go_wp2_with fail
    go_ret
    exact ⟨by rw [HR.out]; rfl, Y.out.2.2.2.2.2.2.1⟩
  | false =>
    have hq : ((kd : Int) == 1) = false ∨ (kd = 1 ∧ (tt.length : Int) ≤ 200) := by
      have := hp.symm
      by_cases hk1 : kd = 1
      · right; subst hk1; simp at this; omega
      · left; simp; omega
    clear hp
    have go : ((kd : Int) == 1) = false ∨ (kd = 1 ∧ (tt.length : Int) ≤ 200) := hq
    rcases hq with hq | ⟨rfl, hq⟩
    all_goals
      clear go
      (try have hq2 : decide ((200 : Int) < (tt.length : Int)) = false := by simp; omega)
      go_wp2_with fail
      refine (Y.out.1 _ B _ (Nat.le_trans Y.out.2.2.2.2.2.2.2 Y.out.2.2.2.2.2.2.1.size) Y.out.2.2.2.1).mono ?_
      rintro e w1 ⟨rfl, hb1⟩
      have e3 := box_later hb1 3
      have e4 := box_later hb1 4
      simp at e3 e4
      have B1 := Lib.hid hb1
      clear hb1
      cases hl1 : long xl with
      | true =>
        have L1 := Lib.hid hl1
        clear hl1
        go_wp2_with fail
        go_ret
        exact ⟨by rw [HR.out, L1.out]; rfl, Y.out.2.2.2.2.2.2.1.trans (B1.out.mono Y.out.2.2.2.2.2.2.1.size)⟩
      | false =>
        have L1 := Lib.hid hl1
        clear hl1
        have K1 := Lib.hid (Y.out.2.2.2.2.2.2.1.trans (B1.out.mono Y.out.2.2.2.2.2.2.1.size))
        go_wp2_with fail
        refine (Y.out.2.1 w1 B _ (Nat.le_trans Y.out.2.2.2.2.2.2.2 K1.out.size) (Y.out.2.2.2.2.1.below (B1.out.mono (Nat.le_trans Y.out.2.2.2.2.2.2.2 Y.out.2.2.2.2.2.2.1.size)))).mono ?_
        rintro e w2 ⟨rfl, hb2⟩
        have hb12 := B1.out.trans (hb2.mono B1.out.size)
        have e4' := box_later hb12 4
        simp at e4'
        have B2 := Lib.hid hb12
        clear hb2 hb12 e3 e4
        cases hl2 : long xb with
        | true =>
          have L2 := Lib.hid hl2
          clear hl2
          go_wp2_with fail
          go_ret
          exact ⟨by rw [HR.out, L1.out, L2.out]; rfl, Y.out.2.2.2.2.2.2.1.trans (B2.out.mono Y.out.2.2.2.2.2.2.1.size)⟩
        | false =>
          have L2 := Lib.hid hl2
          clear hl2
          have K2 := Lib.hid (Y.out.2.2.2.2.2.2.1.trans (B2.out.mono Y.out.2.2.2.2.2.2.1.size))
          go_wp2_with fail
          refine (Y.out.2.2.1 w2 B _ (Nat.le_trans Y.out.2.2.2.2.2.2.2 K2.out.size) (Y.out.2.2.2.2.2.1.below (B2.out.mono (Nat.le_trans Y.out.2.2.2.2.2.2.2 Y.out.2.2.2.2.2.2.1.size)))).mono ?_
          rintro e w3 ⟨rfl, hb3⟩
          have K3 := Lib.hid (K2.out.trans (hb3.mono K2.out.size))
          clear hb3
          go_wp2_with fail
          go_ret
          exact ⟨by rw [HR.out, L1.out, L2.out]; rfl, K3.out⟩

set_option maxHeartbeats 4000000 in
theorem long_said (tw : Bool) : ∀ xs, LongSaid tw xs := by
  refine Ns.each fun xs ih w B v hB hv => ?_
  have H := Lib.hid (contains_said hB hv (fn := 76) (p := longOne) (fun x hx => long_one (ih x hx).1 (ih x hx).2.1 (ih x hx).2.2) (fun _ _ => by kernel_rfl))
  obtain ⟨a, c, rfl, _⟩ := hv
  clear ih
  go_enter Tryd.func48, Tryd.ntmps48
  go_wp2_with fail
  refine H.out.mono ?_
  rintro e w' ⟨rfl, hb⟩
  have K := Lib.hid hb
  clear hb
  go_wp2_with fail
  go_ret
  exact ⟨by rw [long_items]; rfl, K.out⟩
end Go.Proofs.YtobpnjnfpgcpaaaDoor

/- Trees: may a node be an expression: the function that is handed to ContainsFunc. -/
namespace Go.My
open Go.Nd
def exprOne (x : Nd) : Bool := x.body.len == 0 && x.els.len == 0 && exprs x.l && head x.kind x.text x.l
theorem exprs_items (xs : Ns) : exprs xs = xs.items.all exprOne := by
  induction xs with
  | nil => rfl
  | cons k t l b e r _ _ _ ihr => rw [Ns.items_cons, List.all_cons, ← ihr]; rfl
theorem not_exprs (xs : Ns) : xs.items.any (fun x => !exprOne x) = !exprs xs := by
  rw [exprs_items]
  generalize xs.items = l
  induction l with
  | nil => rfl
  | cons x l ih => rw [List.any_cons, List.all_cons, ih]; cases exprOne x <;> rfl
end Go.My
namespace Go.Proofs.YtobpnjnfpgcpaaaDoor
open Go.RowKit Go.My Go.Nd

set_option maxRecDepth 100000 in
set_option maxHeartbeats 4000000 in
theorem expr1_one {tw : Bool} {B : Nat} {x : Nd} (h : Asked tw B 43 exprOne x) : Asked tw B 73 (fun x => !exprOne x) x := by
  intro w a1 a2 a3 c1 c2 c3 hB n1 n2 n3 hk ht
  have hA := Below.alloc (Below.refl w.heap.size w) (Nat.le_refl _) (.cells #[.int .u8 (x.kind : Int), .string (tx x.text), .slice a1 x.l.len c1, .slice a2 x.body.len c2, .slice a3 x.els.len c3] 25)
  have C := Lib.hid (h _ a1 a2 a3 c1 c2 c3 (Nat.le_trans hB hA.size) (n1.below (hA.mono hB)) (n2.below (hA.mono hB)) (n3.below (hA.mono hB)) hk ht)
  have Y := Lib.hid hA
  clear h n1 n2 n3 hA hk ht
  obtain ⟨kd, tt, xl, xb, xe⟩ := x
  simp only at C Y ⊢
  go_enter Tryd.func73, Tryd.ntmps73
  go_wp2_with fail
  refine C.out.mono ?_
  rintro e w' ⟨rfl, hb⟩
  have K := Lib.hid (Y.out.trans (hb.mono Y.out.size))
  clear hb
  cases hp : exprOne ⟨kd, tt, xl, xb, xe⟩ with
  | true =>
    have HP := Lib.hid hp
    clear hp
    go_wp2_with fail
    go_ret
    refine ⟨?_, K.out⟩
    show _ = Ending.returned (.bool (!exprOne ⟨kd, tt, xl, xb, xe⟩))
    rw [HP.out]; rfl
  | false =>
    have HP := Lib.hid hp
    clear hp
    go_wp2_with fail
    go_ret
    refine ⟨?_, K.out⟩
    show _ = Ending.returned (.bool (!exprOne ⟨kd, tt, xl, xb, xe⟩))
    rw [HP.out]; rfl
end Go.Proofs.YtobpnjnfpgcpaaaDoor
