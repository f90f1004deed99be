/- Texts put together: Mem, Mem2, Tag, NdMem, NdDeep, NdLong, NdLong2, NdExpr, ToRun, ToSign, ToKinds, ToName, ToRef, NdPl, NdPl2, ToRefName, NdExpr2, NdRExpr, NdStmt, NdRStmt, NdProg, NdArgF, NdCheck. -/
import Derived.WalkKit
import Derived.WalkSpells
import Derived.WalkLawsBesides
import Derived.Lib.Hide
import Derived.ProofKit
import Derived.OpenShut
import Derived.Deep.Matrix
import Derived.Laws.CopyOwn
import Derived.Lib.SlBytesConst
import Derived.Deep.Cut
import Derived.Deep.CutBlock
import Derived.Deep.CutRange
import Derived.Deep.DeepCutAuto
import Derived.Deep.LoopGhost
import Derived.Deep.QuietTactic
import Derived.BigQuiet
import Derived.Deep.RegionWith
import Derived.Deep.RegionHeld3
import Derived.Deep.RegionLaw
import Derived.Deep.DeepFit
import Derived.Deep.DeepMust
import Derived.StillTailTactics
import Derived.Test.YtmkhfonafcikdaaGreatDoorTrC1
import Derived.Test.YtmkhfonafcikdaaGreatDoorRows
import Derived.IntWalk
import Derived.Test.YtmkhfonafcikdaaGreatDoorShelf
import Derived.Lib.SlTrimSet
import Derived.Laws.EntriesVeiled

/- Memory words for walks, over any program: what a slice of bytes, a slice of slices of bytes reads as; a slice that the call itself owns and appends to. No program in sight. -/
namespace Go.My
open Go.RowKit

theorem add_none (b o j : Nat) : (⟨b, o, none⟩ : Addr).add j = ⟨b, o + j, none⟩ := by unfold Addr.add; split <;> simp_all

/-- The step from w to w': new blocks; of the old ones at most block 'row' has turned. -/
structure Step (w w' : World) (row : Option Nat) : Prop where
  os : w'.os = w.os
  tape : w'.tape = w.tape
  output : w'.output = w.output
  size : w.heap.size ≤ w'.heap.size
  block : ∀ k, k < w.heap.size → some k ≠ row → w'.heap[k]? = w.heap[k]?

theorem Step.below {w w' : World} {row : Option Nat} {B : Nat} (h : Step w w' row) (hB : B ≤ w.heap.size) (hr : ∀ k, row = some k → B ≤ k) : Below B w w' :=
  ⟨h.os, h.tape, h.output, h.size, fun k hk => h.block k (by omega) (fun e => by have := hr k e.symm; omega)⟩

theorem Step.of_below {w w' : World} {row : Option Nat} (h : Below w.heap.size w w') : Step w w' row :=
  ⟨h.os, h.tape, h.output, h.size, fun k hk _ => h.block k hk⟩

theorem Step.of_grown {w w' : World} {row : Option Nat} (h : w.grownBy w' row) : Step w w' row := ⟨h.os, h.tape, h.output, h.size, h.block⟩

theorem Step.refl (w : World) (row : Option Nat) : Step w w row := ⟨rfl, rfl, rfl, Nat.le_refl _, fun _ _ _ => rfl⟩

theorem Step.trans {w w1 w2 : World} {r : Option Nat} (h : Step w w1 r) (k : Step w1 w2 r) : Step w w2 r :=
  ⟨k.os.trans h.os, k.tape.trans h.tape, k.output.trans h.output, Nat.le_trans h.size k.size,
   fun b hb hr => (k.block b (Nat.lt_of_lt_of_le hb h.size) hr).trans (h.block b hb hr)⟩

theorem Step.cell {w w' : World} {row : Option Nat} (h : Step w w' row) {a : Addr} (ha : a.block < w.heap.size) (hr : some a.block ≠ row) : w'.cell? a = w.cell? a :=
  World.cell?_of_block (h.block _ ha hr)

theorem Step.below_of_new {B : Nat} {w0 w w' : World} {row : Option Nat} (hb : Below B w0 w) (hB : B ≤ w.heap.size) (h : Step w w' row) (hr : ∀ k, row = some k → B ≤ k) : Below B w0 w' :=
  hb.trans (h.below hB hr)

/-- A slice of one-cell elements: v reads as the cells xs, all in a block of S. -/
def RowIn (w : World) (S : Nat → Prop) (v : Value) (xs : List Value) : Prop :=
  ∃ ao cap, v = .slice ao xs.length cap ∧ xs.length ≤ cap ∧ cap ≤ maxLen ∧ (ao = none → cap = 0) ∧
    (xs ≠ [] → ∃ b off, ao = some ⟨b, off, none⟩ ∧ S b ∧ ∀ j u, xs[j]? = some u → w.cell? ⟨b, off + j, none⟩ = some u)

theorem RowIn.frame {w w' : World} {S : Nat → Prop} {v : Value} {xs : List Value} (h : RowIn w S v xs) (hs : ∀ b, S b → b < w.heap.size → w'.heap[b]? = w.heap[b]?) : RowIn w' S v xs := by
  obtain ⟨ao, cap, hv, h1, h2, h0, h3⟩ := h
  refine ⟨ao, cap, hv, h1, h2, h0, fun hx => ?_⟩
  obtain ⟨b, off, ha, hS, hc⟩ := h3 hx
  refine ⟨b, off, ha, hS, fun j u hj => ?_⟩
  have hcell := hc j u hj
  exact (World.cell?_of_block (hs b hS (World.block_lt_of_cell? w _ hcell))).trans hcell

theorem RowIn.mono {w : World} {S T : Nat → Prop} {v : Value} {xs : List Value} (h : RowIn w S v xs) (hs : ∀ b, b < w.heap.size → S b → T b) : RowIn w T v xs := by
  obtain ⟨ao, cap, hv, h1, h2, h0, h3⟩ := h
  refine ⟨ao, cap, hv, h1, h2, h0, fun hx => ?_⟩
  obtain ⟨b, off, ha, hS, hc⟩ := h3 hx
  have h00 : ∃ u, xs[0]? = some u := by cases xs with | nil => exact absurd rfl hx | cons u _ => exact ⟨u, rfl⟩
  obtain ⟨u, hu⟩ := h00
  exact ⟨b, off, ha, hs b (World.block_lt_of_cell? w _ (hc 0 u hu)) hS, hc⟩

/-- A byte's cell. -/
def byteCell (x : UInt8) : Value := .int .u8 (x.toNat : Int)

/-- v reads as the bytes l. -/
def BytesIn (w : World) (S : Nat → Prop) (v : Value) (l : List UInt8) : Prop := RowIn w S v (l.map byteCell)

theorem BytesIn.frame {w w' : World} {S : Nat → Prop} {v : Value} {l : List UInt8} (h : BytesIn w S v l) (hs : ∀ b, S b → b < w.heap.size → w'.heap[b]? = w.heap[b]?) : BytesIn w' S v l := RowIn.frame h hs
theorem BytesIn.mono {w : World} {S T : Nat → Prop} {v : Value} {l : List UInt8} (h : BytesIn w S v l) (hs : ∀ b, b < w.heap.size → S b → T b) : BytesIn w T v l := RowIn.mono h hs

/-- For a walk: the value's form, and each cell under its condition. -/
theorem BytesIn.open_ {w : World} {S : Nat → Prop} {v : Value} {l : List UInt8} (h : BytesIn w S v l) :
    ∃ ao cap, v = .slice ao l.length cap ∧ l.length ≤ cap ∧ cap ≤ maxLen ∧ (ao = none → cap = 0) ∧
      (0 < l.length → ∃ b off, ao = some ⟨b, off, none⟩ ∧ S b ∧ ∀ j (hj : j < l.length), w.cell? ⟨b, off + j, none⟩ = some (.int .u8 ((l[j]).toNat : Int))) := by
  obtain ⟨ao, cap, hv, h1, h2, h0, h3⟩ := h
  rw [List.length_map] at hv h1
  refine ⟨ao, cap, hv, h1, h2, h0, fun hl => ?_⟩
  obtain ⟨b, off, ha, hS, hc⟩ := h3 (by intro e; rw [List.map_eq_nil_iff] at e; subst e; exact absurd hl (by simp))
  refine ⟨b, off, ha, hS, fun j hj => hc j _ ?_⟩
  rw [List.getElem?_map, List.getElem?_eq_getElem hj]; rfl

theorem BytesIn.nil (w : World) (S : Nat → Prop) : BytesIn w S (.slice none 0 0) [] := ⟨none, 0, rfl, Nat.le_refl _, Nat.zero_le _, fun _ => rfl, fun h => absurd rfl h⟩

/-- A slice of slices of bytes. -/
def FramesIn (w : World) (S : Nat → Prop) (v : Value) (ls : List (List UInt8)) : Prop :=
  ∃ us : List Value, RowIn w S v us ∧ us.length = ls.length ∧ ∀ j (h : j < us.length) (h' : j < ls.length), BytesIn w S us[j] ls[j]

theorem FramesIn.frame {w w' : World} {S : Nat → Prop} {v : Value} {ls : List (List UInt8)} (h : FramesIn w S v ls) (hs : ∀ b, S b → b < w.heap.size → w'.heap[b]? = w.heap[b]?) : FramesIn w' S v ls := by
  obtain ⟨us, h1, h2, h3⟩ := h
  exact ⟨us, h1.frame hs, h2, fun j h h' => (h3 j h h').frame hs⟩
theorem FramesIn.mono {w : World} {S T : Nat → Prop} {v : Value} {ls : List (List UInt8)} (h : FramesIn w S v ls) (hs : ∀ b, b < w.heap.size → S b → T b) : FramesIn w T v ls := by
  obtain ⟨us, h1, h2, h3⟩ := h
  exact ⟨us, h1.mono hs, h2, fun j h h' => (h3 j h h').mono hs⟩
theorem FramesIn.nil (w : World) (S : Nat → Prop) : FramesIn w S (.slice none 0 0) [] := ⟨[], ⟨none, 0, rfl, Nat.le_refl _, Nat.zero_le _, fun _ => rfl, fun h => absurd rfl h⟩, rfl, fun _ h => absurd h (Nat.not_lt_zero _)⟩

/-- For a walk. -/
theorem FramesIn.open_ {w : World} {S : Nat → Prop} {v : Value} {ls : List (List UInt8)} (h : FramesIn w S v ls) :
    ∃ ao cap, v = .slice ao ls.length cap ∧ ls.length ≤ cap ∧ cap ≤ maxLen ∧ (ao = none → cap = 0) ∧
      (0 < ls.length → ∃ b off, ao = some ⟨b, off, none⟩ ∧ S b ∧ ∀ j (hj : j < ls.length), ∃ u, w.cell? ⟨b, off + j, none⟩ = some u ∧ BytesIn w S u (ls[j])) := by
  obtain ⟨us, ⟨ao, cap, hv, h1, h2, h0, h3⟩, hlen, hb⟩ := h
  rw [hlen] at hv h1
  refine ⟨ao, cap, hv, h1, h2, h0, fun hl => ?_⟩
  obtain ⟨b, off, ha, hS, hc⟩ := h3 (by intro e; subst e; rw [← hlen] at hl; exact absurd hl (by simp))
  exact ⟨b, off, ha, hS, fun j hj => ⟨us[j]'(by omega), hc j _ (by rw [List.getElem?_eq_getElem (by omega)]), hb j (by omega) hj⟩⟩

/-! ### Arguments, opened -/
open Go.ChangeShapes Go.WideShapes in
theorem bytes_of_ints {zs : List Int} (hz : ∀ n ∈ zs, (Lit.int .u8 n).wf = true) : ∃ l : List UInt8, zs = l.map fun x => (x.toNat : Int) := by
  induction zs with
  | nil => exact ⟨[], rfl⟩
  | cons z zs ih =>
    obtain ⟨l, hl⟩ := ih (fun n hn => hz n (by simp [hn]))
    have h := hz z (by simp)
    simp [Lit.wf, IntKind.min, IntKind.max, IntKind.signed, IntKind.bits] at h
    refine ⟨UInt8.ofNat z.toNat :: l, ?_⟩
    simp [hl]
    omega

open Go.ChangeShapes Go.WideShapes Go.ChangeAt in
theorem bytes_of_trod {H : Type} {enc : TypeId × Value → H} {P : Program} {W : World} {base : Nat} {t e : TypeId} {v : Value} {d : DataW H} {p : List MemPlace} (ht : P.underlying t = some (.slice e)) (he : P.underlying e = some (.int .u8)) (ce : P.cellsOf e = 1)
    (hok : Value.okWide P W .any base t v) (h : DataW.Trod enc P W 0 (fun _ => true) true t v d p) : ∃ l : List UInt8, BytesIn W (fun b => b < W.heap.size) v l := by
  obtain ⟨a, len, cap, rfl⟩ := okWide_slice ht hok
  obtain ⟨fuel, hf⟩ := h
  rcases open_ints ht he ce hf with ⟨hcs, _⟩ | ⟨x, l, c, zs, hcs, _, hl, hm, hz, _, hcell, hwz⟩
  · simp [Value.cells] at hcs
    obtain ⟨rfl, rfl, rfl⟩ := hcs
    exact ⟨[], BytesIn.nil _ _⟩
  · simp [Value.cells] at hcs
    obtain ⟨rfl, rfl, rfl⟩ := hcs
    simp only [if_true] at hz
    obtain ⟨bs, rfl⟩ := bytes_of_ints hwz
    rw [List.length_map] at hz
    refine ⟨bs.take len, some x, cap, by simp; omega, by simp; omega, hm, (fun e => by cases e), fun hne => ?_⟩
    have hlen : 0 < len := by
      rcases Nat.eq_zero_or_pos len with h0 | h0
      · subst h0; simp at hne
      · exact h0
    have h0 := hcell 0 (by simp; omega)
    obtain ⟨b, off, spot⟩ := x
    have hspot : spot = none := by simpa [Addr.add] using World.cell?_spot h0
    subst hspot
    refine ⟨b, off, rfl, by simpa [add_none] using World.block_lt_of_cell? W _ h0, fun j u hu => ?_⟩
    have hj : j < bs.length := by have := (List.getElem?_eq_some_iff.1 hu).1; simp at this; omega
    have := hcell j (by simpa using hj)
    rw [add_none] at this
    rw [this, ← hu, List.getElem?_map, List.getElem?_take]
    rw [if_pos (by have := (List.getElem?_eq_some_iff.1 hu).1; simp at this; omega)]
    simp [hj, byteCell]

/-! ### A slice that the call owns -/
/-- v, of n elements of type e (size cells each), owns the cells xs: nil; or a piece of block g, not frozen, up to its capacity. -/
def Own (w : World) (e : TypeId) (size : Nat) (v : Value) (n : Nat) (xs : List Value) (g : Option Nat) : Prop :=
  xs.length = n * size ∧
  ((v = .slice none 0 0 ∧ n = 0 ∧ g = none) ∨
   ∃ b off cap cur, v = .slice (some ⟨b, off, none⟩) n cap ∧ g = some b ∧ w.heap[b]? = some (.cells cur e (0, 0)) ∧ n ≤ cap ∧ cap ≤ maxLen ∧ off + cap * size ≤ cur.size ∧
     (cur.toList.drop off).take (n * size) = xs)

theorem Own.nil (w : World) (e : TypeId) (size : Nat) : Own w e size (.slice none 0 0) 0 [] none := ⟨by simp, .inl ⟨rfl, rfl, rfl⟩⟩

theorem Own.of_row {w : World} {base : Nat} {e : TypeId} {size : Nat} {v : Value} {n : Nat} {xs : List Value} (h : w.ownsRow base e size v n xs) :
    ∃ g, Own w e size v n xs g ∧ (∀ k, g = some k → base ≤ k) ∧ g = v.ownBlock := by
  obtain ⟨h1, h2 | ⟨b, cap, cur, hv, hb, hh, h3, h4, h5, h6⟩⟩ := h
  · exact ⟨none, ⟨h1, .inl ⟨h2.1, h2.2, rfl⟩⟩, (fun k e => by cases e), by rw [h2.1]; rfl⟩
  · refine ⟨some b, ⟨h1, .inr ⟨b, 0, cap, cur, hv, rfl, hh, h3, h4, by omega, by simpa using h6⟩⟩, (fun k e => by cases e; exact hb), by rw [hv]; rfl⟩

theorem Own.lt {w : World} {e : TypeId} {size : Nat} {v : Value} {n : Nat} {xs : List Value} {g : Option Nat} (h : Own w e size v n xs g) : ∀ k, g = some k → k < w.heap.size := by
  intro k hk
  rcases h.2 with ⟨_, _, hg⟩ | ⟨b, off, cap, cur, _, hg, hh, _⟩
  · rw [hg] at hk; cases hk
  · rw [hg] at hk; cases hk; exact (Array.getElem?_eq_some_iff.1 hh).1

theorem Own.frame {w w' : World} {e : TypeId} {size : Nat} {v : Value} {n : Nat} {xs : List Value} {g : Option Nat} (h : Own w e size v n xs g) (hs : ∀ k, g = some k → w'.heap[k]? = w.heap[k]?) : Own w' e size v n xs g := by
  refine ⟨h.1, ?_⟩
  rcases h.2 with h2 | ⟨b, off, cap, cur, hv, hg, hh, r⟩
  · exact .inl h2
  · exact .inr ⟨b, off, cap, cur, hv, hg, (hs b hg).trans hh, r⟩

theorem Own.row {w : World} {e : TypeId} {v : Value} {n : Nat} {xs : List Value} {g : Option Nat} (h : Own w e 1 v n xs g) : RowIn w (fun b => g = some b) v xs := by
  obtain ⟨h1, h2⟩ := h
  rw [Nat.mul_one] at h1
  rcases h2 with ⟨hv, hn, _⟩ | ⟨b, off, cap, cur, hv, hg, hh, h3, h4, h5, h6⟩
  · subst hn
    refine ⟨none, 0, by rw [hv, h1], by omega, Nat.zero_le _, fun _ => rfl, fun hx => ?_⟩
    exact absurd (List.eq_nil_of_length_eq_zero h1) hx
  · refine ⟨_, cap, by rw [h1]; exact hv, by omega, h4, (fun e => by cases e), fun _ => ⟨b, off, rfl, hg, fun j u hj => ?_⟩⟩
    rw [cell_of_row w b (off + j) cur e (0, 0) hh, ← hj, ← h6, List.getElem?_take, List.getElem?_drop, if_pos (by have := (List.getElem?_eq_some_iff.1 hj).1; omega)]
    simp

/-- What stands behind k elements. -/
theorem Own.drop {w : World} {e : TypeId} {b off n cap : Nat} {xs : List Value} {g : Option Nat} (h : Own w e 1 (.slice (some ⟨b, off, none⟩) n cap) n xs g) (k : Nat) (hk : k ≤ n) :
    Own w e 1 (.slice (some ⟨b, off + k, none⟩) (n - k) (cap - k)) (n - k) (xs.drop k) g := by
  obtain ⟨h1, h2⟩ := h
  refine ⟨by simp [h1], ?_⟩
  rcases h2 with ⟨hv, _⟩ | ⟨b', off', cap', cur, hv, hg, hh, h3, h4, h5, h6⟩
  · cases hv
  · cases hv
    refine .inr ⟨b, off + k, cap - k, cur, rfl, hg, hh, by omega, by omega, by omega, ?_⟩
    rw [← h6, List.drop_take, List.drop_drop]
    simp only [Nat.mul_one]

/-- .. and where nothing stands behind them, at the old place. -/
theorem Own.drop_all {w : World} {e : TypeId} {b off n cap : Nat} {xs : List Value} {g : Option Nat} (h : Own w e 1 (.slice (some ⟨b, off, none⟩) n cap) n xs g) (k : Nat) (hk : k = cap) (hn : k ≤ n) :
    Own w e 1 (.slice (some ⟨b, off, none⟩) (n - k) (cap - k)) (n - k) (xs.drop k) g := by
  obtain ⟨h1, h2⟩ := h
  refine ⟨by simp [h1], ?_⟩
  rcases h2 with ⟨hv, _⟩ | ⟨b', off', cap', cur, hv, hg, hh, h3, h4, h5, h6⟩
  · cases hv
  · cases hv
    refine .inr ⟨b, off, cap - k, cur, rfl, hg, hh, by omega, by omega, by omega, ?_⟩
    have : xs.drop k = [] := by rw [List.drop_eq_nil_iff]; omega
    rw [this]
    have : n - k = 0 := by omega
    rw [this]; simp

/-- The element type's row of the table. -/
structure Elem (P : Program) (t e : TypeId) (size bytes : Nat) (z : Value) : Prop where
  under : P.underlying t = some (.slice e)
  info : ∃ i, P.info? e = some i ∧ i.zero = some z ∧ i.size = size ∧ i.bytes = bytes
  cells : z.cells.size = size
  pos : 0 < size

theorem Elem.mk' {P : Program} {t e : TypeId} {size bytes : Nat} {z : Value} (h1 : P.underlying t = some (.slice e)) (h2 : (P.info? e).map (fun i => (i.zero, i.size, i.bytes)) = some (some z, size, bytes)) (h3 : z.cells.size = size) (h4 : 0 < size) : Elem P t e size bytes z := by
  refine ⟨h1, ?_, h3, h4⟩
  cases h : P.info? e with
  | none => rw [h] at h2; cases h2
  | some i => rw [h] at h2; simp at h2; exact ⟨i, rfl, h2.1, h2.2.1, h2.2.2⟩

/-- What is appended: nil, or a row that can be read. -/
def Src (w : World) (size : Nat) (x : Value) (m : Nat) (news : List Value) : Prop :=
  news.length = m * size ∧ ((x = .slice none 0 0 ∧ m = 0) ∨ ∃ ad c, x = .slice (some ad) m c ∧ ∀ j u, news[j]? = some u → w.cell? (ad.add j) = some u)

theorem RowIn.src {w : World} {S : Nat → Prop} {v : Value} {xs : List Value} (h : RowIn w S v xs) : Src w 1 v xs.length xs := by
  obtain ⟨ao, cap, hv, h1, h2, h0, h3⟩ := h
  refine ⟨by simp, ?_⟩
  cases ao with
  | none =>
    have := h0 rfl
    subst this
    have h4 : xs.length = 0 := by omega
    rw [h4] at hv ⊢
    exact .inl ⟨hv, rfl⟩
  | some a =>
    refine .inr ⟨a, cap, hv, fun j u hj => ?_⟩
    obtain ⟨b, off, ha, _, hc⟩ := h3 (by intro e; subst e; simp at hj)
    cases ha
    rw [add_none]; exact hc j u hj

theorem BytesIn.src {w : World} {S : Nat → Prop} {v : Value} {l : List UInt8} (h : BytesIn w S v l) : Src w 1 v l.length (l.map byteCell) := by
  have := RowIn.src h
  rwa [List.length_map] at this

theorem Src.lit {w : World} {k n size : Nat} (o : Array Value) (t : TypeId) (hk : k = w.heap.size) (h : o.size = n * size) : Src (w.alloc (.cells o t)) size (.slice (some ⟨k, 0, none⟩) n n) n o.toList := by
  subst hk
  refine ⟨by simp [h], .inr ⟨_, _, rfl, fun j u hj => ?_⟩⟩
  rw [add_none, cell_of_row _ w.heap.size (0 + j) o t (0, 0) (heap_alloc_new w _), ← hj]
  simp

theorem byteCells_one (l : List UInt8) : ∀ u ∈ l.map byteCell, u.oneCell' = true := by
  intro u hu
  obtain ⟨x, _, rfl⟩ := List.mem_map.1 hu
  rfl

/-- Blocks below B are as they were: what lies there reads as it did. -/
theorem RowIn.below {w w' : World} {S : Nat → Prop} {v : Value} {xs : List Value} {B : Nat} (h : RowIn w S v xs) (hb : Below B w w') (hS : ∀ b, S b → b < B) : RowIn w' S v xs :=
  h.frame fun b hs _ => hb.block b (hS b hs)
theorem BytesIn.below {w w' : World} {S : Nat → Prop} {v : Value} {l : List UInt8} {B : Nat} (h : BytesIn w S v l) (hb : Below B w w') (hS : ∀ b, S b → b < B) : BytesIn w' S v l := RowIn.below h hb hS
theorem FramesIn.below {w w' : World} {S : Nat → Prop} {v : Value} {ls : List (List UInt8)} {B : Nat} (h : FramesIn w S v ls) (hb : Below B w w') (hS : ∀ b, S b → b < B) : FramesIn w' S v ls :=
  h.frame fun b hs _ => hb.block b (hS b hs)

section
variable {P : Program} (w : World)

/-- APPEND: whatever room there is. -/
theorem run_append {t e : TypeId} {size bytes : Nat} {z : Value} (E : Elem P t e size bytes z) (ty : TypeId)
    {v : Value} {n : Nat} {xs : List Value} {g : Option Nat} (hown : Own w e size v n xs g) {x : Value} {m : Nat} {news : List Value} (hx : Src w size x m news) (h1 : ∀ u ∈ news, u.oneCell' = true)
    (h63 : n + m ≤ maxLen) (hbytes : (n + m) * bytes ≤ 140737488355328) :
    ∃ v' w' g', (Builtin.append_ #[t, t] ty #[v, x]).run P w = .ok v' w' ∧ Own w' e size v' (n + m) (xs ++ news) g' ∧ Step w w' g ∧ (g' = g ∨ ∃ k, g' = some k ∧ w.heap.size ≤ k) := by
  obtain ⟨hl, hx⟩ := hx
  obtain ⟨ht, ⟨i, hi, hz, hsize, hby⟩, hzs, hsz⟩ := E
  subst hsize
  subst hby
  have hsmall : n + m ≤ 9223372036854775807 := by simp only [maxLen] at h63; omega
  have hlen : (xs ++ news).length = (n + m) * i.size := by rw [List.length_append, hown.1, hl, Nat.add_mul]
  rcases hx with ⟨rfl, rfl⟩ | ⟨ad, c, rfl, hnews⟩
  · have hn : news = [] := List.eq_nil_of_length_eq_zero (by simpa using hl)
    subst hn
    refine ⟨v, w, g, ?_, by simpa using hown, Step.refl w g, .inl rfl⟩
    rcases hown.2 with ⟨rfl, rfl, _⟩ | ⟨b, off, cap, cur, rfl, hg, hh, h3, _⟩
    · simp [Builtin.append_, run_underlying ht, sizeOf, typeInfo, hi, Builtin.lenOf, Builtin.firstCells]
    · simp [Builtin.append_, run_underlying ht, sizeOf, typeInfo, hi, Builtin.lenOf, Builtin.firstCells, storeCells, h3]
  have grown : ∀ (old : Nat), old < n + m →
      Own (w.drew.alloc (.cells (xs.toArray ++ news.toArray ++ Builtin.zeroCells z.cells (grownCap w (n + m) old e - (n + m))) e)) e i.size
        (.slice (some ⟨w.heap.size, 0, none⟩) (n + m) (grownCap w (n + m) old e)) (n + m) (xs ++ news) (some w.heap.size) ∧
      Step w (w.drew.alloc (.cells (xs.toArray ++ news.toArray ++ Builtin.zeroCells z.cells (grownCap w (n + m) old e - (n + m))) e)) g := by
    intro old ho
    have hge := grownCap_ge w (n + m) old e
    have hcm : grownCap w (n + m) old e ≤ maxLen := grownCap_le_maxLen w (n + m) old e h63
    refine ⟨⟨hlen, .inr ⟨w.heap.size, 0, _, _, rfl, rfl, heap_alloc_new w.drew _, hge, hcm, ?_, ?_⟩⟩, ⟨rfl, rfl, rfl, by simp, fun k hk _ => Below.heap_alloc w.drew _ k hk⟩⟩
    · simp only [Array.size_append, List.size_toArray, size_zeroCells, hzs, hown.1, hl, ← Nat.add_mul, Nat.zero_add]
      apply Nat.mul_le_mul_right
      omega
    · simp only [Array.toList_append, List.append_assoc, List.drop_zero]
      rw [← List.append_assoc, ← hlen]
      exact List.take_left
  rcases hown.2 with ⟨rfl, rfl, rfl⟩ | ⟨b, off, cap, cur, rfl, rfl, hh, h3, h4, h5, h6⟩
  · have hxs : xs = [] := List.eq_nil_of_length_eq_zero (by simpa using hown.1)
    subst hxs
    by_cases hm : m = 0
    · subst hm
      have hn : news = [] := List.eq_nil_of_length_eq_zero (by simpa using hl)
      subst hn
      refine ⟨.slice none 0 0, w, none, ?_, Own.nil w e i.size, Step.refl w none, .inl rfl⟩
      simp [Builtin.append_, run_underlying ht, sizeOf, typeInfo, hi, Builtin.lenOf, Builtin.firstCells, loadCells, loadCellsFrom]
    · have hr := run_append_nil (P := P) w t ty e i z ht hi hz ad m c news hl hnews (by omega) (by omega) (by have hb := hbytes; simp only [Nat.zero_add] at hb; omega)
      have hgr := grown 0 (by omega)
      simp only [Nat.zero_add, List.nil_append, Array.empty_append] at hgr ⊢
      exact ⟨_, _, _, hr, hgr.1, hgr.2, .inr ⟨_, rfl, Nat.le_refl _⟩⟩
  · by_cases hroom : n + m ≤ cap
    · have hfit : off + n * i.size + news.length ≤ cur.size := by
        have := Nat.mul_le_mul_right i.size hroom
        rw [hl]; rw [Nat.add_mul] at this; omega
      have hf := run_firstCells_some (P := P) w i.size m ad m c news hl hnews
      have hst := run_storeCells_at P b (off + n * i.size) e news 0 cur w hh (by simpa using hfit) h1
      simp only [Nat.add_zero] at hst
      have hr : (Builtin.append_ #[t, t] ty #[.slice (some ⟨b, off, none⟩) n cap, .slice (some ad) m c]).run P w =
          .ok (.slice (some ⟨b, off, none⟩) (n + m) cap) (w.setRow b (cur.toList.take (off + n * i.size) ++ news ++ cur.toList.drop (off + n * i.size + news.length)).toArray) := by
        simp [Builtin.append_, run_underlying ht, sizeOf, typeInfo, hi, Builtin.lenOf, hroom, hf, Addr.add_lit, hst]
      refine ⟨_, _, some b, hr, ⟨hlen, .inr ⟨b, off, cap, _, rfl, rfl, setRow_heap w b cur _ e _ hh, hroom, h4, ?_, ?_⟩⟩,
        ⟨rfl, rfl, rfl, by simp, fun k _ hk => setRow_other w b k _ (fun e => hk (by simp [e]))⟩, .inl rfl⟩
      · simp only [List.size_toArray, List.length_append, List.length_take, List.length_drop, Array.length_toList]
        omega
      · have hx1 : xs.length = n * i.size := hown.1
        have hpre : (cur.toList.take (off + n * i.size)).drop off = xs := by
          rw [List.drop_take, ← h6]; congr 1; omega
        have hlo : off ≤ (cur.toList.take (off + n * i.size)).length := by simp; omega
        show List.take ((n + m) * i.size) (List.drop off (cur.toList.take (off + n * i.size) ++ news ++ cur.toList.drop (off + n * i.size + news.length))) = xs ++ news
        rw [List.append_assoc, List.drop_append_of_le_length hlo, hpre, ← List.append_assoc, ← hlen]
        exact List.take_left
    · have holds : ∀ j u, xs[j]? = some u → w.cell? ((⟨b, off, none⟩ : Addr).add j) = some u := by
        intro j u hj
        rw [add_none, cell_of_row w b (off + j) cur e (0, 0) hh, ← hj, ← h6, List.getElem?_take, List.getElem?_drop]
        rw [if_pos (by have := (List.getElem?_eq_some_iff.1 hj).1; rw [hown.1] at this; exact this)]; simp
      have hr := run_append_grow (P := P) w t ty e i z ht hi hz ⟨b, off, none⟩ n cap xs hown.1 holds ad m c news hl hnews (by omega) (by omega) (growslice_fits (by omega) hbytes)
      have hgr := grown cap (by omega)
      exact ⟨_, _, _, hr, hgr.1, hgr.2, .inr ⟨_, rfl, Nat.le_refl _⟩⟩

/-- APPEND, FOR THE WALK. -/
theorem wpList_append {ops : Array Oper} {rest : List Oper} {o : Oper} {a : Act} {Q : Exit → Act → World → Prop} (hgd : o.guard = none) (s x : Operand) {t e : TypeId}
    (ho : o.op = .call { callee := .builtin .append, args := #[s, x], argTypes := #[t, t] }) {size bytes : Nat} {z : Value} (E : Elem P t e size bytes z)
    {v : Value} {n : Nat} {xs : List Value} {g : Option Nat} (hs : a.eval s = v) (hown : Own w e size v n xs g) {y : Value} {m : Nat} {news : List Value} (hy : a.eval x = y) (hx : Src w size y m news) (h1 : ∀ u ∈ news, u.oneCell' = true)
    (h63 : n + m ≤ maxLen) (hbytes : (n + m) * bytes ≤ 140737488355328)
    (h : ∀ v' w' g', Own w' e size v' (n + m) (xs ++ news) g' → Step w w' g → (g' = g ∨ ∃ k, g' = some k ∧ w.heap.size ≤ k) → wpList P ops Q rest (a.put o.dst v') w') : wpList P ops Q (o :: rest) a w := by
  obtain ⟨v', w', g', hr, h2, h3, h4⟩ := run_append w E o.type hown hx h1 h63 hbytes
  refine wpList_plain hgd fun _ hK => ?_
  unfold Oper.wp execOp
  simp only [ho, resolve, invoke, builtin, Sem.run_bind, Sem.run_pure, Result.andThen_ok, List.map_toArray, List.map_cons, List.map_nil, hs, hy, hr]
  exact hK _ _ (h v' w' g' h2 h3 h4)


/-- MAKE, FOR THE WALK. -/
theorem wpList_make {ops : Array Oper} {rest : List Oper} {o : Oper} {a : Act} {Q : Exit → Act → World → Prop} (hgd : o.guard = none) (s s' : Operand) {t e : TypeId}
    (ho : o.op = .makeSlice t s s') {size bytes : Nat} {z : Value} (E : Elem P t e size bytes z) {kl kc : IntKind} {l c : Int} (hs : a.eval s = .int kl l) (hs' : a.eval s' = .int kc c)
    (h0 : 0 ≤ l) (hlc : l ≤ c) (hbytes : (bytes : Int) * c ≤ 281474976710656) (h63 : c ≤ 9223372036854775807)
    (h : wpList P ops Q rest (a.put o.dst (.slice (some ⟨w.heap.size, 0, none⟩) l.toNat c.toNat)) (w.alloc (.cells (madeCells z.cells (c.toNat * size)) e))) : wpList P ops Q (o :: rest) a w := by
  obtain ⟨ht, ⟨i, hi, hz, hsize, hby⟩, hzs, hsz⟩ := E
  subst hsize
  subst hby
  have hr := run_make (P := P) w t e i z ht hi hz kl kc l c h0 hlc hbytes h63
  refine wpList_plain hgd fun _ hK => ?_
  unfold Oper.wp execOp
  simp only [ho, hs, hs', Sem.run_bind, hr, Result.andThen_ok, Sem.run_pure]
  exact hK _ _ h

/-- COPY OF ALL OF THE SOURCE, FOR THE WALK. -/
theorem wpList_copy {ops : Array Oper} {rest : List Oper} {o : Oper} {a : Act} {Q : Exit → Act → World → Prop} (hgd : o.guard = none) (d s : Operand) {t t' e : TypeId}
    (ho : o.op = .call { callee := .builtin .copy, args := #[d, s], argTypes := #[t, t'] }) {bytes : Nat} {z : Value} (E : Elem P t e 1 bytes z)
    {dp : Option Addr} {dLen dCap : Nat} (hd : a.eval d = .slice dp dLen dCap) {y : Value} {m : Nat} {news : List Value} (hy : a.eval s = y) (hx : Src w 1 y m news) (h1 : ∀ u ∈ news, u.oneCell' = true)
    (hm : m ≤ dLen) {g off : Nat} {cur : List Value} {ct : TypeId} (hpos : 0 < m → dp = some ⟨g, off, none⟩) (hg : w.heap[g]? = some (.cells cur.toArray ct (0, 0))) (hfit : off + m ≤ cur.length)
    (h : ∀ w', w'.heap[g]? = some (.cells (splice cur off news).toArray ct (0, 0)) → Step w w' (some g) → wpList P ops Q rest (a.put o.dst (.int .i64 (m : Int))) w') : wpList P ops Q (o :: rest) a w := by
  obtain ⟨hl, hx⟩ := hx
  obtain ⟨ht, ⟨i, hi, hz, hsize, hby⟩, hzs, hsz⟩ := E
  have hsz' : (P.info? e).map (·.size) = some 1 := by rw [hi]; simp [hsize]
  rw [Nat.mul_one] at hl
  by_cases h0 : m = 0
  · subst h0
    have hn : news = [] := List.eq_nil_of_length_eq_zero hl
    subst hn
    have hh : wpList P ops Q rest (a.put o.dst (goInt 0)) w := h w (by simpa [splice] using hg) (Step.refl w _)
    rcases hx with ⟨rfl, _⟩ | ⟨ad, c, rfl, _⟩
    · exact wpList_copy_nothing hgd d s t t' ho e ht hsz' dp none dLen dCap 0 0 hd hy (Nat.zero_min _) hh
    · exact wpList_copy_nothing hgd d s t t' ho e ht hsz' dp (some ad) dLen dCap 0 c hd hy (Nat.zero_min _) hh
  · rcases hx with ⟨rfl, e0⟩ | ⟨ad, c, rfl, hsrc⟩
    · exact absurd e0 h0
    have hp := hpos (by omega)
    subst hp
    refine wpList_copy_own hgd d s t t' ho e ht hsz' g off dLen dCap ad m c hd hy cur.toArray ct hg news (by rw [hl]; exact (Nat.min_eq_left hm).symm) hsrc (by simpa [hl] using hfit) h1 ?_
    rw [hl]
    refine h _ (by simpa [splice, hl] using setRow_heap w g _ _ ct _ hg) ⟨rfl, rfl, rfl, by simp [World.setRow], fun k _ hk => setRow_other w g k _ (fun e => hk (by simp [e]))⟩

theorem pushes (l : List UInt8) : ∀ r : ByteArray, (l.map fun x => (x.toNat : Int)).foldl (fun r n => r.push (UInt8.ofNat n.toNat)) r = ⟨r.data ++ l.toArray⟩ := by
  induction l with
  | nil => intro r; simp
  | cons x l ih =>
    intro r
    rw [List.map_cons, List.foldl_cons, ih]
    simp [ByteArray.push]

/-- 'string(b)', as a fact for the walk. -/
theorem string_of_bytes {src dst e : TypeId} (hs : P.underlying src = some (.slice e)) (he : P.underlying e = some (.int .u8)) (hd : P.underlying dst = some .string) {S : Nat → Prop} {v : Value} {l : List UInt8} (h : BytesIn w S v l) :
    (convert src dst v).run P w = .ok (.string ⟨l.toArray⟩) w := by
  obtain ⟨ao, cap, hv, h1, h2, h0, h3⟩ := h
  subst hv
  rw [run_convert_bytes_string w src dst e _ _ _ hs he hd]
  cases ao with
  | none =>
    have hl : l = [] := by
      have := h0 rfl
      rw [List.length_map] at h1
      exact List.eq_nil_of_length_eq_zero (by omega)
    subst hl
    simp [Conv.bytesToString, Sem.run_pure]
    rfl
  | some a =>
    have hr := run_loadCells_list (P := P) w a (l.map byteCell) (fun j u hj => by
      obtain ⟨b, off, ha, _, hc⟩ := h3 (by intro e; rw [e] at hj; simp at hj)
      cases ha
      rw [add_none]; exact hc j u hj)
    have hm : l.map byteCell = (l.map fun x => (x.toNat : Int)).map (Value.int .u8) := by rw [List.map_map]; rfl
    rw [run_bytesToString w a _ cap (l.map fun x => (x.toNat : Int)) (by rw [hr, hm]), pushes]
    simp

/-- 'x[l:]', as a fact for the walk. -/
theorem slice_l {t e : TypeId} (ht : P.underlying t = some (.slice e)) (h1 : (P.info? e).map (·.size) = some 1) (b off n cap k : Nat) (l : Int) (hl : l = k) (hk : k ≤ n) (_hn : n ≤ cap) :
    ∃ ad : Addr, (∀ wx, (Instr.slice t (.slice (some ⟨b, off, none⟩) n cap) (some (.int .i64 l)) none none).run P wx = .ok (.slice (some ad) (n - k) (cap - k)) wx) ∧ (k < cap → ad = ⟨b, off + k, none⟩) ∧ (k = cap → ad = ⟨b, off, none⟩) := by
  subst hl
  have he : P.elem t = e := by simp [Program.elem, ht]
  obtain ⟨i, hi, hs⟩ : ∃ i, P.info? e = some i ∧ i.size = 1 := by
    cases h : P.info? e with
    | none => rw [h] at h1; cases h1
    | some i => rw [h] at h1; exact ⟨i, rfl, by simpa using h1⟩
  refine ⟨if cap = k then ⟨b, off, none⟩ else ⟨b, off + k, none⟩, fun wx => ?_, fun h => by rw [if_neg (by omega)], fun h => by rw [if_pos h.symm]⟩
  rw [run_slice_l wx t _ _ _ (by rw [he]; exact ht) .i64 _ (by omega) (by omega), he]
  by_cases hc : cap = k <;> simp [sizeOf, typeInfo, hi, hs, sliced, hc, add_none]

/-- 'x[l:h:h]', as a fact for the walk. -/
theorem slice_lhh {t e : TypeId} (ht : P.underlying t = some (.slice e)) (h1 : (P.info? e).map (·.size) = some 1) (b off n cap k j : Nat) (l h : Int) (hl : l = k) (hh : h = j) (hk : k ≤ j) (hn : j ≤ cap) :
    ∃ ad : Addr, (∀ wx, (Instr.slice t (.slice (some ⟨b, off, none⟩) n cap) (some (.int .i64 l)) (some (.int .i64 h)) (some (.int .i64 h))).run P wx = .ok (.slice (some ad) (j - k) (j - k)) wx) ∧ (k < j → ad = ⟨b, off + k, none⟩) := by
  subst hl
  subst hh
  have he : P.elem t = e := by simp [Program.elem, ht]
  obtain ⟨i, hi, hs⟩ : ∃ i, P.info? e = some i ∧ i.size = 1 := by
    cases h : P.info? e with
    | none => rw [h] at h1; cases h1
    | some i => rw [h] at h1; exact ⟨i, rfl, by simpa using h1⟩
  refine ⟨if j = k then ⟨b, off, none⟩ else ⟨b, off + k, none⟩, fun wx => ?_, fun h => by rw [if_neg (by omega)]⟩
  rw [run_slice_lhm wx t _ _ _ (by rw [he]; exact ht) .i64 .i64 .i64 _ _ _ (by omega) (by omega) (by omega) (by omega), he]
  by_cases hc : j = k <;> simp [sizeOf, typeInfo, hi, hs, sliced, hc, add_none]

/-- 'x[l:h]', as a fact for the walk. -/
theorem slice_lh {t e : TypeId} (ht : P.underlying t = some (.slice e)) (h1 : (P.info? e).map (·.size) = some 1) (a : Option Addr) (n cap k j : Nat) (l h : Int) (hl : l = k) (hh : h = j) (hk : k ≤ j) (hn : j ≤ cap) :
    ∃ ad : Option Addr, (∀ wx, (Instr.slice t (.slice a n cap) (some (.int .i64 l)) (some (.int .i64 h)) none).run P wx = .ok (.slice ad (j - k) (cap - k)) wx) ∧ (k < cap → ad = a.map (·.add k)) ∧ (k = cap → ad = a) := by
  subst hl
  subst hh
  have he : P.elem t = e := by simp [Program.elem, ht]
  obtain ⟨i, hi, hs⟩ : ∃ i, P.info? e = some i ∧ i.size = 1 := by
    cases h : P.info? e with
    | none => rw [h] at h1; cases h1
    | some i => rw [h] at h1; exact ⟨i, rfl, by simpa using h1⟩
  refine ⟨if cap = k then a else a.map (·.add k), fun wx => ?_, fun h => by rw [if_neg (by omega)], fun h => by rw [if_pos h.symm]⟩
  rw [run_slice_lh wx t _ _ _ (by rw [he]; exact ht) .i64 .i64 _ _ (by omega) (by omega) (by omega), he]
  by_cases hc : cap = k <;> simp [sizeOf, typeInfo, hi, hs, sliced, hc]

theorem madeCells_one (z : Value) (n : Nat) : madeCells #[z] n = (List.replicate n z).toArray := by
  apply Array.ext'; simpa using toList_madeCells_one z n

end
end Go.My

/- More memory words for walks, over any program: pieces of slices. -/
namespace Go.My
open Go.RowKit
section
variable {P : Program}
/-- 'x[:h]', as a fact for the walk. -/

theorem slice_h {t e : TypeId} (ht : P.underlying t = some (.slice e)) (h1 : (P.info? e).map (·.size) = some 1) (b off n cap j : Nat) (h : Int) (hh : h = j) (hn : j ≤ cap) :
    ∀ wx, (Instr.slice t (.slice (some ⟨b, off, none⟩) n cap) none (some (.int .i64 h)) none).run P wx = .ok (.slice (some ⟨b, off, none⟩) j cap) wx := by
  subst hh
  have he : P.elem t = e := by simp [Program.elem, ht]
  obtain ⟨i, hi, hs⟩ : ∃ i, P.info? e = some i ∧ i.size = 1 := by
    cases h : P.info? e with
    | none => rw [h] at h1; cases h1
    | some i => rw [h] at h1; exact ⟨i, rfl, by simpa using h1⟩
  intro wx
  rw [run_slice_h wx t _ _ _ (by rw [he]; exact ht) .i64 _ (by omega) (by omega), he]
  simp [sizeOf, typeInfo, hi, sliced, add_none]

/-- A piece of what reads. -/
theorem RowIn.cut {w : World} {S : Nat → Prop} {b off n cap : Nat} {xs : List Value} (h : RowIn w S (.slice (some ⟨b, off, none⟩) n cap) xs) (k j c : Nat) (hkj : k ≤ j) (hj : j ≤ xs.length) {ad : Addr} (hc : j - k ≤ c ∧ c ≤ maxLen) (had : k < j → ad = ⟨b, off + k, none⟩) :
    RowIn w S (.slice (some ad) (j - k) c) ((xs.drop k).take (j - k)) := by
  obtain ⟨ao, cap', hv, h1, h2, h0, h3⟩ := h
  cases hv
  have hlen : ((xs.drop k).take (j - k)).length = j - k := by rw [List.length_take, List.length_drop]; omega
  refine ⟨some ad, c, by rw [hlen], by rw [hlen]; exact hc.1, hc.2, (fun e => by cases e), fun hne => ?_⟩
  have hlt : k < j := by
    rcases Nat.lt_or_ge k j with h | h
    · exact h
    · exfalso; apply hne; apply List.eq_nil_of_length_eq_zero; rw [hlen]; omega
  obtain ⟨b', off', ha, hS, hcell⟩ := h3 (by intro e; subst e; simp at hj; omega)
  cases ha
  refine ⟨b, off + k, by rw [had hlt], hS, fun i u hi => ?_⟩
  have hi' : i < j - k := by have := (List.getElem?_eq_some_iff.1 hi).1; rw [hlen] at this; exact this
  rw [Nat.add_assoc]
  refine hcell (k + i) u ?_
  rw [← hi, List.getElem?_take, if_pos hi', List.getElem?_drop]

theorem BytesIn.cut {w : World} {S : Nat → Prop} {b off n cap : Nat} {l : List UInt8} (h : BytesIn w S (.slice (some ⟨b, off, none⟩) n cap) l) (k j c : Nat) (hkj : k ≤ j) (hj : j ≤ l.length) {ad : Addr} (hc : j - k ≤ c ∧ c ≤ maxLen) (had : k < j → ad = ⟨b, off + k, none⟩) :
    BytesIn w S (.slice (some ad) (j - k) c) ((l.drop k).take (j - k)) := by
  have := RowIn.cut h k j c hkj (by rw [List.length_map]; exact hj) hc had
  rw [← List.map_drop, ← List.map_take] at this
  exact this


theorem FramesIn.cells {w : World} {S : Nat → Prop} {ao : Option Addr} {n cap : Nat} {ls : List (List UInt8)} (h : FramesIn w S (.slice ao n cap) ls) (hl : 0 < ls.length) :
    ∃ b off, ao = some ⟨b, off, none⟩ ∧ S b ∧ ∀ j (hj : j < ls.length), ∃ u, w.cell? ⟨b, off + j, none⟩ = some u ∧ BytesIn w S u (ls[j]) := by
  obtain ⟨_, _, ea, _, _, _, hx⟩ := h.open_
  cases ea
  exact hx hl

theorem BytesIn.cells {w : World} {S : Nat → Prop} {ao : Option Addr} {n cap : Nat} {l : List UInt8} (h : BytesIn w S (.slice ao n cap) l) (hl : 0 < l.length) :
    ∃ b off, ao = some ⟨b, off, none⟩ ∧ S b ∧ ∀ j (hj : j < l.length), w.cell? ⟨b, off + j, none⟩ = some (.int .u8 ((l[j]).toNat : Int)) := by
  obtain ⟨_, _, ea, _, _, _, hx⟩ := h.open_
  cases ea
  exact hx hl

/-- APPEND, AS ONE STEP OF A REGION THAT DRAWS ITS ORDER: for 'go_region_law (refine step_append ..)'. -/
theorem step_append {w : World} {ops : Array Oper} {o : Oper} {a : Act} {K : Act → World → Prop} {Q : Exit → Act → World → Prop} {X : Prop} (hgd : o.guard = none) (s x : Operand) {t e : TypeId}
    (ho : o.op = .call { callee := .builtin .append, args := #[s, x], argTypes := #[t, t] }) {size bytes : Nat} {z : Value} (E : Elem P t e size bytes z)
    {v : Value} {n : Nat} {xs : List Value} {g : Option Nat} (hs : a.eval s = v) (hown : Own w e size v n xs g) {y : Value} {m : Nat} {news : List Value} (hy : a.eval x = y) (hx : Src w size y m news) (h1 : ∀ u ∈ news, u.oneCell' = true)
    (h63 : n + m ≤ maxLen) (hbytes : (n + m) * bytes ≤ 140737488355328)
    (h : ∀ v' w' g', Own w' e size v' (n + m) (xs ++ news) g' → Step w w' g → (g' = g ∨ ∃ k, g' = some k ∧ w.heap.size ≤ k) → K (a.put o.dst v') w') :
    if Region.wanted o (yielded ops a.tmps) = true then Oper.wp P o a w K Q else X := by
  have hw : Region.wanted o (yielded ops a.tmps) = true := by simp [Region.wanted, hgd]
  rw [if_pos hw]
  obtain ⟨v', w', g', hr, h2, h3, h4⟩ := run_append w E o.type hown hx h1 h63 hbytes
  unfold Oper.wp execOp
  simp only [ho, resolve, invoke, builtin, Sem.run_bind, Sem.run_pure, Result.andThen_ok, List.map_toArray, List.map_cons, List.map_nil, hs, hy, hr]
  exact h v' w' g' h2 h3 h4
end
end Go.My

/- Memory by owners: each block has a number (whose it is); a step says whose blocks it may turn; what is read of another's stays. No program in sight. -/
namespace Go.My
open Go.RowKit

/-- Whose each block is; 0: of what was there when the call began. -/
abbrev Tags := Nat → Nat

def Tags.ext (g : Tags) (n t : Nat) : Tags := fun b => if b < n then g b else t

/-- A step: of the blocks that were there only those of T have turned. -/
structure Turn (w : World) (g : Tags) (w' : World) (g' : Tags) (T : List Nat) : Prop where
  os : w'.os = w.os
  tape : w'.tape = w.tape
  output : w'.output = w.output
  size : w.heap.size ≤ w'.heap.size
  old : ∀ b, b < w.heap.size → g' b = g b
  block : ∀ b, b < w.heap.size → g b ∉ T → w'.heap[b]? = w.heap[b]?

theorem Turn.refl (w : World) (g : Tags) (T : List Nat) : Turn w g w g T := ⟨rfl, rfl, rfl, Nat.le_refl _, fun _ _ => rfl, fun _ _ _ => rfl⟩

theorem Turn.trans {w w1 w2 : World} {g g1 g2 : Tags} {T U V : List Nat} (h : Turn w g w1 g1 T) (k : Turn w1 g1 w2 g2 U) (hT : ∀ t, t ∈ T → t ∈ V) (hU : ∀ t, t ∈ U → t ∈ V) : Turn w g w2 g2 V :=
  ⟨k.os.trans h.os, k.tape.trans h.tape, k.output.trans h.output, Nat.le_trans h.size k.size,
    fun b hb => (k.old b (Nat.lt_of_lt_of_le hb h.size)).trans (h.old b hb),
    fun b hb hn => (k.block b (Nat.lt_of_lt_of_le hb h.size) (by rw [h.old b hb]; exact fun hm => hn (hU _ hm))).trans (h.block b hb (fun hm => hn (hT _ hm)))⟩

theorem Turn.mono {w w1 : World} {g g1 : Tags} {T V : List Nat} (h : Turn w g w1 g1 T) (hT : ∀ t, t ∈ T → t ∈ V) : Turn w g w1 g1 V :=
  ⟨h.os, h.tape, h.output, h.size, h.old, fun b hb hn => h.block b hb (fun hm => hn (hT _ hm))⟩

theorem Tags.ext_old (g : Tags) (n t b : Nat) (h : b < n) : g.ext n t b = g b := by unfold Tags.ext; rw [if_pos h]
theorem Tags.ext_new (g : Tags) (n t b : Nat) (h : n ≤ b) : g.ext n t b = t := by unfold Tags.ext; rw [if_neg (by omega)]

theorem Turn.of_step {w w' : World} {row : Option Nat} (h : Step w w' row) (g : Tags) (t : Nat) (hr : ∀ k, row = some k → g k = t) : Turn w g w' (g.ext w.heap.size t) [t] :=
  ⟨h.os, h.tape, h.output, h.size, fun b hb => Tags.ext_old _ _ _ _ hb, fun b hb hn => h.block b hb (fun e => hn (by rw [hr b e.symm]; exact List.mem_singleton.2 rfl))⟩

theorem Turn.of_below {w w' : World} (h : Below w.heap.size w w') (g : Tags) (t : Nat) : Turn w g w' (g.ext w.heap.size t) [] :=
  ⟨h.os, h.tape, h.output, h.size, fun _ hb => Tags.ext_old _ _ _ _ hb, fun b hb _ => h.block b hb⟩

theorem Turn.alloc (w : World) (g : Tags) (t : Nat) (o : Obj) : Turn w g (w.alloc o) (g.ext w.heap.size t) [] :=
  Turn.of_below ((Below.refl _ w).alloc (Nat.le_refl _) o) g t

theorem Turn.drew (w : World) (g : Tags) : Turn w g w.drew g [] := ⟨rfl, rfl, rfl, Nat.le_refl _, fun _ _ => rfl, fun _ _ _ => rfl⟩

theorem heap_drewN' (w : World) : ∀ n, (w.drewN n).heap = w.heap := by
  intro n
  induction n with
  | zero => rfl
  | succ n ih => exact ih
theorem below_drewN' (w : World) : ∀ n, Below w.heap.size w (w.drewN n) := by
  intro n
  induction n with
  | zero => exact Below.refl _ _
  | succ n ih => exact ih.drew
theorem Turn.drewN (w : World) (g : Tags) (n : Nat) : Turn w g (w.drewN n) g [] :=
  ⟨(below_drewN' w n).os, (below_drewN' w n).tape, (below_drewN' w n).output, (below_drewN' w n).size, fun _ _ => rfl, fun b hb _ => (below_drewN' w n).block b hb⟩

theorem Turn.setCell (w : World) (g : Tags) (a : Addr) (u : Value) (hs : (w.setCell a u).heap.size = w.heap.size) (ho : (w.setCell a u).os = w.os) (ht : (w.setCell a u).tape = w.tape) (hp : (w.setCell a u).output = w.output) : Turn w g (w.setCell a u) g [g a.block] :=
  ⟨ho, ht, hp, by rw [hs]; exact Nat.le_refl _, fun _ _ => rfl, fun b _ hn => Below.heap_setCell w a u b (fun e => hn (by rw [e]; exact List.mem_singleton.2 rfl))⟩

/-- Since the call began. -/
structure Since (w0 w : World) (g : Tags) : Prop where
  below : Below w0.heap.size w0 w
  zero : ∀ b, b < w0.heap.size → g b = 0

theorem Since.start (w : World) : Since w w (fun _ => 0) := ⟨Below.refl _ _, fun _ _ => rfl⟩

theorem Since.turn {w0 w w' : World} {g g' : Tags} {T : List Nat} (h : Since w0 w g) (k : Turn w g w' g' T) (h0 : 0 ∉ T) : Since w0 w' g' :=
  ⟨h.below.trans ⟨k.os, k.tape, k.output, k.size, fun b hb => k.block b (Nat.lt_of_lt_of_le hb h.below.size) (by rw [h.zero b hb]; exact h0)⟩,
    fun b hb => (k.old b (Nat.lt_of_lt_of_le hb h.below.size)).trans (h.zero b hb)⟩

/-! ### What is read, by owner -/
def Row (w : World) (g : Tags) (t : Nat) (v : Value) (xs : List Value) : Prop := RowIn w (fun b => g b = t) v xs
def Bytes (w : World) (g : Tags) (t : Nat) (v : Value) (l : List UInt8) : Prop := BytesIn w (fun b => g b = t) v l
def Frames (w : World) (g : Tags) (t : Nat) (v : Value) (ls : List (List UInt8)) : Prop := FramesIn w (fun b => g b = t) v ls

theorem Turn.keeps {w w' : World} {g g' : Tags} {T : List Nat} (k : Turn w g w' g' T) {t : Nat} (ht : t ∉ T) (b : Nat) (hb : g' b = t) (hlt : b < w.heap.size) : w'.heap[b]? = w.heap[b]? :=
  k.block b hlt (by rw [← k.old b hlt, hb]; exact ht)

theorem Row.turn {w w' : World} {g g' : Tags} {T : List Nat} {t : Nat} {v : Value} {xs : List Value} (h : Row w g t v xs) (k : Turn w g w' g' T) (ht : t ∉ T) : Row w' g' t v xs :=
  (RowIn.mono h (fun b hb hs => (k.old b hb).trans hs)).frame fun b hb hlt => k.keeps ht b hb hlt
theorem Bytes.turn {w w' : World} {g g' : Tags} {T : List Nat} {t : Nat} {v : Value} {l : List UInt8} (h : Bytes w g t v l) (k : Turn w g w' g' T) (ht : t ∉ T) : Bytes w' g' t v l :=
  (BytesIn.mono h (fun b hb hs => (k.old b hb).trans hs)).frame fun b hb hlt => k.keeps ht b hb hlt
theorem Frames.turn {w w' : World} {g g' : Tags} {T : List Nat} {t : Nat} {v : Value} {ls : List (List UInt8)} (h : Frames w g t v ls) (k : Turn w g w' g' T) (ht : t ∉ T) : Frames w' g' t v ls :=
  (FramesIn.mono h (fun b hb hs => (k.old b hb).trans hs)).frame fun b hb hlt => k.keeps ht b hb hlt

theorem own_form {w : World} {e : TypeId} {size : Nat} {v : Value} {n : Nat} {xs : List Value} {g : Option Nat} (h : Own w e size v n xs g) : ∃ ao cap, v = .slice ao n cap := by
  rcases h.2 with ⟨rfl, rfl, _⟩ | ⟨b, off, cap, cur, rfl, _⟩
  · exact ⟨none, 0, rfl⟩
  · exact ⟨_, cap, rfl⟩

/-- A slice that the call owns. -/
def Owns (w : World) (g : Tags) (t : Nat) (e : TypeId) (size : Nat) (v : Value) (n : Nat) (xs : List Value) : Prop :=
  ∃ k, Own w e size v n xs k ∧ ∀ b, k = some b → g b = t

theorem Owns.turn {w w' : World} {g g' : Tags} {T : List Nat} {t : Nat} {e : TypeId} {size : Nat} {v : Value} {n : Nat} {xs : List Value} (h : Owns w g t e size v n xs) (k : Turn w g w' g' T) (ht : t ∉ T) : Owns w' g' t e size v n xs := by
  obtain ⟨r, ho, hr⟩ := h
  refine ⟨r, ho.frame fun b hb => k.block b (ho.lt b hb) (by rw [hr b hb]; exact ht), fun b hb => (k.old b (ho.lt b hb)).trans (hr b hb)⟩

theorem Owns.nil (w : World) (g : Tags) (t : Nat) (e : TypeId) (size : Nat) : Owns w g t e size (.slice none 0 0) 0 [] := ⟨none, Own.nil w e size, fun _ h => by cases h⟩

theorem Owns.row {w : World} {g : Tags} {t : Nat} {e : TypeId} {v : Value} {n : Nat} {xs : List Value} (h : Owns w g t e 1 v n xs) : Row w g t v xs := by
  obtain ⟨r, ho, hr⟩ := h
  exact (Own.row ho).mono (fun b _ hb => hr b hb)
theorem Owns.bytes {w : World} {g : Tags} {t : Nat} {v : Value} {n : Nat} {l : List UInt8} {e : TypeId} (h : Owns w g t e 1 v n (l.map byteCell)) : Bytes w g t v l := h.row
theorem Owns.form {w : World} {g : Tags} {t : Nat} {e : TypeId} {size : Nat} {v : Value} {n : Nat} {xs : List Value} (h : Owns w g t e size v n xs) : ∃ ao cap, v = .slice ao n cap := by
  obtain ⟨r, ho, hr⟩ := h
  exact own_form ho

/-- A piece of what reads. -/
theorem Bytes.cut {w : World} {g : Tags} {t : Nat} {b off n cap : Nat} {l : List UInt8} (h : Bytes w g t (.slice (some ⟨b, off, none⟩) n cap) l) (k j c : Nat) (hkj : k ≤ j) (hj : j ≤ l.length) {ad : Addr} (hc : j - k ≤ c ∧ c ≤ maxLen) (had : k < j → ad = ⟨b, off + k, none⟩) :
    Bytes w g t (.slice (some ad) (j - k) c) ((l.drop k).take (j - k)) := BytesIn.cut h k j c hkj hj hc had

/-- The only one. -/
theorem Frames.one {w : World} {g : Tags} {t : Nat} {ao : Option Addr} {n cap : Nat} {l : List UInt8} (h : Frames w g t (.slice ao n cap) [l]) :
    ∃ b off a' c', ao = some ⟨b, off, none⟩ ∧ w.cell? ⟨b, off, none⟩ = some (.slice a' l.length c') ∧ Bytes w g t (.slice a' l.length c') l := by
  obtain ⟨b, off, e, _, hc⟩ := FramesIn.cells h (by simp)
  obtain ⟨u, hu, hb⟩ := hc 0 (by simp)
  obtain ⟨a', c', e', _⟩ := BytesIn.open_ hb
  simp only [List.getElem_cons_zero] at e'
  subst e'
  exact ⟨b, off, a', c', e, by rw [Nat.add_zero] at hu; exact hu, hb⟩

theorem Bytes.src {w : World} {g : Tags} {t : Nat} {v : Value} {l : List UInt8} (h : Bytes w g t v l) : Src w 1 v l.length (l.map byteCell) := BytesIn.src h

section
variable {P : Program} (w : World)
/-- APPEND, FOR THE WALK. -/
theorem wpList_append_t {ops : Array Oper} {rest : List Oper} {o : Oper} {a : Act} {Q : Exit → Act → World → Prop} (hgd : o.guard = none) (s x : Operand) {t e : TypeId}
    (ho : o.op = .call { callee := .builtin .append, args := #[s, x], argTypes := #[t, t] }) {size bytes : Nat} {z : Value} (E : Elem P t e size bytes z)
    {v : Value} {n : Nat} {xs : List Value} {g : Tags} {tg : Nat} (hs : a.eval s = v) (hown : Owns w g tg e size v n xs) {y : Value} {m : Nat} {news : List Value} (hy : a.eval x = y) (hx : Src w size y m news) (h1 : ∀ u ∈ news, u.oneCell' = true)
    (h63 : n + m ≤ maxLen) (hbytes : (n + m) * bytes ≤ 140737488355328)
    (h : ∀ ao cap w' g', Owns w' g' tg e size (.slice ao (n + m) cap) (n + m) (xs ++ news) → Turn w g w' g' [tg] → wpList P ops Q rest (a.put o.dst (.slice ao (n + m) cap)) w') : wpList P ops Q (o :: rest) a w := by
  obtain ⟨k, ho', hk⟩ := hown
  refine wpList_append w hgd s x ho E hs ho' hy hx h1 h63 hbytes fun v' w' k' h2 h3 h4 => ?_
  obtain ⟨ao, cap, rfl⟩ := own_form h2
  refine h ao cap w' (g.ext w.heap.size tg) ⟨k', h2, fun b hb => ?_⟩ (Turn.of_step h3 g tg hk)
  rcases h4 with rfl | ⟨j, hj, hge⟩
  · rw [Tags.ext_old _ _ _ _ (ho'.lt b hb)]; exact hk b hb
  · rw [hj] at hb; cases hb; exact Tags.ext_new _ _ _ _ hge

/-- APPEND, AS ONE STEP OF A REGION THAT DRAWS ITS ORDER: for 'go_region_law (refine step_append_t ..)'. -/
theorem step_append_t {w : World} {ops : Array Oper} {o : Oper} {a : Act} {K : Act → World → Prop} {Q : Exit → Act → World → Prop} {X : Prop} (hgd : o.guard = none) (s x : Operand) {t e : TypeId}
    (ho : o.op = .call { callee := .builtin .append, args := #[s, x], argTypes := #[t, t] }) {size bytes : Nat} {z : Value} (E : Elem P t e size bytes z)
    {v : Value} {n : Nat} {xs : List Value} {g : Tags} {tg : Nat} (hs : a.eval s = v) (hown : Owns w g tg e size v n xs) {y : Value} {m : Nat} {news : List Value} (hy : a.eval x = y) (hx : Src w size y m news) (h1 : ∀ u ∈ news, u.oneCell' = true)
    (h63 : n + m ≤ maxLen) (hbytes : (n + m) * bytes ≤ 140737488355328)
    (h : ∀ ao cap w' g', Owns w' g' tg e size (.slice ao (n + m) cap) (n + m) (xs ++ news) → Turn w g w' g' [tg] → K (a.put o.dst (.slice ao (n + m) cap)) w') :
    if Region.wanted o (yielded ops a.tmps) = true then Oper.wp P o a w K Q else X := by
  obtain ⟨k, ho', hk⟩ := hown
  refine step_append hgd s x ho E hs ho' hy hx h1 h63 hbytes fun v' w' k' h2 h3 h4 => ?_
  obtain ⟨ao, cap, rfl⟩ := own_form h2
  refine h ao cap w' (g.ext w.heap.size tg) ⟨k', h2, fun b hb => ?_⟩ (Turn.of_step h3 g tg hk)
  rcases h4 with rfl | ⟨j, hj, hge⟩
  · rw [Tags.ext_old _ _ _ _ (ho'.lt b hb)]; exact hk b hb
  · rw [hj] at hb; cases hb; exact Tags.ext_new _ _ _ _ hge
end
end Go.My

/- Nodes in memory: what a slice of nodes reads as. No program in sight. -/
namespace Go.My
open Go.RowKit Go.Nd

/-- A string of these bytes. -/
def tx (l : List UInt8) : ByteArray := ⟨l.toArray⟩

/-- A slice's length and room; tw: there is room behind. -/
def Room (tw : Bool) (n c : Nat) : Prop := n ≤ c ∧ c ≤ maxLen ∧ n * 96 ≤ 140737488351232 ∧ (tw = true → n < c)

/-- The mark that stands behind a copy's nodes. -/
def NodeMark (w : World) (b off : Nat) : Prop :=
  w.cell? ⟨b, off, none⟩ = some (.int .u8 0) ∧ w.cell? ⟨b, off + 1, none⟩ = some (.string (tx [115, 112, 97, 114, 101])) ∧ w.cell? ⟨b, off + 2, none⟩ = some (.slice none 0 0) ∧ w.cell? ⟨b, off + 3, none⟩ = some (.slice none 0 0) ∧ w.cell? ⟨b, off + 4, none⟩ = some (.slice none 0 0)
theorem NodeMark.frame {w w' : World} {b off : Nat} (h : NodeMark w b off) (hs : w'.heap[b]? = w.heap[b]?) : NodeMark w' b off := by
  have e : ∀ o, w'.cell? ⟨b, o, none⟩ = w.cell? ⟨b, o, none⟩ := fun o => World.cell?_of_block hs
  exact ⟨(e _).trans h.1, (e _).trans h.2.1, (e _).trans h.2.2.1, (e _).trans h.2.2.2.1, (e _).trans h.2.2.2.2⟩
theorem NodeMark.lt {w : World} {b off : Nat} (h : NodeMark w b off) : b < w.heap.size := World.block_lt_of_cell? w _ h.1

/-- From an address on stand these nodes, all in blocks of S; tw: behind each list stands a mark. -/
inductive NodesAt (w : World) (S : Nat → Prop) (tw : Bool) : Option Addr → Ns → Prop
  | nil (a : Option Addr) (h : tw = true → ∃ b off, a = some ⟨b, off, none⟩ ∧ S b ∧ NodeMark w b off) : NodesAt w S tw a .nil
  | cons {b off k : Nat} {t : List UInt8} {l body els r : Ns} {a1 a2 a3 : Option Addr} {c1 c2 c3 : Nat} (hS : S b) (hk : k < 256) (ht : t.length ≤ 140737488351232)
      (d0 : w.cell? ⟨b, off, none⟩ = some (.int .u8 (k : Int))) (d1 : w.cell? ⟨b, off + 1, none⟩ = some (.string (tx t)))
      (d2 : w.cell? ⟨b, off + 2, none⟩ = some (.slice a1 l.len c1)) (d3 : w.cell? ⟨b, off + 3, none⟩ = some (.slice a2 body.len c2)) (d4 : w.cell? ⟨b, off + 4, none⟩ = some (.slice a3 els.len c3))
      (r1 : Room tw l.len c1) (r2 : Room tw body.len c2) (r3 : Room tw els.len c3)
      (h1 : NodesAt w S tw a1 l) (h2 : NodesAt w S tw a2 body) (h3 : NodesAt w S tw a3 els) (h4 : NodesAt w S tw (some ⟨b, off + 5, none⟩) r) : NodesAt w S tw (some ⟨b, off, none⟩) (.cons k t l body els r)

theorem NodesAt.frame {w w' : World} {S : Nat → Prop} {tw : Bool} {a : Option Addr} {xs : Ns} (h : NodesAt w S tw a xs) (hs : ∀ b, S b → b < w.heap.size → w'.heap[b]? = w.heap[b]?) : NodesAt w' S tw a xs := by
  have cell : ∀ b o u, S b → w.cell? ⟨b, o, none⟩ = some u → w'.cell? ⟨b, o, none⟩ = some u := fun b o u hS h =>
    (World.cell?_of_block (hs b hS (World.block_lt_of_cell? w _ h))).trans h
  induction h with
  | nil a h =>
    refine .nil a fun e => ?_
    obtain ⟨b, off, h1, h2, h3⟩ := h e
    exact ⟨b, off, h1, h2, h3.frame (hs b h2 h3.lt)⟩
  | cons hS hk ht d0 d1 d2 d3 d4 r1 r2 r3 _ _ _ _ i1 i2 i3 i4 =>
    exact .cons hS hk ht (cell _ _ _ hS d0) (cell _ _ _ hS d1) (cell _ _ _ hS d2) (cell _ _ _ hS d3) (cell _ _ _ hS d4) r1 r2 r3 i1 i2 i3 i4

theorem NodesAt.mono {w : World} {S T : Nat → Prop} {tw : Bool} {a : Option Addr} {xs : Ns} (h : NodesAt w S tw a xs) (hs : ∀ b, b < w.heap.size → S b → T b) : NodesAt w T tw a xs := by
  induction h with
  | nil a h =>
    refine .nil a fun e => ?_
    obtain ⟨b, off, h1, h2, h3⟩ := h e
    exact ⟨b, off, h1, hs _ h3.lt h2, h3⟩
  | cons hS hk ht d0 d1 d2 d3 d4 r1 r2 r3 _ _ _ _ i1 i2 i3 i4 =>
    exact .cons (hs _ (World.block_lt_of_cell? w _ d0) hS) hk ht d0 d1 d2 d3 d4 r1 r2 r3 i1 i2 i3 i4

/-- v reads as these nodes. -/
def Nodes (w : World) (S : Nat → Prop) (tw : Bool) (v : Value) (xs : Ns) : Prop := ∃ a c, v = .slice a xs.len c ∧ Room tw xs.len c ∧ NodesAt w S tw a xs

theorem Nodes.frame {w w' : World} {S : Nat → Prop} {tw : Bool} {v : Value} {xs : Ns} (h : Nodes w S tw v xs) (hs : ∀ b, S b → b < w.heap.size → w'.heap[b]? = w.heap[b]?) : Nodes w' S tw v xs := by
  obtain ⟨a, c, h1, h2, h3⟩ := h; exact ⟨a, c, h1, h2, h3.frame hs⟩
theorem Nodes.mono {w : World} {S T : Nat → Prop} {tw : Bool} {v : Value} {xs : Ns} (h : Nodes w S tw v xs) (hs : ∀ b, b < w.heap.size → S b → T b) : Nodes w T tw v xs := by
  obtain ⟨a, c, h1, h2, h3⟩ := h; exact ⟨a, c, h1, h2, h3.mono hs⟩
theorem Nodes.below {w w' : World} {B : Nat} {tw : Bool} {v : Value} {xs : Ns} (h : Nodes w (· < B) tw v xs) (hb : Below B w w') : Nodes w' (· < B) tw v xs := h.frame fun b hB _ => hb.block b hB

/-- The five cells of one. -/
structure NodeAt (w : World) (S : Nat → Prop) (tw : Bool) (b off : Nat) (x : Nd) (v1 v2 v3 : Value) : Prop where
  kind : x.kind < 256
  text : x.text.length ≤ 140737488351232
  d0 : w.cell? ⟨b, off, none⟩ = some (.int .u8 (x.kind : Int))
  d1 : w.cell? ⟨b, off + 1, none⟩ = some (.string (tx x.text))
  d2 : w.cell? ⟨b, off + 2, none⟩ = some v1
  d3 : w.cell? ⟨b, off + 3, none⟩ = some v2
  d4 : w.cell? ⟨b, off + 4, none⟩ = some v3
  l : Nodes w S tw v1 x.l
  body : Nodes w S tw v2 x.body
  els : Nodes w S tw v3 x.els

theorem NodesAt.at {w : World} {S : Nat → Prop} {tw : Bool} {a : Option Addr} {xs : Ns} (h : NodesAt w S tw a xs) : ∀ i (hi : i < xs.items.length), ∃ b off v1 v2 v3, a = some ⟨b, off, none⟩ ∧ S b ∧ NodeAt w S tw b (off + i * 5) xs.items[i] v1 v2 v3 := by
  induction h with
  | nil a h => intro i hi; exact absurd hi (Nat.not_lt_zero _)
  | @cons b off k t l body els r a1 a2 a3 c1 c2 c3 hS hk ht d0 d1 d2 d3 d4 r1 r2 r3 h1 h2 h3 _ _ _ _ i4 =>
    intro i hi
    cases i with
    | zero => exact ⟨b, off, _, _, _, rfl, hS, hk, ht, by rw [Nat.zero_mul, Nat.add_zero]; exact d0, by rw [Nat.zero_mul, Nat.add_zero]; exact d1, by rw [Nat.zero_mul, Nat.add_zero]; exact d2, by rw [Nat.zero_mul, Nat.add_zero]; exact d3, by rw [Nat.zero_mul, Nat.add_zero]; exact d4, ⟨a1, c1, rfl, r1, h1⟩, ⟨a2, c2, rfl, r2, h2⟩, ⟨a3, c3, rfl, r3, h3⟩⟩
    | succ i =>
      obtain ⟨b', off', v1, v2, v3, e, hS', hN⟩ := i4 i (by simpa [Ns.items_cons] using hi)
      cases e
      refine ⟨b, off, v1, v2, v3, rfl, hS, ?_⟩
      have e : off + (i + 1) * 5 = off + 5 + i * 5 := by omega
      rw [e]
      exact hN

/-- For a loop: the slice's form, and each node under its condition. -/
theorem Nodes.open_ {w : World} {S : Nat → Prop} {tw : Bool} {v : Value} {xs : Ns} (h : Nodes w S tw v xs) :
    ∃ a c, v = .slice a xs.items.length c ∧ Room tw xs.items.length c ∧ ∀ i (hi : i < xs.items.length), ∃ b off v1 v2 v3, a = some ⟨b, off, none⟩ ∧ S b ∧ NodeAt w S tw b (off + i * 5) xs.items[i] v1 v2 v3 := by
  obtain ⟨a, c, h1, h2, h3⟩ := h
  exact ⟨a, c, h1, h2, h3.at⟩

/-- Induction over a list of nodes: for each one of a list, of which it holds for the lists in it. -/
theorem Ns.each {P : Ns → Prop} (h : ∀ xs : Ns, (∀ x ∈ xs.items, P x.l ∧ P x.body ∧ P x.els) → P xs) : ∀ xs, P xs := by
  have key : ∀ xs : Ns, P xs ∧ ∀ x ∈ xs.items, P x.l ∧ P x.body ∧ P x.els := by
    intro xs
    induction xs with
    | nil => exact ⟨h _ (fun x hx => by cases hx), fun x hx => by cases hx⟩
    | cons k t l b e r il ib ie ir =>
      have : ∀ x ∈ (Ns.cons k t l b e r).items, P x.l ∧ P x.body ∧ P x.els := by
        intro x hx
        rw [Ns.items_cons] at hx
        rcases List.mem_cons.1 hx with rfl | hx
        · exact ⟨il.1, ib.1, ie.1⟩
        · exact ir.2 x hx
      exact ⟨h _ this, this⟩
  exact fun xs => (key xs).1
end Go.My

/- Trees: how deep nodes are. -/
namespace Go.My
open Go.Nd
theorem NodeAt.frame {w w' : World} {S : Nat → Prop} {tw : Bool} {b off : Nat} {x : Nd} {v1 v2 v3 : Value} (h : NodeAt w S tw b off x v1 v2 v3) (hS : S b) (hs : ∀ b, S b → b < w.heap.size → w'.heap[b]? = w.heap[b]?) : NodeAt w' S tw b off x v1 v2 v3 := by
  have hlt := World.block_lt_of_cell? w _ h.d0
  have e : ∀ o, w'.cell? ⟨b, o, none⟩ = w.cell? ⟨b, o, none⟩ := fun o => World.cell?_of_block (hs b hS hlt)
  exact ⟨h.kind, h.text, (e _).trans h.d0, (e _).trans h.d1, (e _).trans h.d2, (e _).trans h.d3, (e _).trans h.d4, h.l.frame hs, h.body.frame hs, h.els.frame hs⟩
theorem items_cons_drop (xs : Ns) (i : Nat) (hi : i < xs.items.length) : xs.items.drop i = xs.items[i] :: xs.items.drop (i + 1) := List.drop_eq_getElem_cons hi

/-- How deep a list of nodes is, from a place on. -/
def deepL (wrap : Int → Int) : List Nd → Int
  | [] => 0
  | x :: r => max (wrap (1 + max (max (deep wrap x.l) (deep wrap x.body)) (deep wrap x.els))) (deepL wrap r)
theorem deep_items (wrap : Int → Int) (xs : Ns) : deep wrap xs = deepL wrap xs.items := by
  induction xs with
  | nil => rfl
  | cons k t l b e r _ _ _ ihr => rw [Ns.items_cons, deepL, ← ihr]; rfl
end Go.My
namespace Go.Proofs.YtmkhfonafcikdaaGreatDoor
open Go.RowKit Go.My Go.Nd

def wrapI : Int → Int := IntKind.i64.wrap

def DeepAt (w : World) (xs : Ns) (gk : Nat) (v2 v7 : Value) (wr : World) : Prop :=
  ∃ (i : Nat) (n : Int), i ≤ xs.items.length ∧ gk = xs.items.length - i ∧ v7 = .int .i64 (i : Int) ∧ v2 = .int .i64 n ∧ 0 ≤ n ∧ max n (deepL wrapI (xs.items.drop i)) = deepL wrapI xs.items ∧ Below w.heap.size w wr

theorem ite_max (a b : Int) : (if a < b then b else a) = max a b := by split <;> omega
theorem max_assoc3 (a b c : Int) : max a (max b c) = max (max a b) c := by omega
theorem max_step {n W R D : Int} (h : max n (max W R) = D) : max (max n W) R = D := by omega

/-- What the loop asks of the lists in a node. -/
def DeepSaid (tw : Bool) (x : Ns) : Prop := ∀ (w : World) (B : Nat) (v : Value), B ≤ w.heap.size → Nodes w (· < B) tw v x → Calls Tryz.prog 144 #[v] w fun e w' => e = .returned (.int .i64 (deep wrapI x)) ∧ Below w.heap.size w w'

theorem deep_arm {tw : Bool} {x : Ns} (hI : DeepSaid tw x) {w4 w' : World} {B : Nat} {v : Value} (hB : B ≤ w4.heap.size) (hN : Nodes w4 (· < B) tw v x) {X : Prop} (hS : X ∧ Below w4.heap.size w4 w') :
    Calls Tryz.prog 144 #[v] w' fun e w'' => e = .returned (.int .i64 (deep wrapI x)) ∧ Below w'.heap.size w' w'' :=
  hI w' B v (Nat.le_trans hB hS.2.size) (hN.below (hS.2.mono hB))

theorem keep3 {w4 w' w'' : World} {bx : Nat} {v1 v2 v3 : Value} (hlt : bx < w4.heap.size) (hS : (w'.cell? ⟨bx, 2, none⟩ = some v1 ∧ w'.cell? ⟨bx, 3, none⟩ = some v2 ∧ w'.cell? ⟨bx, 4, none⟩ = some v3) ∧ Below w4.heap.size w4 w') (hk : Below w'.heap.size w' w'') :
    (w''.cell? ⟨bx, 2, none⟩ = some v1 ∧ w''.cell? ⟨bx, 3, none⟩ = some v2 ∧ w''.cell? ⟨bx, 4, none⟩ = some v3) ∧ Below w4.heap.size w4 w'' := by
  obtain ⟨⟨h2, h3, h4⟩, hb⟩ := hS
  have e : ∀ o, w''.cell? ⟨bx, o, none⟩ = w'.cell? ⟨bx, o, none⟩ := fun o => World.cell?_of_block (hk.block bx (Nat.lt_of_lt_of_le hlt hb.size))
  exact ⟨⟨(e _).trans h2, (e _).trans h3, (e _).trans h4⟩, hb.trans (hk.mono hb.size)⟩

set_option maxHeartbeats 4000000 in
theorem deep_said (tw : Bool) : ∀ xs, DeepSaid tw xs := by
  refine Ns.each fun xs ih w B v hB hv => ?_
  obtain ⟨a, c, rfl, hr, hc⟩ := hv.open_
  have HI := Lib.hid ih
  have HV := Lib.hid hv
  have HC := Lib.hid hc
  have l0 : (0 : Int) ≤ (xs.items.length : Int) := by omega
  have l1 : (xs.items.length : Int) ≤ 140737488351232 := by have := hr.2.2.1; omega
  clear ih hv hc hr
  go_enter Tryz.func144, Tryz.ntmps144
  go_wp2_with fail
  go_loopg [2, 7] xs.items.length (fun gk v2 v7 wr => DeepAt w xs gk v2 v7 wr)
  case atStart => exact ⟨0, 0, Nat.zero_le _, rfl, rfl, rfl, Int.le_refl _, by rw [List.drop_zero, ← deep_items]; have := deep_nonneg wrapI xs; omega, Below.refl _ _⟩
  case round =>
    obtain ⟨i, n, hi, rfl, rfl, rfl, hn, hd, hb⟩ := hrel
    have i0 : (0 : Int) ≤ (i : Int) := by omega
    by_cases hlt : i < xs.items.length
    · have i1 : (i : Int) < (xs.items.length : Int) := by omega
      obtain ⟨b, off, v1, v2, v3, rfl, hS, hN⟩ := HC.out i hlt
      have hN' := hN.frame hS fun k hk _ => hb.block k (Nat.lt_of_lt_of_le hk hB)
      obtain ⟨x, hx⟩ : ∃ x, x = xs.items[i] := ⟨_, rfl⟩
      rw [← hx] at hN'
      obtain ⟨kd, tt, xl, xb, xe⟩ := x
      have d0 := hN'.d0
      have d1 := hN'.d1
      have d2 := hN'.d2
      have d3 := hN'.d3
      have d4 := hN'.d4
      obtain ⟨a1, c1, rfl, s1, m1⟩ := hN'.l
      obtain ⟨a2, c2, rfl, s2, m2⟩ := hN'.body
      obtain ⟨a3, c3, rfl, s3, m3⟩ := hN'.els
      simp only at d0 d1 d2 d3 d4
      have n1 : Nodes wr (· < B) tw (.slice a1 xl.len c1) xl := ⟨a1, c1, rfl, s1, m1⟩
      have n2 : Nodes wr (· < B) tw (.slice a2 xb.len c2) xb := ⟨a2, c2, rfl, s2, m2⟩
      have n3 : Nodes wr (· < B) tw (.slice a3 xe.len c3) xe := ⟨a3, c3, rfl, s3, m3⟩
      have hBr : B ≤ wr.heap.size := Nat.le_trans hB hb.size
      have hA := Below.alloc (Below.refl wr.heap.size wr) (Nat.le_refl _) (.cells #[.int .u8 (kd : Int), .string (tx tt), .slice a1 xl.len c1, .slice a2 xb.len c2, .slice a3 xe.len c3] 61)
      have hI := HI.out _ (List.getElem_mem hlt)
      rw [← hx] at hI
      have hdr := items_cons_drop xs i hlt
      have Y := Lib.hid (And.intro hb (And.intro hd (And.intro hx (And.intro hdr (And.intro (n1.below (hA.mono hBr)) (And.intro (n2.below (hA.mono hBr)) (And.intro (n3.below (hA.mono hBr)) (And.intro hA (And.intro hBr hI)))))))))
      clear hN hN' s1 s2 s3 m1 m2 m3 n1 n2 n3 hb hd hx hdr hA hBr hI hS
      go_upto_region 4 with fail
      obtain ⟨bx, hbx⟩ : ∃ bx, bx = wr.heap.size := ⟨_, rfl⟩
      obtain ⟨w4, hw4⟩ : ∃ w4, w4 = wr.alloc (.cells #[.int .u8 (kd : Int), .string (tx tt), .slice a1 xl.len c1, .slice a2 xb.len c2, .slice a3 xe.len c3] 61) := ⟨_, rfl⟩
      have hnew : w4.heap[bx]? = some (.cells #[.int .u8 (kd : Int), .string (tx tt), .slice a1 xl.len c1, .slice a2 xb.len c2, .slice a3 xe.len c3] 61 (0, 0)) := by rw [hw4, hbx]; exact heap_alloc_new wr _
      have hlt4 : bx < w4.heap.size := (Array.getElem?_eq_some_iff.1 hnew).1
      have e2 : w4.cell? ⟨bx, 2, none⟩ = some (.slice a1 xl.len c1) := cell_of_row w4 bx 2 _ _ _ hnew
      have e3 : w4.cell? ⟨bx, 3, none⟩ = some (.slice a2 xb.len c2) := cell_of_row w4 bx 3 _ _ _ hnew
      have e4 : w4.cell? ⟨bx, 4, none⟩ = some (.slice a3 xe.len c3) := cell_of_row w4 bx 4 _ _ _ hnew
      rw [← hbx, ← hw4]
      rw [← hw4] at Y
      have HX := Lib.hid hbx
      clear hw4 hnew d0 d1 d2 d3 d4 hbx
      go_region_held3 (fun w' => (w'.cell? ⟨bx, 2, none⟩ = some (.slice a1 xl.len c1) ∧ w'.cell? ⟨bx, 3, none⟩ = some (.slice a2 xb.len c2) ∧ w'.cell? ⟨bx, 4, none⟩ = some (.slice a3 xe.len c3)) ∧ Below w4.heap.size w4 w')
        (first | assumption | exact ⟨⟨e2, e3, e4⟩, (Below.refl _ _).drew⟩ | exact keep3 hlt4 (by assumption) (by assumption))
        (first
          | (go_at_call_of 144 (Value.slice a1 xl.len c1); refine (deep_arm Y.out.2.2.2.2.2.2.2.2.2.1 (Nat.le_trans Y.out.2.2.2.2.2.2.2.2.1 Y.out.2.2.2.2.2.2.2.1.size) Y.out.2.2.2.2.1 (by assumption)).mono ?_; rintro e w'' ⟨rfl, hk⟩)
          | (go_at_call_of 144 (Value.slice a2 xb.len c2); refine (deep_arm Y.out.2.2.2.2.2.2.2.2.2.2.1 (Nat.le_trans Y.out.2.2.2.2.2.2.2.2.1 Y.out.2.2.2.2.2.2.2.1.size) Y.out.2.2.2.2.2.1 (by assumption)).mono ?_; rintro e w'' ⟨rfl, hk⟩)
          | (go_at_call_of 144 (Value.slice a3 xe.len c3); refine (deep_arm Y.out.2.2.2.2.2.2.2.2.2.2.2 (Nat.le_trans Y.out.2.2.2.2.2.2.2.2.1 Y.out.2.2.2.2.2.2.2.1.size) Y.out.2.2.2.2.2.2.1 (by assumption)).mono ?_; rintro e w'' ⟨rfl, hk⟩))
      rename_i hH
      have Z := Lib.hid hH.2
      clear hH
      try simp only [ite_max]
      obtain ⟨z, hz⟩ : ∃ z, z = max n (IntKind.i64.wrap (1 + max (max (deep wrapI xl) (deep wrapI xb)) (deep wrapI xe))) := ⟨_, rfl⟩
      rw [← hz]
      have HZ := Lib.hid hz
      clear hz
      generalize max (max (deep wrapI xl) (deep wrapI xb)) (deep wrapI xe) = m3
      generalize IntKind.i64.wrap (1 + m3) = m4
      go_wp2_with fail
      go_roundg (xs.items.length - (i + 1))
      case measure => omega
      case rel =>
        refine ⟨i + 1, _, hlt, rfl, by go_num, rfl, ?_, ?_, ?_⟩
        · have := HZ.out; omega
        · rw [HZ.out]
          have hd := Y.out.2.1
          have hx := Y.out.2.2.1
          rw [Y.out.2.2.2.1, ← hx] at hd
          simp only [deepL] at hd
          exact max_step hd
        · exact (Y.out.1.trans (Y.out.2.2.2.2.2.2.2.1.mono Y.out.1.size)).trans (Z.out.mono (Nat.le_trans Y.out.1.size Y.out.2.2.2.2.2.2.2.1.size))
    · obtain rfl : i = xs.items.length := by omega
      clear hlt
      go_wp2_with fail
      go_ret
      exact ⟨by rw [deep_items, ← hd, List.drop_length]; simp [deepL]; omega, hb⟩

/-- The document's one. -/
def RDeepSaid (tw : Bool) (x : Ns) : Prop := ∀ (w : World) (B : Nat) (v : Value), B ≤ w.heap.size → Nodes w (· < B) tw v x → Calls Tryz.prog 152 #[v] w fun e w' => e = .returned (.int .i64 (deep wrapI x)) ∧ Below w.heap.size w w'

theorem rdeep_arm {tw : Bool} {x : Ns} (hI : RDeepSaid tw x) {w4 w' : World} {B : Nat} {v : Value} (hB : B ≤ w4.heap.size) (hN : Nodes w4 (· < B) tw v x) {X : Prop} (hS : X ∧ Below w4.heap.size w4 w') :
    Calls Tryz.prog 152 #[v] w' fun e w'' => e = .returned (.int .i64 (deep wrapI x)) ∧ Below w'.heap.size w' w'' :=
  hI w' B v (Nat.le_trans hB hS.2.size) (hN.below (hS.2.mono hB))

theorem keepAt {w4 w' w'' : World} {bx o2 o3 o4 : Nat} {v1 v2 v3 : Value} (hlt : bx < w4.heap.size) (hS : (w'.cell? ⟨bx, o2, none⟩ = some v1 ∧ w'.cell? ⟨bx, o3, none⟩ = some v2 ∧ w'.cell? ⟨bx, o4, none⟩ = some v3) ∧ Below w4.heap.size w4 w') (hk : Below w'.heap.size w' w'') :
    (w''.cell? ⟨bx, o2, none⟩ = some v1 ∧ w''.cell? ⟨bx, o3, none⟩ = some v2 ∧ w''.cell? ⟨bx, o4, none⟩ = some v3) ∧ Below w4.heap.size w4 w'' := by
  obtain ⟨⟨h2, h3, h4⟩, hb⟩ := hS
  have e : ∀ o, w''.cell? ⟨bx, o, none⟩ = w'.cell? ⟨bx, o, none⟩ := fun o => World.cell?_of_block (hk.block bx (Nat.lt_of_lt_of_le hlt hb.size))
  exact ⟨⟨(e _).trans h2, (e _).trans h3, (e _).trans h4⟩, hb.trans (hk.mono hb.size)⟩

set_option maxHeartbeats 4000000 in
theorem rdeep_said (tw : Bool) : ∀ xs, RDeepSaid tw xs := by
  refine Ns.each fun xs ih w B v hB hv => ?_
  obtain ⟨a, c, rfl, hr, hc⟩ := hv.open_
  have HI := Lib.hid ih
  have HC := Lib.hid hc
  have l0 : (0 : Int) ≤ (xs.items.length : Int) := by omega
  have l1 : (xs.items.length : Int) ≤ 140737488351232 := by have := hr.2.2.1; omega
  clear ih hv hc hr
  go_enter Tryz.func152, Tryz.ntmps152
  go_wp2_with fail
  go_loopg [3, 4] xs.items.length (fun gk v2 v7 wr => DeepAt w xs gk v2 v7 wr)
  case atStart => exact ⟨0, 0, Nat.zero_le _, rfl, rfl, rfl, Int.le_refl _, by rw [List.drop_zero, ← deep_items]; have := deep_nonneg wrapI xs; omega, Below.refl _ _⟩
  case round =>
    obtain ⟨i, n, hi, rfl, rfl, rfl, hn, hd, hb⟩ := hrel
    have i0 : (0 : Int) ≤ (i : Int) := by omega
    by_cases hlt : i < xs.items.length
    · have i1 : (i : Int) < (xs.items.length : Int) := by omega
      obtain ⟨b, off, v1, v2, v3, rfl, hS, hN⟩ := HC.out i hlt
      have hN' := hN.frame hS fun k hk _ => hb.block k (Nat.lt_of_lt_of_le hk hB)
      obtain ⟨x, hx⟩ : ∃ x, x = xs.items[i] := ⟨_, rfl⟩
      rw [← hx] at hN'
      obtain ⟨kd, tt, xl, xb, xe⟩ := x
      have d2 := hN'.d2
      have d3 := hN'.d3
      have d4 := hN'.d4
      obtain ⟨a1, c1, rfl, s1, m1⟩ := hN'.l
      obtain ⟨a2, c2, rfl, s2, m2⟩ := hN'.body
      obtain ⟨a3, c3, rfl, s3, m3⟩ := hN'.els
      simp only at d2 d3 d4
      have n1 : Nodes wr (· < B) tw (.slice a1 xl.len c1) xl := ⟨a1, c1, rfl, s1, m1⟩
      have n2 : Nodes wr (· < B) tw (.slice a2 xb.len c2) xb := ⟨a2, c2, rfl, s2, m2⟩
      have n3 : Nodes wr (· < B) tw (.slice a3 xe.len c3) xe := ⟨a3, c3, rfl, s3, m3⟩
      have hBr : B ≤ wr.heap.size := Nat.le_trans hB hb.size
      have hbx : b < wr.heap.size := Nat.lt_of_lt_of_le hS hBr
      have hI := HI.out _ (List.getElem_mem hlt)
      rw [← hx] at hI
      have hdr := items_cons_drop xs i hlt
      have Y := Lib.hid (And.intro hb (And.intro hd (And.intro hx (And.intro hdr (And.intro n1 (And.intro n2 (And.intro n3 (And.intro hBr hI))))))))
      clear hN hN' s1 s2 s3 m1 m2 m3 n1 n2 n3 hb hd hx hdr hBr hI hS
      go_upto_region 5 with fail
      go_region_held3 (fun w' => (w'.cell? ⟨b, off + i * 5 + 2, none⟩ = some (.slice a1 xl.len c1) ∧ w'.cell? ⟨b, off + i * 5 + 3, none⟩ = some (.slice a2 xb.len c2) ∧ w'.cell? ⟨b, off + i * 5 + 4, none⟩ = some (.slice a3 xe.len c3)) ∧ Below wr.heap.size wr w')
        (first | assumption | exact ⟨⟨d2, d3, d4⟩, (Below.refl _ _).drew⟩ | exact keepAt hbx (by assumption) (by assumption))
        (first
          | (go_at_call_of 152 (Value.slice a1 xl.len c1); refine (rdeep_arm Y.out.2.2.2.2.2.2.2.2.1 Y.out.2.2.2.2.2.2.2.1 Y.out.2.2.2.2.1 (by assumption)).mono ?_; rintro e w'' ⟨rfl, hk⟩)
          | (go_at_call_of 152 (Value.slice a2 xb.len c2); refine (rdeep_arm Y.out.2.2.2.2.2.2.2.2.2.1 Y.out.2.2.2.2.2.2.2.1 Y.out.2.2.2.2.2.1 (by assumption)).mono ?_; rintro e w'' ⟨rfl, hk⟩)
          | (go_at_call_of 152 (Value.slice a3 xe.len c3); refine (rdeep_arm Y.out.2.2.2.2.2.2.2.2.2.2 Y.out.2.2.2.2.2.2.2.1 Y.out.2.2.2.2.2.2.1 (by assumption)).mono ?_; rintro e w'' ⟨rfl, hk⟩))
      rename_i hH
      have Z := Lib.hid hH.2
      clear hH
      try simp only [ite_max]
      obtain ⟨z, hz⟩ : ∃ z, z = max n (IntKind.i64.wrap (1 + max (deep wrapI xl) (max (deep wrapI xb) (deep wrapI xe)))) := ⟨_, rfl⟩
      rw [← hz]
      have HZ := Lib.hid hz
      clear hz
      generalize max (deep wrapI xl) (max (deep wrapI xb) (deep wrapI xe)) = m3
      generalize IntKind.i64.wrap (1 + m3) = m4
      go_wp2_with fail
      go_roundg (xs.items.length - (i + 1))
      case measure => omega
      case rel =>
        refine ⟨i + 1, _, hlt, rfl, by go_num, rfl, ?_, ?_, ?_⟩
        · have := HZ.out; omega
        · rw [HZ.out, max_assoc3]
          have hd := Y.out.2.1
          have hx := Y.out.2.2.1
          rw [Y.out.2.2.2.1, ← hx] at hd
          simp only [deepL] at hd
          exact max_step hd
        · exact Y.out.1.trans (Z.out.mono Y.out.1.size)
    · obtain rfl : i = xs.items.length := by omega
      clear hlt
      go_wp2_with fail
      go_ret
      exact ⟨by rw [deep_items, ← hd, List.drop_length]; simp [deepL]; omega, hb⟩
end Go.Proofs.YtmkhfonafcikdaaGreatDoor

/- Trees: is there one of a list of nodes for which a function says yes; is a number too long. -/
namespace Go.Proofs.YtmkhfonafcikdaaGreatDoor
open Go.RowKit Go.My Go.Nd

/-- A function of a node, asked at any later world. -/
def Asked (tw : Bool) (B : Nat) (fn : FuncId) (p : Nd → Bool) (x : Nd) : Prop :=
  ∀ (w' : World) (a1 a2 a3 : Option Addr) (c1 c2 c3 : Nat), B ≤ w'.heap.size → Nodes w' (· < B) tw (.slice a1 x.l.len c1) x.l → Nodes w' (· < B) tw (.slice a2 x.body.len c2) x.body → Nodes w' (· < B) tw (.slice a3 x.els.len c3) x.els → x.kind < 256 → x.text.length ≤ 140737488351232 →
    Calls Tryz.prog fn #[.agg #[.int .u8 (x.kind : Int), .string (tx x.text), .slice a1 x.l.len c1, .slice a2 x.body.len c2, .slice a3 x.els.len c3]] w' fun e w'' => e = .returned (.bool (p x)) ∧ Below w'.heap.size w' w''

def IndexSaid (w : World) (b : Bool) (e : Ending) (w' : World) : Prop := ∃ n : Int, e = .returned (.int .i64 n) ∧ (decide (0 ≤ n)) = b ∧ Below w.heap.size w w'

def IndexAt (w : World) (xs : Ns) (p : Nd → Bool) (gk : Nat) (v8 : Value) (wr : World) : Prop :=
  ∃ i : Nat, i ≤ xs.items.length ∧ gk = xs.items.length - i ∧ v8 = .int .i64 (i : Int) ∧ (xs.items.drop i).any p = xs.items.any p ∧ Below w.heap.size w wr

set_option maxRecDepth 100000 in
set_option maxHeartbeats 4000000 in
theorem index_said {tw : Bool} {xs : Ns} {fn : Nat} {p : Nd → Bool} {w : World} {B : Nat} {v : Value} (hB : B ≤ w.heap.size) (hv : Nodes w (· < B) tw v xs) (hf : ∀ x ∈ xs.items, Asked tw B fn p x) (hcf : ∀ (args : Array Value) (wx : World), (callFunc fn args).run Tryz.prog wx = .ok (.enter fn args) wx) :
    Calls Tryz.prog 192 #[v, .func (.func fn) #[] #[]] w (IndexSaid w (xs.items.any p)) := by
  obtain ⟨a, c, rfl, hr, hc⟩ := hv.open_
  have HF := Lib.hid hf
  have HC := Lib.hid hc
  have l0 : (0 : Int) ≤ (xs.items.length : Int) := by omega
  have l1 : (xs.items.length : Int) ≤ 140737488351232 := by have := hr.2.2.1; omega
  clear hv hc hr hf
  go_enter Tryz.func192, Tryz.ntmps192
  go_wp2_with fail
  go_loopg [8] xs.items.length (fun gk v8 wr => IndexAt w xs p gk v8 wr)
  case atStart => exact ⟨0, Nat.zero_le _, rfl, rfl, rfl, Below.refl _ _⟩
  case round =>
    obtain ⟨i, hi, rfl, rfl, hd, hb⟩ := hrel
    have i0 : (0 : Int) ≤ (i : Int) := by omega
    by_cases hlt : i < xs.items.length
    · have i1 : (i : Int) < (xs.items.length : Int) := by omega
      obtain ⟨b, off, v1, v2, v3, rfl, hS, hN⟩ := HC.out i hlt
      have hN' := hN.frame hS fun k hk _ => hb.block k (Nat.lt_of_lt_of_le hk hB)
      obtain ⟨x, hx⟩ : ∃ x, x = xs.items[i] := ⟨_, rfl⟩
      rw [← hx] at hN'
      have hA := HF.out _ (List.getElem_mem hlt)
      rw [← hx] at hA
      have hdr := items_cons_drop xs i hlt
      rw [← hx] at hdr
      obtain ⟨kd, tt, xl, xb, xe⟩ := x
      have d0 := hN'.d0
      have d1 := hN'.d1
      have d2 := hN'.d2
      have d3 := hN'.d3
      have d4 := hN'.d4
      obtain ⟨a1, c1, rfl, s1, m1⟩ := hN'.l
      obtain ⟨a2, c2, rfl, s2, m2⟩ := hN'.body
      obtain ⟨a3, c3, rfl, s3, m3⟩ := hN'.els
      simp only at d0 d1 d2 d3 d4
      have Y := Lib.hid (And.intro hb (And.intro hd (And.intro hdr (hA wr a1 a2 a3 c1 c2 c3 (Nat.le_trans hB hb.size) ⟨a1, c1, rfl, s1, m1⟩ ⟨a2, c2, rfl, s2, m2⟩ ⟨a3, c3, rfl, s3, m3⟩ hN'.kind hN'.text))))
      clear hN hN' s1 s2 s3 m1 m2 m3 hb hd hx hdr hA hS
      go_wp2_with fail
      refine Y.out.2.2.2.mono ?_
      rintro e w' ⟨rfl, hk⟩
      have K := Lib.hid (Y.out.1.trans (hk.mono Y.out.1.size))
      clear hk
      cases hp : p ⟨kd, tt, xl, xb, xe⟩ with
      | true =>
        have HP := Lib.hid hp
        clear hp
        go_wp2_with fail
        go_ret
        refine ⟨(i : Int), rfl, ?_, K.out⟩
        have hd := Y.out.2.1
        rw [Y.out.2.2.1, List.any_cons, HP.out] at hd
        rw [← hd]; simp
      | false =>
        have HP := Lib.hid hp
        clear hp
        go_wp2_with fail
        go_roundg (xs.items.length - (i + 1))
        case measure => omega
        case rel =>
          refine ⟨i + 1, hlt, rfl, by go_num, ?_, K.out⟩
          have hd := Y.out.2.1
          rw [Y.out.2.2.1, List.any_cons, HP.out, Bool.false_or] at hd
          exact hd
    · obtain rfl : i = xs.items.length := by omega
      clear hlt
      go_wp2_with fail
      go_ret
      exact ⟨-1, rfl, by rw [← hd, List.drop_length]; rfl, hb⟩

set_option maxRecDepth 100000 in
set_option maxHeartbeats 4000000 in
theorem contains_said {tw : Bool} {xs : Ns} {fn : Nat} {p : Nd → Bool} {w : World} {B : Nat} {v : Value} (hB : B ≤ w.heap.size) (hv : Nodes w (· < B) tw v xs) (hf : ∀ x ∈ xs.items, Asked tw B fn p x) (hcf : ∀ (args : Array Value) (wx : World), (callFunc fn args).run Tryz.prog wx = .ok (.enter fn args) wx) :
    Calls Tryz.prog 167 #[v, .func (.func fn) #[] #[]] w fun e w' => e = .returned (.bool (xs.items.any p)) ∧ Below w.heap.size w w' := by
  have H := Lib.hid (index_said hB hv hf hcf)
  clear hv hf hcf
  go_enter Tryz.func167, Tryz.ntmps167
  go_wp2_with fail
  refine H.out.mono ?_
  rintro e w' ⟨n, rfl, hn, hb⟩
  have K := Lib.hid (And.intro hn hb)
  clear hn hb
  go_wp2_with fail
  go_ret
  refine ⟨?_, K.out.2⟩
  rw [← K.out.1]; rfl
end Go.Proofs.YtmkhfonafcikdaaGreatDoor

/- Trees: is a number too long. -/
namespace Go.My
open Go.Nd
def longOne (x : Nd) : Bool := (x.kind == 1 && decide (200 < x.text.length)) || long x.l || long x.body || long x.els
theorem long_items (xs : Ns) : long xs = xs.items.any longOne := by
  induction xs with
  | nil => rfl
  | cons k t l b e r _ _ _ ihr => rw [Ns.items_cons, List.any_cons, ← ihr]; rfl
theorem tx_size (l : List UInt8) : (tx l).size = l.length := by simp [tx, ByteArray.size]
end Go.My
namespace Go.Proofs.YtmkhfonafcikdaaGreatDoor
open Go.RowKit Go.My Go.Nd

def LongSaid (tw : Bool) (x : Ns) : Prop := ∀ (w : World) (B : Nat) (v : Value), B ≤ w.heap.size → Nodes w (· < B) tw v x → Calls Tryz.prog 145 #[v] w fun e w' => e = .returned (.bool (long x)) ∧ Below w.heap.size w w'

theorem box_later {w w1 : World} {cs : Array Value} {ty : TypeId} (hb : Below (w.alloc (.cells cs ty)).heap.size (w.alloc (.cells cs ty)) w1) (o : Nat) : w1.cell? ⟨w.heap.size, o, none⟩ = cs[o]? :=
  (World.cell?_of_block (hb.block w.heap.size (by simp))).trans (cell_of_row _ w.heap.size o _ _ _ (heap_alloc_new w (.cells cs ty)))

set_option maxRecDepth 100000 in
set_option maxHeartbeats 4000000 in
theorem long_one {tw : Bool} {B : Nat} {x : Nd} (h1 : LongSaid tw x.l) (h2 : LongSaid tw x.body) (h3 : LongSaid tw x.els) : Asked tw B 171 longOne x := by
  intro w a1 a2 a3 c1 c2 c3 hB n1 n2 n3 hk ht
  obtain ⟨kd, tt, xl, xb, xe⟩ := x
  simp only at *
  have hA := Below.alloc (Below.refl w.heap.size w) (Nat.le_refl _) (.cells #[.int .u8 (kd : Int), .string (tx tt), .slice a1 xl.len c1, .slice a2 xb.len c2, .slice a3 xe.len c3] 61)
  have Y := Lib.hid (And.intro h1 (And.intro h2 (And.intro h3 (And.intro (n1.below (hA.mono hB)) (And.intro (n2.below (hA.mono hB)) (And.intro (n3.below (hA.mono hB)) (And.intro hA hB)))))))
  have ts := tx_size tt
  have k0 : (0 : Int) ≤ (kd : Int) := by omega
  have tl : (tt.length : Int) ≤ 140737488351232 := by omega
  obtain ⟨bx, hbx⟩ : ∃ bx, bx = w.heap.size := ⟨_, rfl⟩
  have HX := Lib.hid hbx
  obtain ⟨p, hp⟩ : ∃ p, p = (kd == 1 && decide (200 < tt.length)) := ⟨_, rfl⟩
  have HR := Lib.hid (show longOne ⟨kd, tt, xl, xb, xe⟩ = (p || long xl || long xb || long xe) by rw [hp]; rfl)
  clear h1 h2 h3 n1 n2 n3 hA hB hbx
  go_enter Tryz.func171, Tryz.ntmps171
  cases p with
  | true =>
    have hq : kd = 1 ∧ 200 < tt.length := by have := hp.symm; simpa using this
    obtain ⟨rfl, hq⟩ := hq
    have hq2 : (200 : Int) < (tt.length : Int) := by omega
    clear hp hq
    go_wp2_with fail
    go_ret
    exact ⟨by rw [HR.out]; rfl, Y.out.2.2.2.2.2.2.1⟩
  | false =>
    have hq : ((kd : Int) == 1) = false ∨ (kd = 1 ∧ (tt.length : Int) ≤ 200) := by
      have := hp.symm
      by_cases hk1 : kd = 1
      · right; subst hk1; simp at this; omega
      · left; simp; omega
    clear hp
    have go : ((kd : Int) == 1) = false ∨ (kd = 1 ∧ (tt.length : Int) ≤ 200) := hq
    rcases hq with hq | ⟨rfl, hq⟩
    all_goals
      clear go
      (try have hq2 : decide ((200 : Int) < (tt.length : Int)) = false := by simp; omega)
      go_wp2_with fail
      refine (Y.out.1 _ B _ (Nat.le_trans Y.out.2.2.2.2.2.2.2 Y.out.2.2.2.2.2.2.1.size) Y.out.2.2.2.1).mono ?_
      rintro e w1 ⟨rfl, hb1⟩
      have e3 := box_later hb1 3
      have e4 := box_later hb1 4
      simp at e3 e4
      have B1 := Lib.hid hb1
      clear hb1
      cases hl1 : long xl with
      | true =>
        have L1 := Lib.hid hl1
        clear hl1
        go_wp2_with fail
        go_ret
        exact ⟨by rw [HR.out, L1.out]; rfl, Y.out.2.2.2.2.2.2.1.trans (B1.out.mono Y.out.2.2.2.2.2.2.1.size)⟩
      | false =>
        have L1 := Lib.hid hl1
        clear hl1
        have K1 := Lib.hid (Y.out.2.2.2.2.2.2.1.trans (B1.out.mono Y.out.2.2.2.2.2.2.1.size))
        go_wp2_with fail
        refine (Y.out.2.1 w1 B _ (Nat.le_trans Y.out.2.2.2.2.2.2.2 K1.out.size) (Y.out.2.2.2.2.1.below (B1.out.mono (Nat.le_trans Y.out.2.2.2.2.2.2.2 Y.out.2.2.2.2.2.2.1.size)))).mono ?_
        rintro e w2 ⟨rfl, hb2⟩
        have hb12 := B1.out.trans (hb2.mono B1.out.size)
        have e4' := box_later hb12 4
        simp at e4'
        have B2 := Lib.hid hb12
        clear hb2 hb12 e3 e4
        cases hl2 : long xb with
        | true =>
          have L2 := Lib.hid hl2
          clear hl2
          go_wp2_with fail
          go_ret
          exact ⟨by rw [HR.out, L1.out, L2.out]; rfl, Y.out.2.2.2.2.2.2.1.trans (B2.out.mono Y.out.2.2.2.2.2.2.1.size)⟩
        | false =>
          have L2 := Lib.hid hl2
          clear hl2
          have K2 := Lib.hid (Y.out.2.2.2.2.2.2.1.trans (B2.out.mono Y.out.2.2.2.2.2.2.1.size))
          go_wp2_with fail
          refine (Y.out.2.2.1 w2 B _ (Nat.le_trans Y.out.2.2.2.2.2.2.2 K2.out.size) (Y.out.2.2.2.2.2.1.below (B2.out.mono (Nat.le_trans Y.out.2.2.2.2.2.2.2 Y.out.2.2.2.2.2.2.1.size)))).mono ?_
          rintro e w3 ⟨rfl, hb3⟩
          have K3 := Lib.hid (K2.out.trans (hb3.mono K2.out.size))
          clear hb3
          go_wp2_with fail
          go_ret
          exact ⟨by rw [HR.out, L1.out, L2.out]; rfl, K3.out⟩

set_option maxHeartbeats 4000000 in
theorem long_said (tw : Bool) : ∀ xs, LongSaid tw xs := by
  refine Ns.each fun xs ih w B v hB hv => ?_
  have H := Lib.hid (contains_said hB hv (fn := 171) (p := longOne) (fun x hx => long_one (ih x hx).1 (ih x hx).2.1 (ih x hx).2.2) (fun _ _ => by kernel_rfl))
  obtain ⟨a, c, rfl, _⟩ := hv
  clear ih
  go_enter Tryz.func145, Tryz.ntmps145
  go_wp2_with fail
  refine H.out.mono ?_
  rintro e w' ⟨rfl, hb⟩
  have K := Lib.hid hb
  clear hb
  go_wp2_with fail
  go_ret
  exact ⟨by rw [long_items]; rfl, K.out⟩
end Go.Proofs.YtmkhfonafcikdaaGreatDoor

/- Trees: may a node be an expression: the function that is handed to ContainsFunc. -/
namespace Go.My
open Go.Nd
def exprOne (x : Nd) : Bool := x.body.len == 0 && x.els.len == 0 && exprs x.l && head x.kind x.text x.l
theorem exprs_items (xs : Ns) : exprs xs = xs.items.all exprOne := by
  induction xs with
  | nil => rfl
  | cons k t l b e r _ _ _ ihr => rw [Ns.items_cons, List.all_cons, ← ihr]; rfl
theorem not_exprs (xs : Ns) : xs.items.any (fun x => !exprOne x) = !exprs xs := by
  rw [exprs_items]
  generalize xs.items = l
  induction l with
  | nil => rfl
  | cons x l ih => rw [List.any_cons, List.all_cons, ih]; cases exprOne x <;> rfl
end Go.My
namespace Go.Proofs.YtmkhfonafcikdaaGreatDoor
open Go.RowKit Go.My Go.Nd

set_option maxRecDepth 100000 in
set_option maxHeartbeats 4000000 in
theorem expr1_one {tw : Bool} {B : Nat} {x : Nd} (h : Asked tw B 140 exprOne x) : Asked tw B 168 (fun x => !exprOne x) x := by
  intro w a1 a2 a3 c1 c2 c3 hB n1 n2 n3 hk ht
  have hA := Below.alloc (Below.refl w.heap.size w) (Nat.le_refl _) (.cells #[.int .u8 (x.kind : Int), .string (tx x.text), .slice a1 x.l.len c1, .slice a2 x.body.len c2, .slice a3 x.els.len c3] 61)
  have C := Lib.hid (h _ a1 a2 a3 c1 c2 c3 (Nat.le_trans hB hA.size) (n1.below (hA.mono hB)) (n2.below (hA.mono hB)) (n3.below (hA.mono hB)) hk ht)
  have Y := Lib.hid hA
  clear h n1 n2 n3 hA hk ht
  obtain ⟨kd, tt, xl, xb, xe⟩ := x
  simp only at C Y ⊢
  go_enter Tryz.func168, Tryz.ntmps168
  go_wp2_with fail
  refine C.out.mono ?_
  rintro e w' ⟨rfl, hb⟩
  have K := Lib.hid (Y.out.trans (hb.mono Y.out.size))
  clear hb
  cases hp : exprOne ⟨kd, tt, xl, xb, xe⟩ with
  | true =>
    have HP := Lib.hid hp
    clear hp
    go_wp2_with fail
    go_ret
    refine ⟨?_, K.out⟩
    show _ = Ending.returned (.bool (!exprOne ⟨kd, tt, xl, xb, xe⟩))
    rw [HP.out]; rfl
  | false =>
    have HP := Lib.hid hp
    clear hp
    go_wp2_with fail
    go_ret
    refine ⟨?_, K.out⟩
    show _ = Ending.returned (.bool (!exprOne ⟨kd, tt, xl, xb, xe⟩))
    rw [HP.out]; rfl
end Go.Proofs.YtmkhfonafcikdaaGreatDoor

/- Tokens: run, the kinds, silence. -/
namespace Go.Proofs.YtmkhfonafcikdaaGreatDoor
open Go.RowKit Go.My

/-- A text. -/
def bs (l : List UInt8) : ByteArray := ⟨l.toArray⟩
theorem bs_size (l : List UInt8) : (bs l).size = l.length := by simp [bs, ByteArray.size]
theorem bs_list (l : List UInt8) : (bs l).data.toList = l := by simp [bs]
theorem bs_of (s : ByteArray) : s = bs s.data.toList := by cases s; simp [bs]

theorem drop_run (p : UInt8 → Bool) (l : List UInt8) : l.dropWhile p = l.drop (To.run p l) := by
  induction l with
  | nil => rfl
  | cons c l ih =>
    unfold To.run
    rw [List.dropWhile_cons]
    by_cases h : p c = true
    · rw [if_pos h, if_pos h, List.drop_succ_cons, ih]
    · rw [if_neg h, if_neg h, List.drop_zero]

/-- A cutset, and what it is of. -/
structure Cut (cs : List UInt8) (p : UInt8 → Bool) : Prop where
  ascii : ∀ (j : Nat) b, cs[j]? = some b → b.toNat < 128
  is : ∀ c, cs.contains c = p c
  small : cs.length < 1000

theorem trim_t {w : World} {cs : List UInt8} {p : UInt8 → Bool} (hc : Cut cs p) (l : List UInt8) {Q : Ending → World → Prop} (h : ∀ w', Below w.heap.size w w' → Q (.returned (.string (bs (l.drop (To.run p l))))) w') :
    Calls Tryz.prog 189 #[.string (bs l), .string (bs cs)] w Q := by
  have hcon := Any.strings_TrimLeft_laid Tryz.lays161 (by kernel_rfl) (bs l) (bs cs) w (by rw [bs_size]; have := hc.small; omega) (by rw [bs_list]; exact hc.ascii)
  refine Calls.mono (P := Tryz.prog) (f := 189) hcon ?_
  rintro e w' ⟨rfl, hB⟩
  have e1 : (⟨(Lib.trimLeftS (bs l).data.toList (bs cs).data.toList).toArray⟩ : ByteArray) = bs (l.drop (To.run p l)) := by
    rw [bs_list, bs_list]
    unfold Lib.trimLeftS
    have : (fun x => cs.contains x) = p := funext hc.is
    rw [this, drop_run]; rfl
  rw [e1]
  exact h w' hB

set_option maxHeartbeats 1000000 in
theorem run_t {w : World} {cs : List UInt8} {p : UInt8 → Bool} (hc : Cut cs p) (l : List UInt8) (hl : l.length ≤ 9223372036854775807) {Q : Ending → World → Prop} (h : ∀ w', Below w.heap.size w w' → Q (.returned (.int .i64 (To.run p l : Nat))) w') :
    Calls Tryz.prog 162 #[.string (bs l), .string (bs cs)] w Q := by
  have H := Lib.hid h
  have hr := To.run_le p l
  have hs1 := bs_size l
  have hs2 := bs_size (l.drop (To.run p l))
  rw [List.length_drop] at hs2
  have hr1 : ((l.length - To.run p l : Nat) : Int) = (l.length : Int) - (To.run p l : Int) := by omega
  have hl1 : (l.length : Int) ≤ 9223372036854775807 := by omega
  clear h
  go_enter Tryz.func162, Tryz.ntmps162
  go_wp2_with fail
  refine trim_t hc l fun w' hB => ?_
  have HB := Lib.hid hB
  clear hB
  go_wp2_with fail
  have e : (l.length : Int) - ((l.length : Int) - (To.run p l : Int)) = (To.run p l : Int) := by omega
  have h2 := H.out w' HB.out
  rw [← e] at h2
  exact h2

def letters : List UInt8 := [97, 98, 99, 100, 101, 102, 103, 104, 105, 106, 107, 108, 109, 110, 111, 112, 113, 114, 115, 116, 117, 118, 119, 120, 121, 122, 65, 66, 67, 68, 69, 70, 71, 72, 73, 74, 75, 76, 77, 78, 79, 80, 81, 82, 83, 84, 85, 86, 87, 88, 89, 90]
def digits : List UInt8 := [48, 49, 50, 51, 52, 53, 54, 55, 56, 57]
def blanks : List UInt8 := [32, 9, 10, 13]

theorem cut_of {cs : List UInt8} {p : UInt8 → Bool} (h1 : cs.all (fun b => decide (b.toNat < 128)) = true) (h2 : (List.range 256).all (fun n => cs.contains (UInt8.ofNat n) == p (UInt8.ofNat n)) = true) (h3 : cs.length < 1000) : Cut cs p := by
  refine ⟨fun j b hj => ?_, fun c => ?_, h3⟩
  · have := List.all_eq_true.1 h1 b (List.mem_of_getElem? hj)
    simpa using this
  · have := List.all_eq_true.1 h2 c.toNat (List.mem_range.2 c.toNat_lt)
    simpa using this
set_option maxRecDepth 100000 in
theorem cutL : Cut letters To.isL := cut_of (by decide +kernel) (by decide +kernel) (by decide +kernel)
set_option maxRecDepth 100000 in
theorem cutD : Cut digits To.isD := cut_of (by decide +kernel) (by decide +kernel) (by decide +kernel)
set_option maxRecDepth 100000 in
theorem cutB : Cut blanks To.isB := cut_of (by decide +kernel) (by decide +kernel) (by decide +kernel)
set_option maxRecDepth 100000 in
theorem cutW : Cut (letters ++ digits ++ [95]) To.isW := cut_of (by decide +kernel) (by decide +kernel) (by decide +kernel)

set_option maxHeartbeats 1000000 in
theorem word_t {w : World} (l : List UInt8) (hl : l.length ≤ 9223372036854775807) {Q : Ending → World → Prop} (h : ∀ w', Below w.heap.size w w' → Q (.returned (.int .i64 (To.word l : Nat))) w') :
    Calls Tryz.prog 161 #[.string (bs l)] w Q := by
  have H := Lib.hid h
  clear h
  by_cases h0 : To.run To.isL l = 0
  · have e : To.word l = 0 := by unfold To.word; rw [if_pos h0]
    rw [e] at H
    have HZ := Lib.hid h0
    clear h0 e
    go_enter Tryz.func161, Tryz.ntmps161
    go_wp2_with fail
    refine run_t cutL l hl fun w' hB => ?_
    rw [HZ.out]
    have HB := Lib.hid hB
    clear hB
    go_wp2_with fail
    exact H.out w' HB.out
  · have e : To.word l = To.run To.isW l := by unfold To.word; rw [if_neg h0]
    rw [e] at H
    obtain ⟨n, hn⟩ : ∃ n, n = To.run To.isL l := ⟨_, rfl⟩
    rw [← hn] at h0
    have h1 : ((n : Int) == 0) = false := by simp; omega
    have HN := Lib.hid hn
    clear h0 e hn
    go_enter Tryz.func161, Tryz.ntmps161
    go_wp2_with fail
    refine run_t cutL l hl fun w' hB => ?_
    rw [← HN.out]
    have HB := Lib.hid hB
    clear hB
    go_wp2_with fail
    refine run_t cutW l hl fun w2 hB2 => ?_
    have HB2 := Lib.hid (HB.out.trans (hB2.mono HB.out.size))
    clear hB2
    go_wp2_with fail
    exact H.out w2 HB2.out

set_option maxHeartbeats 1000000 in
theorem number_t {w : World} (l : List UInt8) (hl : l.length ≤ 9223372036854775807) {Q : Ending → World → Prop} (h : ∀ w', Below w.heap.size w w' → Q (.returned (.int .i64 (To.number l : Nat))) w') :
    Calls Tryz.prog 163 #[.string (bs l)] w Q := by
  have H := Lib.hid h
  clear h
  go_enter Tryz.func163, Tryz.ntmps163
  go_wp2_with fail
  refine run_t cutD l hl fun w' hB => ?_
  have HB := Lib.hid hB
  clear hB
  go_wp2_with fail
  exact H.out w' HB.out
end Go.Proofs.YtmkhfonafcikdaaGreatDoor

/- Tokens: the signs, the table of kinds, silence. -/
namespace Go.To
def pre2 (x y : UInt8) (l : List UInt8) : Bool := l.head? == some x && l.tail.head? == some y
theorem sign_pre (l : List UInt8) : sign l = if pre2 61 61 l || pre2 33 61 l || pre2 60 61 l then 2 else if l.any (fun _ => true) && (l.head?.map isS).getD false then 1 else 0 := by
  cases l with
  | nil => rfl
  | cons c r =>
    rw [sign_cons]
    have hc : ∀ n : Nat, n < 256 → ((c == UInt8.ofNat n) = decide (c.toNat = n)) := fun n hn => by
      rw [Bool.eq_iff_iff]; simp
      constructor
      · rintro rfl; simp; omega
      · intro h; rw [← h]; simp
    have e1 : pre2 61 61 (c :: r) = (decide (c.toNat = 61) && decide (r.head? = some 61)) := by
      unfold pre2; rw [show (61 : UInt8) = UInt8.ofNat 61 from rfl]; simp only [List.head?_cons, List.tail_cons]
      rw [← hc 61 (by decide)]; congr 1; rw [Bool.eq_iff_iff]; simp
    have e2 : pre2 33 61 (c :: r) = (decide (c.toNat = 33) && decide (r.head? = some 61)) := by
      unfold pre2; simp only [List.head?_cons, List.tail_cons]
      rw [← hc 33 (by decide)]; congr 1; rw [Bool.eq_iff_iff]; simp
    have e3 : pre2 60 61 (c :: r) = (decide (c.toNat = 60) && decide (r.head? = some 61)) := by
      unfold pre2; simp only [List.head?_cons, List.tail_cons]
      rw [← hc 60 (by decide)]; congr 1; rw [Bool.eq_iff_iff]; simp
    rw [e1, e2, e3]
    by_cases h1 : r.head? = some 61
    · simp [h1, or_assoc]
    · simp [h1]
end Go.To
namespace Go.Proofs.YtmkhfonafcikdaaGreatDoor
open Go.RowKit Go.My

theorem ix_s (l : List UInt8) (k : IntKind) (i : Nat) {z : Int} (hz : z = (i : Int)) (h : i < l.length) : ∀ wx, (Instr.index 9 (.string (bs l)) (.int k z)).run Tryz.prog wx = .ok (.int .u8 ((l[i]).toNat : Int)) wx := by
  intro wx
  subst hz
  have hs := bs_size l
  rw [run_index_string (P := Tryz.prog) wx 9 (bs l) k (i : Int) Tryz.underlying9, dif_pos ⟨by omega, by omega⟩]
  congr 3

theorem bs_drop (l : List UInt8) (k : Nat) : (bs l).extract k (bs l).size = bs (l.drop k) := by
  rw [bs_of ((bs l).extract k (bs l).size), Lib.extract_to_end, bs_list]
theorem bs_cut (l : List UInt8) (k j : Nat) : (bs l).extract k j = bs ((l.drop k).take (j - k)) := by
  rw [bs_of ((bs l).extract k j), Lib.extract_data, bs_list]

theorem sl_s (l : List UInt8) (kl : IntKind) (k : Nat) {z : Int} (hz : z = (k : Int)) (h : k ≤ l.length) : ∀ wx, (Instr.slice 9 (.string (bs l)) (some (.int kl z)) none none).run Tryz.prog wx = .ok (.string (bs (l.drop k))) wx := by
  intro wx
  subst hz
  have hs := bs_size l
  rw [run_slice_string_l wx 9 (bs l) Tryz.underlying9 kl (k : Int) (by omega) (by omega), Int.toNat_natCast, bs_drop]

/-- IndexByte, at a text. -/
theorem idx_t {w : World} (l : List UInt8) (c : UInt8) {ci : Int} (hc : ci = (c.toNat : Int)) {Q : Ending → World → Prop} (h : Q (.returned (.int .i64 (Lib.indexByte l c))) w) : Calls Tryz.prog 166 #[.string (bs l), .int .u8 ci] w Q := by
  subst hc
  refine Calls.mono (Tryz.strings_IndexByte (bs l) (c.toNat : Int) w) ?_
  rintro e w' ⟨rfl, rfl⟩
  have e1 : ((c.toNat : Int)).toNat.toUInt8 = c := by simp
  rw [bs_list, e1]
  exact h
theorem idx_pos (l : List UInt8) (c : UInt8) : -1 ≤ Lib.indexByte l c ∧ (0 ≤ Lib.indexByte l c ↔ c ∈ l) ∧ Lib.indexByte l c < l.length := by
  induction l with
  | nil => simp [Lib.indexByte]
  | cons b l ih =>
    unfold Lib.indexByte
    by_cases h : b == c
    · rw [if_pos h]
      have : b = c := by simpa using h
      simp [this]
    · rw [if_neg h]
      have hne : c ≠ b := fun e => h (by simp [e])
      by_cases h2 : Lib.indexByte l c == -1
      · rw [if_pos h2]
        have h3 : Lib.indexByte l c = -1 := by simpa using h2
        have : c ∉ l := fun hm => by have := ih.2.1.2 hm; omega
        simp [hne, this]; omega
      · rw [if_neg h2]
        have h3 : Lib.indexByte l c ≠ -1 := fun e => h2 (by simp [e])
        have h4 : 0 ≤ Lib.indexByte l c := by have := ih.1; omega
        have h5 := ih.2.1.1 h4
        have h6 := ih.2.2
        simp [h5]; omega

theorem has_t {w : World} (l : List UInt8) (x y : UInt8) {Q : Ending → World → Prop} (h : Q (.returned (.bool (To.pre2 x y l))) w) : Calls Tryz.prog 165 #[.string (bs l), .string (bs [x, y])] w Q := by
  refine Calls.mono (Tryz.strings_HasPrefix (bs l) (bs [x, y]) w) ?_
  rintro e w' ⟨rfl, rfl⟩
  have e1 : Lib.hasPrefix (bs l).data.toList (bs [x, y]).data.toList = To.pre2 x y l := by
    rw [bs_list, bs_list]
    unfold Lib.hasPrefix To.pre2
    cases l with
    | nil => rfl
    | cons c r => cases r with
      | nil => simp [List.isPrefixOf]
      | cons d r => simp [List.isPrefixOf]; rw [Bool.eq_iff_iff]; simp; exact ⟨fun ⟨a, b⟩ => ⟨a.symm, b.symm⟩, fun ⟨a, b⟩ => ⟨a.symm, b.symm⟩⟩
  rw [e1]
  exact h

def signs : List UInt8 := [43, 45, 42, 47, 94, 40, 41, 91, 93, 44, 59, 123, 125, 61, 60]
theorem signs_is (c : UInt8) : c ∈ signs ↔ To.isS c = true := by
  have h : (List.range 256).all (fun n => signs.contains (UInt8.ofNat n) == To.isS (UInt8.ofNat n)) = true := by decide +kernel
  have := List.all_eq_true.1 h c.toNat (List.mem_range.2 c.toNat_lt)
  have e : signs.contains c = To.isS c := by simpa using this
  rw [← e]; simp

set_option maxHeartbeats 2000000 in
theorem sign_t {w : World} (l : List UInt8) (hl : l.length ≤ 9223372036854775807) {Q : Ending → World → Prop} (h : Q (.returned (.int .i64 (To.sign l : Nat))) w) :
    Calls Tryz.prog 164 #[.string (bs l)] w Q := by
  have H := Lib.hid h
  clear h
  obtain ⟨p1, h1⟩ : ∃ p, p = To.pre2 61 61 l := ⟨_, rfl⟩
  obtain ⟨p2, h2⟩ : ∃ p, p = To.pre2 33 61 l := ⟨_, rfl⟩
  obtain ⟨p3, h3⟩ : ∃ p, p = To.pre2 60 61 l := ⟨_, rfl⟩
  have hsp := To.sign_pre l
  rw [← h1, ← h2, ← h3] at hsp
  have HP := Lib.hid (And.intro h1.symm (And.intro h2.symm h3.symm))
  clear h1 h2 h3
  cases p1 with
  | true =>
    have e : To.sign l = 2 := by rw [hsp]; simp
    rw [e] at H
    clear e hsp
    go_enter Tryz.func164, Tryz.ntmps164
    go_wp2_with fail
    refine has_t l 61 61 ?_
    rw [HP.out.1]
    go_wp2_with fail
    exact H.out
  | false =>
    cases p2 with
    | true =>
      have e : To.sign l = 2 := by rw [hsp]; simp
      rw [e] at H
      clear e hsp
      go_enter Tryz.func164, Tryz.ntmps164
      go_wp2_with fail
      refine has_t l 61 61 ?_
      rw [HP.out.1]
      go_wp2_with fail
      refine has_t l 33 61 ?_
      rw [HP.out.2.1]
      go_wp2_with fail
      exact H.out
    | false =>
      cases p3 with
      | true =>
        have e : To.sign l = 2 := by rw [hsp]; simp
        rw [e] at H
        clear e hsp
        go_enter Tryz.func164, Tryz.ntmps164
        go_wp2_with fail
        refine has_t l 61 61 ?_
        rw [HP.out.1]
        go_wp2_with fail
        refine has_t l 33 61 ?_
        rw [HP.out.2.1]
        go_wp2_with fail
        refine has_t l 60 61 ?_
        rw [HP.out.2.2]
        go_wp2_with fail
        exact H.out
      | false =>
        clear hsp
        go_enter Tryz.func164, Tryz.ntmps164
        go_wp2_with fail
        refine has_t l 61 61 ?_
        rw [HP.out.1]
        go_wp2_with fail
        refine has_t l 33 61 ?_
        rw [HP.out.2.1]
        go_wp2_with fail
        refine has_t l 60 61 ?_
        rw [HP.out.2.2]
        cases l with
        | nil =>
          have e : To.sign [] = 0 := rfl
          rw [e] at H
          have hem : (bs []).toList = [] := by rw [ByteArray.toList_eq, bs_list]
          go_wp2_with fail
          exact H.out
        | cons c r =>
          have hix := ix_s (c :: r) .i64 0 (z := 0) rfl (by simp)
          have hne : (bs (c :: r)).toList.isEmpty = false := by rw [ByteArray.toList_eq, bs_list]; rfl
          have hsg : To.sign (c :: r) = if To.isS c = true then 1 else 0 := by
            rw [To.sign_pre, HP.out.1, HP.out.2.1, HP.out.2.2]; simp
          rw [hsg] at H
          clear hsg
          have hi := idx_pos signs c
          rw [signs_is] at hi
          by_cases hs : To.isS c = true
          · rw [if_pos hs] at H
            have hn := hi.2.1.2 hs
            have hn2 := hi.2.2
            obtain ⟨n, he⟩ : ∃ n, n = Lib.indexByte signs c := ⟨_, rfl⟩
            rw [← he] at hn hn2
            have HE := Lib.hid he
            clear hi he hs
            go_wp2_with fail
            refine idx_t signs c rfl ?_
            rw [← HE.out]
            go_wp2_with fail
            exact H.out
          · rw [if_neg hs] at H
            have hn : Lib.indexByte signs c < 0 := by rcases Int.lt_or_le (Lib.indexByte signs c) 0 with h | h; exact h; exact absurd (hi.2.1.1 h) hs
            obtain ⟨n, he⟩ : ∃ n, n = Lib.indexByte signs c := ⟨_, rfl⟩
            rw [← he] at hn
            have HE := Lib.hid he
            clear hi he hs
            go_wp2_with fail
            refine idx_t signs c rfl ?_
            rw [← HE.out]
            go_wp2_with fail
            exact H.out
end Go.Proofs.YtmkhfonafcikdaaGreatDoor

/- Tokens: the table of kinds. -/
namespace Go.Proofs.YtmkhfonafcikdaaGreatDoor
open Go.RowKit Go.My

theorem kinds_t {w : World} {Q : Ending → World → Prop} (h : ∀ w', Below w.heap.size w w' → Q (.returned (.agg #[.int .u8 1, .func (.func 161) #[] #[], .int .u8 2, .func (.func 163) #[] #[], .int .u8 3, .func (.func 164) #[] #[]])) w') :
    Calls Tryz.prog 139 #[] w Q := by
  have H := Lib.hid h
  clear h
  go_enter Tryz.func139, Tryz.ntmps139
  go_wp2_with fail
  exact bodyPost_ret (v := .agg #[.int .u8 1, .func (.func 161) #[] #[], .int .u8 2, .func (.func 163) #[] #[], .int .u8 3, .func (.func 164) #[] #[]]) (by simp [results, Tryz.results139, go_sem]) rfl (H.out _ ((Below.refl _ w).alloc (Nat.le_refl _) _))

theorem kix (wx : World) : (Instr.index 194 (.agg #[.int .u8 1, .func (.func 161) #[] #[], .int .u8 2, .func (.func 163) #[] #[], .int .u8 3, .func (.func 164) #[] #[]]) (.int .i64 0)).run Tryz.prog wx = .ok (.agg #[.int .u8 1, .func (.func 161) #[] #[]]) wx ∧
    (Instr.index 194 (.agg #[.int .u8 1, .func (.func 161) #[] #[], .int .u8 2, .func (.func 163) #[] #[], .int .u8 3, .func (.func 164) #[] #[]]) (.int .i64 1)).run Tryz.prog wx = .ok (.agg #[.int .u8 2, .func (.func 163) #[] #[]]) wx ∧
    (Instr.index 194 (.agg #[.int .u8 1, .func (.func 161) #[] #[], .int .u8 2, .func (.func 163) #[] #[], .int .u8 3, .func (.func 164) #[] #[]]) (.int .i64 2)).run Tryz.prog wx = .ok (.agg #[.int .u8 3, .func (.func 164) #[] #[]]) wx := ⟨by kernel_rfl, by kernel_rfl, by kernel_rfl⟩

theorem kfield (wx : World) : (Instr.field 193 (.agg #[.int .u8 1, .func (.func 161) #[] #[]]) 1).run Tryz.prog wx = .ok (.func (.func 161) #[] #[]) wx := by kernel_rfl

end Go.Proofs.YtmkhfonafcikdaaGreatDoor

/- Tokens: Name. -/
namespace Go.Proofs.YtmkhfonafcikdaaGreatDoor
open Go.RowKit Go.My

theorem contains_own (l : List UInt8) : Lib.containsS (To.own.map bs) (bs l) = To.own.contains l := by
  rw [Bool.eq_iff_iff, Lib.containsS_iff]
  simp only [List.mem_map, List.contains_iff_mem]
  constructor
  · rintro ⟨x, hx, he⟩
    have := congrArg (fun s : ByteArray => s.data.toList) he
    simp only [bs_list] at this
    rw [← this]; exact hx
  · intro h; exact ⟨l, h, rfl⟩

theorem own_t {w : World} (l : List UInt8) {Q : Ending → World → Prop} (h : Q (.returned (.bool (To.own.contains l))) (w.alloc (.cells #[.string (bs [102, 110]), .string (bs [105, 102]), .string (bs [101, 108, 115, 101]), .string (bs [119, 104, 105, 108, 101]), .string (bs [114, 101, 116, 117, 114, 110]), .string (bs [116, 101, 108, 108]), .string (bs [110, 111, 116])] 9))) :
    Calls Tryz.prog 32 #[.slice (some ⟨w.heap.size, 0, none⟩) 7 7, .string (bs l)] (w.alloc (.cells #[.string (bs [102, 110]), .string (bs [105, 102]), .string (bs [101, 108, 115, 101]), .string (bs [119, 104, 105, 108, 101]), .string (bs [114, 101, 116, 117, 114, 110]), .string (bs [116, 101, 108, 108]), .string (bs [110, 111, 116])] 9)) Q := by
  refine Calls.mono (Tryz.slices_Contains_string w.heap.size 0 7 7 (To.own.map bs) (bs l) _ (by decide) (by decide) (fun j hj => ?_)) ?_
  · rw [cell_of_row _ w.heap.size (0 + j) _ 9 (0, 0) (_root_.Go.heap_alloc_new w _)]
    have hj7 : j < 7 := hj
    match j, hj7 with
    | 0, _ => rfl
    | 1, _ => rfl
    | 2, _ => rfl
    | 3, _ => rfl
    | 4, _ => rfl
    | 5, _ => rfl
    | 6, _ => rfl
  · rintro e w' ⟨rfl, rfl⟩
    rw [show (To.own.map bs).take 7 = To.own.map bs from rfl, contains_own]
    exact h

set_option maxHeartbeats 1000000 in
theorem name_t {w : World} (l : List UInt8) (hl : l.length ≤ 9223372036854775807) {Q : Ending → World → Prop} (h : ∀ w', Below w.heap.size w w' → Q (.returned (.bool (To.name l))) w') :
    Calls Tryz.prog 90 #[.string (bs l)] w Q := by
  have H := Lib.hid h
  clear h
  have hB0 := Lib.hid ((Below.refl w.heap.size w).alloc (Nat.le_refl _) (.cells #[.string (bs [102, 110]), .string (bs [105, 102]), .string (bs [101, 108, 115, 101]), .string (bs [119, 104, 105, 108, 101]), .string (bs [114, 101, 116, 117, 114, 110]), .string (bs [116, 101, 108, 108]), .string (bs [110, 111, 116])] 9))
  obtain ⟨b, hb⟩ : ∃ b, b = To.own.contains l := ⟨_, rfl⟩
  have HBo := Lib.hid hb
  cases b with
  | true =>
    have e : To.name l = false := by unfold To.name; rw [← hb]; rfl
    rw [e] at H
    clear e hb
    go_enter Tryz.func90, Tryz.ntmps90
    go_wp2_with fail
    refine own_t l ?_
    rw [← HBo.out]
    go_wp2_with fail
    exact H.out _ hB0.out
  | false =>
    cases l with
    | nil =>
      have e : To.name [] = false := rfl
      rw [e] at H
      have hem : (bs []).toList = [] := by rw [ByteArray.toList_eq, bs_list]
      clear e hb
      go_enter Tryz.func90, Tryz.ntmps90
      go_wp2_with fail
      refine own_t [] ?_
      rw [← HBo.out]
      go_wp2_with fail
      exact H.out _ hB0.out
    | cons c r =>
      have hne : (bs (c :: r)).toList.isEmpty = false := by rw [ByteArray.toList_eq, bs_list]; rfl
      have e : To.name (c :: r) = (To.word (c :: r) == (c :: r).length) := by unfold To.name; rw [← hb]; simp
      rw [e] at H
      have hsz := bs_size (c :: r)
      obtain ⟨n, hn⟩ : ∃ n, n = (c :: r).length := ⟨_, rfl⟩
      rw [← hn] at hsz hl H
      obtain ⟨x, hx⟩ : ∃ x, x = To.word (c :: r) := ⟨_, rfl⟩
      have hdec : (To.word (c :: r) == n) = decide ((x : Int) = (n : Int)) := by rw [← hx, Bool.eq_iff_iff]; simp; omega
      rw [hdec] at H
      have HN := Lib.hid (And.intro hn hx)
      clear e hb hn hx hdec
      go_enter Tryz.func90, Tryz.ntmps90
      go_wp2_with fail
      refine own_t (c :: r) ?_
      rw [← HBo.out]
      have hk0 := fun wx => (kix wx).1
      have hk1 := fun wx => kfield wx
      go_wp2_with fail
      refine kinds_t fun w1 hB1 => ?_
      have HB1 := Lib.hid (hB0.out.trans (hB1.mono hB0.out.size))
      clear hB1
      go_wp2_with fail
      refine word_t (c :: r) (by rw [← HN.out.1]; exact hl) fun w2 hB2 => ?_
      have HB2 := Lib.hid (HB1.out.trans (hB2.mono HB1.out.size))
      clear hB2
      rw [← HN.out.2]
      go_wp2_with fail
      exact H.out _ HB2.out
end Go.Proofs.YtmkhfonafcikdaaGreatDoor

/- Tokens: the reference's words and names; the walk of TokensNames. -/
namespace Go.To
theorem word_zero (l : List UInt8) (h : l = [] ∨ ∃ c r, l = c :: r ∧ isL c = false) : word l = 0 := by
  rcases h with rfl | ⟨c, r, rfl, h⟩
  · rfl
  · unfold word; rw [if_pos]; unfold run; rw [if_neg (by simp [h])]
theorem word_one (c : UInt8) (r : List UInt8) (h : isL c = true) : word (c :: r) = 1 + run isW r := by
  have hw : isW c = true := by unfold isW; rw [h]; rfl
  unfold word
  rw [if_neg (by unfold run; rw [if_pos h]; omega)]
  conv => lhs; unfold run
  rw [if_pos hw]; omega
theorem run_cons (p : UInt8 → Bool) (c : UInt8) (r : List UInt8) : run p (c :: r) = if p c then run p r + 1 else 0 := rfl
end Go.To
namespace Go.Proofs.YtmkhfonafcikdaaGreatDoor
open Go.RowKit Go.My

theorem isL_of (c : UInt8) : (97 ≤ c.toNat ∧ c.toNat ≤ 122 → To.isL c = true) ∧ (65 ≤ c.toNat ∧ c.toNat ≤ 90 → To.isL c = true) ∧ (c.toNat < 65 → To.isL c = false) ∧ (90 < c.toNat ∧ c.toNat < 97 → To.isL c = false) ∧ (122 < c.toNat → To.isL c = false) := by
  unfold To.isL
  simp
  omega

set_option maxHeartbeats 1000000 in
theorem letter_t {w : World} (c : UInt8) {ci : Int} (hci : ci = (c.toNat : Int)) {Q : Ending → World → Prop} (h : Q (.returned (.bool (To.isL c))) w) : Calls Tryz.prog 172 #[.int .u8 ci] w Q := by
  subst hci
  have H := Lib.hid h
  obtain ⟨l1, l2, l3, l4, l5⟩ := isL_of c
  have hx := c.toNat_lt
  clear h
  by_cases h1 : c.toNat < 65
  · rw [l3 h1] at H
    generalize c.toNat = x at *
    have j1 : (x : Int) < 65 := by omega
    have j2 : (x : Int) < 97 := by omega
    clear l1 l2 l3 l4 l5 h1 hx
    go_enter Tryz.func172, Tryz.ntmps172
    go_wp2_with fail
    exact H.out
  by_cases h2 : c.toNat ≤ 90
  · rw [l2 ⟨by omega, h2⟩] at H
    generalize c.toNat = x at *
    have j1 : (65 : Int) ≤ (x : Int) := by omega
    have j2 : (x : Int) ≤ 90 := by omega
    have j3 : (x : Int) < 97 := by omega
    clear l1 l2 l3 l4 l5 h1 hx h2
    go_enter Tryz.func172, Tryz.ntmps172
    go_wp2_with fail
    exact H.out
  by_cases h3 : c.toNat < 97
  · rw [l4 ⟨by omega, h3⟩] at H
    generalize c.toNat = x at *
    have j1 : (90 : Int) < (x : Int) := by omega
    have j2 : (65 : Int) ≤ (x : Int) := by omega
    have j3 : (x : Int) < 97 := by omega
    have d1 : decide ((x : Int) ≤ 90) = false := by simp; omega
    clear l1 l2 l3 l4 l5 h1 hx h2 h3
    go_enter Tryz.func172, Tryz.ntmps172
    go_wp2_with fail
    exact H.out
  by_cases h4 : c.toNat ≤ 122
  · rw [l1 ⟨by omega, h4⟩] at H
    generalize c.toNat = x at *
    have j1 : (97 : Int) ≤ (x : Int) := by omega
    have j2 : (x : Int) ≤ 122 := by omega
    clear l1 l2 l3 l4 l5 h1 hx h2 h3 h4
    go_enter Tryz.func172, Tryz.ntmps172
    go_wp2_with fail
    exact H.out
  · rw [l5 (by omega)] at H
    generalize c.toNat = x at *
    have j1 : (122 : Int) < (x : Int) := by omega
    have j2 : (97 : Int) ≤ (x : Int) := by omega
    have j3 : (90 : Int) < (x : Int) := by omega
    have j4 : (65 : Int) ≤ (x : Int) := by omega
    have d1 : decide ((x : Int) ≤ 90) = false := by simp; omega
    have d2 : decide ((x : Int) ≤ 122) = false := by simp; omega
    clear l1 l2 l3 l4 l5 h1 hx h2 h3 h4
    go_enter Tryz.func172, Tryz.ntmps172
    go_wp2_with fail
    exact H.out

theorem isD_of (c : UInt8) : (48 ≤ c.toNat ∧ c.toNat ≤ 57 → To.isD c = true) ∧ (c.toNat < 48 → To.isD c = false) ∧ (57 < c.toNat → To.isD c = false) := by
  unfold To.isD
  simp
  omega

set_option maxHeartbeats 1000000 in
theorem digit_t {w : World} (c : UInt8) {ci : Int} (hci : ci = (c.toNat : Int)) {Q : Ending → World → Prop} (h : Q (.returned (.bool (To.isD c))) w) : Calls Tryz.prog 173 #[.int .u8 ci] w Q := by
  subst hci
  have H := Lib.hid h
  obtain ⟨l1, l2, l3⟩ := isD_of c
  have hx := c.toNat_lt
  clear h
  by_cases h1 : c.toNat < 48
  · rw [l2 h1] at H
    generalize c.toNat = x at *
    have j1 : (x : Int) < 48 := by omega
    clear l1 l2 l3 h1 hx
    go_enter Tryz.func173, Tryz.ntmps173
    go_wp2_with fail
    exact H.out
  by_cases h2 : c.toNat ≤ 57
  · rw [l1 ⟨by omega, h2⟩] at H
    generalize c.toNat = x at *
    have j1 : (48 : Int) ≤ (x : Int) := by omega
    have j2 : (x : Int) ≤ 57 := by omega
    clear l1 l2 l3 h1 hx h2
    go_enter Tryz.func173, Tryz.ntmps173
    go_wp2_with fail
    exact H.out
  · rw [l3 (by omega)] at H
    generalize c.toNat = x at *
    have j1 : (48 : Int) ≤ (x : Int) := by omega
    have j2 : (57 : Int) < (x : Int) := by omega
    have d1 : decide ((x : Int) ≤ 57) = false := by simp; omega
    clear l1 l2 l3 h1 hx h2
    go_enter Tryz.func173, Tryz.ntmps173
    go_wp2_with fail
    exact H.out

def WordAt (w : World) (l : List UInt8) (gk : Nat) (vn : Value) (wr : World) : Prop :=
  ∃ n : Nat, n ≤ l.length ∧ gk = l.length - n ∧ vn = .int .i64 (n : Int) ∧ (n = 0 ∨ To.word l = n + To.run To.isW (l.drop n)) ∧ w = wr

theorem word_step {l : List UInt8} {n : Nat} {c : UInt8} {r : List UInt8} (h : n = 0 ∨ To.word l = n + To.run To.isW (l.drop n)) (hd : l.drop n = c :: r) (hc : To.isL c = true ∨ (0 < n ∧ To.isW c = true)) : To.word l = (n + 1) + To.run To.isW (l.drop (n + 1)) := by
  have hr : l.drop (n + 1) = r := by rw [← List.drop_drop, hd]; rfl
  rw [hr]
  rcases Nat.eq_zero_or_pos n with h0 | h0
  · subst h0
    rcases hc with hc | hc
    · rw [List.drop_zero] at hd; rw [hd, To.word_one c r hc]
    · omega
  · have hw : To.isW c = true := by
      rcases hc with hc | hc
      · unfold To.isW; rw [hc]; rfl
      · exact hc.2
    rcases h with h | h
    · omega
    · rw [h, hd, To.run_cons, if_pos hw]; omega
theorem word_done {l : List UInt8} {n : Nat} (h : n = 0 ∨ To.word l = n + To.run To.isW (l.drop n)) (hd : l.drop n = [] ∨ ∃ c r, l.drop n = c :: r ∧ To.isL c = false ∧ (n = 0 ∨ To.isW c = false)) : To.word l = n := by
  rcases Nat.eq_zero_or_pos n with h0 | h0
  · subst h0
    rw [List.drop_zero] at hd
    refine To.word_zero l ?_
    rcases hd with hd | ⟨c, r, h1, h2, _⟩
    · exact .inl hd
    · exact .inr ⟨c, r, h1, h2⟩
  · rcases h with h | h
    · omega
    · rw [h]
      rcases hd with hd | ⟨c, r, h1, h2, h3⟩
      · rw [hd]; rfl
      · rw [h1, To.run_cons, if_neg (by rcases h3 with h3 | h3; omega; simp [h3])]; rfl

set_option maxHeartbeats 4000000 in
theorem refword_t {w : World} (l : List UInt8) (hl : l.length ≤ 9223372036854775807) {Q : Ending → World → Prop} (h : Q (.returned (.int .i64 (To.word l : Nat))) w) :
    Calls Tryz.prog 150 #[.string (bs l)] w Q := by
  have H := Lib.hid h
  have hs0 := bs_size l
  have hl1 : (l.length : Int) ≤ 9223372036854775807 := by omega
  clear h
  go_enter Tryz.func150, Tryz.ntmps150
  go_wp2_with fail
  go_loopg [3] l.length (fun gk vn wr => WordAt w l gk vn wr)
  case atStart => exact ⟨0, Nat.zero_le _, rfl, rfl, .inl rfl, rfl⟩
  case round =>
    obtain ⟨n, hn, rfl, rfl, hw, rfl⟩ := hrel
    have HW := Lib.hid hw
    have n0 : (0 : Int) ≤ (n : Int) := by omega
    clear hw
    by_cases hlt : n < l.length
    · have hei : (n : Int) < (l.length : Int) := by omega
      have hix := ix_s l .i64 n (z := (n : Int)) rfl hlt
      have hd := List.drop_eq_getElem_cons hlt
      generalize l[n] = c at *
      have HD := Lib.hid hd
      clear hd
      cases hL : To.isL c with
      | true =>
        have X := Lib.hid (word_step HW.out HD.out (.inl hL))
        have HL := Lib.hid hL
        clear hL
        go_wp2_with fail
        refine letter_t c rfl ?_
        rw [HL.out]
        go_wp2_with fail
        go_roundg (l.length - (n + 1))
        case measure => omega
        case rel => exact ⟨n + 1, hlt, rfl, by go_num, .inr X.out, rfl⟩
      | false =>
        by_cases hz : n = 0
        · have X := Lib.hid (word_done HW.out (.inr ⟨c, _, HD.out, hL, .inl hz⟩))
          have HL := Lib.hid hL
          have hz1 : (n : Int) ≤ 0 := by omega
          clear hL hz
          go_wp2_with fail
          refine letter_t c rfl ?_
          rw [HL.out]
          have h2 := Lib.hid H.out
          rw [X.out] at h2
          go_wp2_with fail
          exact h2.out
        · have hz1 : (0 : Int) < (n : Int) := by omega
          have hz2 : 0 < n := by omega
          clear hz
          cases hD : To.isD c with
          | true =>
            have X := Lib.hid (word_step HW.out HD.out (.inr ⟨hz2, by unfold To.isW; rw [hL, hD]; rfl⟩))
            have HL := Lib.hid (And.intro hL hD)
            clear hL hD
            go_wp2_with fail
            refine letter_t c rfl ?_
            rw [HL.out.1]
            go_wp2_with fail
            refine digit_t c rfl ?_
            rw [HL.out.2]
            go_wp2_with fail
            go_roundg (l.length - (n + 1))
            case measure => omega
            case rel => exact ⟨n + 1, hlt, rfl, by go_num, .inr X.out, rfl⟩
          | false =>
            by_cases h95 : c.toNat = 95
            · have X := Lib.hid (word_step HW.out HD.out (.inr ⟨hz2, by unfold To.isW; rw [hL, hD, h95]; rfl⟩))
              have HL := Lib.hid (And.intro hL hD)
              have h951 : (c.toNat : Int) = 95 := by omega
              clear hL hD h95
              go_wp2_with fail
              refine letter_t c h951.symm ?_
              rw [HL.out.1]
              go_wp2_with fail
              refine digit_t c h951.symm ?_
              rw [HL.out.2]
              go_wp2_with fail
              go_roundg (l.length - (n + 1))
              case measure => omega
              case rel => exact ⟨n + 1, hlt, rfl, by go_num, .inr X.out, rfl⟩
            · have X := Lib.hid (word_done HW.out (.inr ⟨c, _, HD.out, hL, .inr (by unfold To.isW; rw [hL, hD]; simp [h95])⟩))
              have HL := Lib.hid (And.intro hL hD)
              have h951 : ((c.toNat : Int) == 95) = false := by simp; omega
              clear hL hD h95
              go_wp2_with fail
              refine letter_t c rfl ?_
              rw [HL.out.1]
              go_wp2_with fail
              refine digit_t c rfl ?_
              rw [HL.out.2]
              have h2 := Lib.hid H.out
              rw [X.out] at h2
              go_wp2_with fail
              exact h2.out
    · obtain rfl : n = l.length := by omega
      have X := Lib.hid (word_done HW.out (.inl (List.drop_length)))
      have h2 := Lib.hid H.out
      rw [X.out] at h2
      go_wp2_with fail
      exact h2.out
end Go.Proofs.YtmkhfonafcikdaaGreatDoor

/- Trees: digits without a needless nought, as the document has it. -/
namespace Go.Proofs.YtmkhfonafcikdaaGreatDoor
open Go.RowKit Go.My

theorem bs_tlp (l : List UInt8) : (bs l).toList = l := by rw [ByteArray.toList_eq, bs_list]

theorem plain_two (s : List UInt8) (hpos : 0 < s.length) (h1 : ¬ s.length = 1) (hall : s.all To.isD = true) : Nd.plain s = ((s[0]).toNat != 48) := by
  obtain ⟨c, d, r, rfl⟩ : ∃ c d r, s = c :: d :: r := by
    cases s with
    | nil => exact absurd hpos (Nat.lt_irrefl _)
    | cons c r =>
      cases r with
      | nil => exact absurd rfl h1
      | cons d r => exact ⟨c, d, r, rfl⟩
  unfold Nd.plain
  rw [hall, Bool.true_and, List.getElem_cons_zero]

def PlAt (s : List UInt8) (w : World) (gk : Nat) (v3 : Value) (wr : World) : Prop :=
  ∃ i : Nat, i ≤ s.length ∧ gk = s.length - i ∧ v3 = .int .i64 (i : Int) ∧ (s.drop i).all To.isD = s.all To.isD ∧ wr = w

set_option maxRecDepth 100000 in
set_option maxHeartbeats 4000000 in
theorem rplain_t {w : World} (s : List UInt8) (hs : s.length ≤ 9223372036854775807) {Q : Ending → World → Prop} (h : Q (.returned (.bool (Nd.plain s))) w) :
    Calls Tryz.prog 174 #[.string (bs s)] w Q := by
  have H := Lib.hid h
  have hs1 := bs_size s
  have s0 : (0 : Int) ≤ (s.length : Int) := by omega
  have s1 : (s.length : Int) ≤ 9223372036854775807 := by omega
  clear h
  go_enter Tryz.func174, Tryz.ntmps174
  go_wp2_with fail
  go_loopg [3] s.length (fun gk v3 wr => PlAt s w gk v3 wr)
  case atStart => exact ⟨0, Nat.zero_le _, rfl, rfl, rfl, rfl⟩
  case round =>
    obtain ⟨i, hi, rfl, rfl, hd, rfl⟩ := hrel
    have i0 : (0 : Int) ≤ (i : Int) := by omega
    by_cases hlt : i < s.length
    · have i1 : (i : Int) < (s.length : Int) := by omega
      have hix := ix_s s .i64 i (z := (i : Int)) rfl hlt
      have hdr := List.drop_eq_getElem_cons hlt
      generalize s[i] = c at *
      rw [hdr, List.all_cons] at hd
      have HD := Lib.hid hd
      clear hd hdr
      go_wp2_with fail
      refine digit_t c rfl ?_
      cases hc : To.isD c with
      | true =>
        have HC := Lib.hid hc
        clear hc
        go_wp2_with fail
        go_roundg (s.length - (i + 1))
        case measure => omega
        case rel => exact ⟨i + 1, hlt, rfl, by go_num, by have := HD.out; rw [HC.out, Bool.true_and] at this; exact this, rfl⟩
      | false =>
        have HC := Lib.hid hc
        clear hc
        have hp : Nd.plain s = false := by unfold Nd.plain; rw [← HD.out, HC.out]; rfl
        rw [hp] at H
        clear hp
        go_wp2_with fail
        exact H.out
    · obtain rfl : i = s.length := by omega
      have hall : s.all To.isD = true := by rw [← hd, List.drop_length]; rfl
      have e1 := bs_tlp s
      clear hlt hd hi
      by_cases hn : s = []
      · subst hn
        have hp : Nd.plain [] = false := rfl
        rw [hp] at H
        clear hp hall
        go_wp2_with fail
        exact H.out
      · have he : s.isEmpty = false := by cases s with | nil => exact absurd rfl hn | cons _ _ => rfl
        have hpos : 0 < s.length := List.length_pos_iff.2 hn
        have hpi : (0 : Int) < (s.length : Int) := by omega
        by_cases h1 : s.length = 1
        · have hp : Nd.plain s = true := by
            unfold Nd.plain; rw [hall]
            match s, h1 with
            | [_], _ => rfl
          rw [hp] at H
          obtain ⟨c, rfl⟩ : ∃ c, s = [c] := by match s, h1 with | [c], _ => exact ⟨c, rfl⟩
          have hl1 := Lib.hid h1
          clear hp hall h1 hn
          go_wp2_with fail
          exact H.out
        · have h1' : ((s.length : Int) == 1) = false := by simp; omega
          have hix := ix_s s .i64 0 (z := (0 : Int)) rfl hpos
          have hp : Nd.plain s = ((s[0]).toNat != 48) := plain_two s hpos h1 hall
          rw [hp] at H
          generalize s[0] = c at *
          by_cases hc : c.toNat = 48
          · have hcf : ((c.toNat : Int) != 48) = false := by simp [hc]
            have hcb : (c.toNat != 48) = false := by simp [hc]
            rw [hcb] at H
            clear hp hall h1 hn hc hcb
            go_wp2_with fail
            exact H.out
          · have hcf : ((c.toNat : Int) != 48) = true := by simp; omega
            have hcb : (c.toNat != 48) = true := by simp [hc]
            rw [hcb] at H
            clear hp hall h1 hn hc hcb
            go_wp2_with fail
            exact H.out
end Go.Proofs.YtmkhfonafcikdaaGreatDoor

/- Trees: digits without a needless nought. -/
namespace Go.My
theorem mem_drop (p : UInt8 → Bool) (c : UInt8) (hp : p c = false) : ∀ l : List UInt8, c ∈ l → c ∈ l.dropWhile p := by
  intro l
  induction l with
  | nil => intro h; cases h
  | cons d l ih =>
    intro h
    rw [List.dropWhile_cons]
    by_cases hd : p d = true
    · rw [if_pos hd]
      rcases List.mem_cons.1 h with rfl | h
      · rw [hp] at hd; cases hd
      · exact ih h
    · rw [if_neg hd]; exact h
theorem drop_none (p : UInt8 → Bool) : ∀ l : List UInt8, (∀ c ∈ l, p c = true) → l.dropWhile p = [] := by
  intro l
  induction l with
  | nil => intro _; rfl
  | cons d l ih => intro h; rw [List.dropWhile_cons, if_pos (h d (List.mem_cons_self ..))]; exact ih fun c hc => h c (List.mem_cons_of_mem _ hc)
theorem trim_all (l cs : List UInt8) (h : ∀ c ∈ l, cs.contains c = true) : Lib.trimS l cs = [] := by
  unfold Lib.trimS Lib.trimLeftS Lib.trimRightS
  rw [drop_none (cs.contains ·) l.reverse (fun c hc => h c (List.mem_reverse.1 hc))]; rfl
theorem trim_not (l cs : List UInt8) {c : UInt8} (hc : c ∈ l) (hn : cs.contains c = false) : Lib.trimS l cs ≠ [] := by
  intro h
  have h1 := mem_drop (cs.contains ·) c hn l.reverse (List.mem_reverse.2 hc)
  have h2 := mem_drop (cs.contains ·) c hn _ (List.mem_reverse.2 h1)
  unfold Lib.trimS Lib.trimLeftS Lib.trimRightS at h
  rw [h] at h2; cases h2
end Go.My
namespace Go.Proofs.YtmkhfonafcikdaaGreatDoor
open Go.RowKit Go.My

theorem trims_t {w : World} (l : List UInt8) (hl : l.length ≤ 9223372036854775807) {Q : Ending → World → Prop} (h : ∀ w', Below w.heap.size w w' → Q (.returned (.string (bs (Lib.trimS l digits)))) w') :
    Calls Tryz.prog 193 #[.string (bs l), .string (bs digits)] w Q := by
  have hcon := Any.strings_Trim_laid Tryz.lays160 (by kernel_rfl) (bs l) (bs digits) w (by rw [bs_size]; exact hl) (by rw [bs_size]; decide) (by rw [bs_list]; exact cutD.ascii)
  refine Calls.mono (P := Tryz.prog) (f := 193) hcon ?_
  rintro e w' ⟨rfl, hB⟩
  rw [bs_list, bs_list]
  exact h w' hB

theorem isD_in (c : UInt8) : digits.contains c = To.isD c := cutD.is c

theorem plain_zero : Nd.plain [48] = true := by decide
theorem plain_some (s : List UInt8) (hpos : 0 < s.length) (hz : s ≠ [48]) (hall : s.all To.isD = true) : Nd.plain s = ((s[0]).toNat != 48) := by
  by_cases h1 : s.length = 1
  · obtain ⟨c, rfl⟩ : ∃ c, s = [c] := by
      cases s with
      | nil => exact absurd hpos (Nat.lt_irrefl _)
      | cons c r => cases r with
        | nil => exact ⟨c, rfl⟩
        | cons d r => simp at h1
    have hc : c.toNat ≠ 48 := fun h => hz (by rw [show c = 48 from UInt8.toNat_inj.1 h])
    unfold Nd.plain
    rw [hall, Bool.true_and, List.getElem_cons_zero]
    simp [hc]
  · exact plain_two s hpos h1 hall

set_option maxRecDepth 100000 in
set_option maxHeartbeats 4000000 in
theorem plain_t {w : World} (s : List UInt8) (hs : s.length ≤ 9223372036854775807) {Q : Ending → World → Prop} (h : ∀ w', Below w.heap.size w w' → Q (.returned (.bool (Nd.plain s))) w') :
    Calls Tryz.prog 169 #[.string (bs s)] w Q := by
  have H := Lib.hid h
  have hs1 := bs_size s
  have e1 := bs_tlp s
  have e9 := bs_tlp []
  clear h
  by_cases hn : s = []
  · subst hn
    have hp : Nd.plain [] = false := rfl
    rw [hp] at H
    clear hp
    go_enter Tryz.func169, Tryz.ntmps169
    go_wp2_with fail
    exact H.out _ (Below.refl _ _)
  · have he : s.isEmpty = false := by cases s with | nil => exact absurd rfl hn | cons _ _ => rfl
    have hpos : 0 < s.length := List.length_pos_iff.2 hn
    have hpi : (0 : Int) < (s.length : Int) := by omega
    have HS := Lib.hid hs
    by_cases hall : s.all To.isD = true
    · have hr : Lib.trimS s digits = [] := trim_all s digits fun c hc => by rw [isD_in]; exact List.all_eq_true.1 hall c hc
      have HRR := Lib.hid hr
      clear hr
      by_cases hz : s = [48]
      · subst hz
        rw [plain_zero] at H
        clear hall hn
        go_enter Tryz.func169, Tryz.ntmps169
        go_wp2_with fail
        refine trims_t [48] HS.out fun w' hB => ?_
        rw [HRR.out]
        have HB := Lib.hid hB
        clear hB
        go_wp2_with fail
        exact H.out _ HB.out
      · have hix := ix_s s .i64 0 (z := (0 : Int)) rfl hpos
        have hp := plain_some s hpos hz hall
        rw [hp] at H
        have hzb : (s == [48]) = false := by simp [hz]
        generalize s[0] = c at *
        by_cases hc : c.toNat = 48
        · have hcf : ((c.toNat : Int) != 48) = false := by simp [hc]
          have hcb : (c.toNat != 48) = false := by simp [hc]
          rw [hcb] at H
          clear hp hall hn hc hcb hz
          go_enter Tryz.func169, Tryz.ntmps169
          go_wp2_with fail
          refine trims_t s HS.out fun w' hB => ?_
          rw [HRR.out]
          have HB := Lib.hid hB
          clear hB
          go_wp2_with fail
          exact H.out _ HB.out
        · have hcf : ((c.toNat : Int) != 48) = true := by simp; omega
          have hcb : (c.toNat != 48) = true := by simp [hc]
          rw [hcb] at H
          clear hp hall hn hc hcb hz
          go_enter Tryz.func169, Tryz.ntmps169
          go_wp2_with fail
          refine trims_t s HS.out fun w' hB => ?_
          rw [HRR.out]
          have HB := Lib.hid hB
          clear hB
          go_wp2_with fail
          exact H.out _ HB.out
    · have hf : s.all To.isD = false := by simpa using hall
      have hp : Nd.plain s = false := by unfold Nd.plain; rw [hf]; rfl
      rw [hp] at H
      obtain ⟨c, hc, hcn⟩ : ∃ c ∈ s, To.isD c = false := by
        have := List.all_eq_false.1 hf
        obtain ⟨c, h1, h2⟩ := this
        exact ⟨c, h1, by simpa using h2⟩
      have hr := trim_not s digits hc (by rw [isD_in]; exact hcn)
      obtain ⟨r, hrr⟩ : ∃ r, r = Lib.trimS s digits := ⟨_, rfl⟩
      rw [← hrr] at hr
      have e2 := bs_tlp r
      have he2 : r.isEmpty = false := by cases r with | nil => exact absurd rfl hr | cons _ _ => rfl
      have HRR := Lib.hid hrr
      clear hp hall hn hf hc hcn hr hrr
      go_enter Tryz.func169, Tryz.ntmps169
      go_wp2_with fail
      refine trims_t s HS.out fun w' hB => ?_
      rw [← HRR.out]
      have HB := Lib.hid hB
      clear hB
      go_wp2_with fail
      exact H.out _ HB.out
end Go.Proofs.YtmkhfonafcikdaaGreatDoor

/- Tokens: the reference's Name; the walk of TokensNames. -/
namespace Go.Proofs.YtmkhfonafcikdaaGreatDoor
open Go.RowKit Go.My

theorem bs_tl (l : List UInt8) : (bs l).toList = l := by rw [ByteArray.toList_eq, bs_list]

set_option maxHeartbeats 4000000 in
theorem refname_t {w : World} (l : List UInt8) (hl : l.length ≤ 9223372036854775807) {Q : Ending → World → Prop} (h : Q (.returned (.bool (To.name l))) w) :
    Calls Tryz.prog 103 #[.string (bs l)] w Q := by
  have H := Lib.hid h
  clear h
  by_cases h1 : l = []
  · subst h1
    have e : To.name [] = false := by decide
    rw [e] at H
    have hbl := bs_tl []
    clear e
    go_enter Tryz.func103, Tryz.ntmps103
    go_wp2_with fail
    exact H.out
  have g0 := h1
  clear h1
  by_cases h1 : l = [102, 110]
  · subst h1
    have e : To.name [102, 110] = false := by decide
    rw [e] at H
    have hbl := bs_tl [102, 110]
    clear e
    go_enter Tryz.func103, Tryz.ntmps103
    go_wp2_with fail
    exact H.out
  have g1 := h1
  clear h1
  by_cases h1 : l = [105, 102]
  · subst h1
    have e : To.name [105, 102] = false := by decide
    rw [e] at H
    have hbl := bs_tl [105, 102]
    clear e
    go_enter Tryz.func103, Tryz.ntmps103
    go_wp2_with fail
    exact H.out
  have g2 := h1
  clear h1
  by_cases h1 : l = [101, 108, 115, 101]
  · subst h1
    have e : To.name [101, 108, 115, 101] = false := by decide
    rw [e] at H
    have hbl := bs_tl [101, 108, 115, 101]
    clear e
    go_enter Tryz.func103, Tryz.ntmps103
    go_wp2_with fail
    exact H.out
  have g3 := h1
  clear h1
  by_cases h1 : l = [119, 104, 105, 108, 101]
  · subst h1
    have e : To.name [119, 104, 105, 108, 101] = false := by decide
    rw [e] at H
    have hbl := bs_tl [119, 104, 105, 108, 101]
    clear e
    go_enter Tryz.func103, Tryz.ntmps103
    go_wp2_with fail
    exact H.out
  have g4 := h1
  clear h1
  by_cases h1 : l = [114, 101, 116, 117, 114, 110]
  · subst h1
    have e : To.name [114, 101, 116, 117, 114, 110] = false := by decide
    rw [e] at H
    have hbl := bs_tl [114, 101, 116, 117, 114, 110]
    clear e
    go_enter Tryz.func103, Tryz.ntmps103
    go_wp2_with fail
    exact H.out
  have g5 := h1
  clear h1
  by_cases h1 : l = [116, 101, 108, 108]
  · subst h1
    have e : To.name [116, 101, 108, 108] = false := by decide
    rw [e] at H
    have hbl := bs_tl [116, 101, 108, 108]
    clear e
    go_enter Tryz.func103, Tryz.ntmps103
    go_wp2_with fail
    exact H.out
  have g6 := h1
  clear h1
  by_cases h1 : l = [110, 111, 116]
  · subst h1
    have e : To.name [110, 111, 116] = false := by decide
    rw [e] at H
    have hbl := bs_tl [110, 111, 116]
    clear e
    go_enter Tryz.func103, Tryz.ntmps103
    go_wp2_with fail
    exact H.out
  have g7 := h1
  clear h1
  obtain ⟨x, hx⟩ : ∃ x, x = To.word l := ⟨_, rfl⟩
  have hcon : To.own.contains l = false := by
    simp only [To.own, List.contains_cons, List.contains_nil, Bool.or_false, Bool.or_eq_false_iff, beq_eq_false_iff_ne]
    exact ⟨g1, g2, g3, g4, g5, g6, g7⟩
  have hemp : l.isEmpty = false := by cases l with | nil => exact absurd rfl g0 | cons _ _ => rfl
  have e : To.name l = decide ((x : Int) = (l.length : Int)) := by
    unfold To.name
    rw [hcon, hemp, ← hx, Bool.eq_iff_iff]; simp; omega
  rw [e] at H
  have b0 : (bs l).toList.isEmpty = false := by rw [bs_tl]; exact hemp
  have b1 : ((bs l).toList == [102, 110]) = false := by rw [bs_tl]; simpa using g1
  have b2 : ((bs l).toList == [105, 102]) = false := by rw [bs_tl]; simpa using g2
  have b3 : ((bs l).toList == [101, 108, 115, 101]) = false := by rw [bs_tl]; simpa using g3
  have b4 : ((bs l).toList == [119, 104, 105, 108, 101]) = false := by rw [bs_tl]; simpa using g4
  have b5 : ((bs l).toList == [114, 101, 116, 117, 114, 110]) = false := by rw [bs_tl]; simpa using g5
  have b6 : ((bs l).toList == [116, 101, 108, 108]) = false := by rw [bs_tl]; simpa using g6
  have b7 : ((bs l).toList == [110, 111, 116]) = false := by rw [bs_tl]; simpa using g7
  have hsz := bs_size l
  have HN := Lib.hid hx
  clear e hx hcon hemp g0 g1 g2 g3 g4 g5 g6 g7
  go_enter Tryz.func103, Tryz.ntmps103
  go_wp2_with fail
  refine refword_t l hl ?_
  rw [← HN.out]
  go_wp2_with fail
  exact H.out
end Go.Proofs.YtmkhfonafcikdaaGreatDoor

/- Trees: may a node be an expression. -/
namespace Go.My
open Go.Nd
def isTwoNum : List Nd → Bool
  | [_, x] => x.kind == 1
  | _ => false
theorem raised_items (l : Ns) : Nd.raised l = isTwoNum l.items := rfl
theorem raised_two (l : Ns) (h : l.items.length = 2) : Nd.raised l = ((l.items[1]).kind == 1) := by
  have key : ∀ (L : List Nd) (h : L.length = 2), isTwoNum L = ((L[1]).kind == 1) := by
    intro L h
    match L, h with
    | [a, b], _ => rfl
  exact (raised_items l).trans (key l.items h)
theorem raised_not (l : Ns) (h : l.items.length ≠ 2) : Nd.raised l = false := by
  have key : ∀ (L : List Nd) (h : L.length ≠ 2), isTwoNum L = false := by
    intro L h
    match L, h with
    | [], _ => rfl
    | [_], _ => rfl
    | [_, _], h => exact absurd rfl h
    | _ :: _ :: _ :: _, _ => rfl
  exact (raised_items l).trans (key l.items h)
theorem head_other (k : Nat) (t : List UInt8) (l : Ns) (h1 : k ≠ 1) (h2 : k ≠ 2) (h3 : k ≠ 3) (h4 : k ≠ 4) (h5 : k ≠ 5) (h6 : k ≠ 6) (h7 : k ≠ 7) : head k t l = false := by
  unfold head
  rw [if_neg h1, if_neg h2, if_neg h3, if_neg h4, if_neg (by omega), if_neg h5]
end Go.My
namespace Go.Proofs.YtmkhfonafcikdaaGreatDoor
open Go.RowKit Go.My Go.Nd

theorem contains_signs (l : List UInt8) : Lib.containsS (Nd.signs.map bs) (bs l) = Nd.signs.contains l := by
  rw [Bool.eq_iff_iff, Lib.containsS_iff]
  simp only [List.mem_map, List.contains_iff_mem]
  constructor
  · rintro ⟨x, hx, he⟩
    have := congrArg (fun s : ByteArray => s.data.toList) he
    simp only [bs_list] at this
    rw [← this]; exact hx
  · intro h; exact ⟨l, h, rfl⟩

theorem signs_t {w : World} (l : List UInt8) {Q : Ending → World → Prop} (h : Q (.returned (.bool (Nd.signs.contains l))) (w.alloc (.cells #[.string (bs [43]), .string (bs [45]), .string (bs [42]), .string (bs [47]), .string (bs [61, 61]), .string (bs [33, 61]), .string (bs [60]), .string (bs [60, 61])] 9))) :
    Calls Tryz.prog 32 #[.slice (some ⟨w.heap.size, 0, none⟩) 8 8, .string (bs l)] (w.alloc (.cells #[.string (bs [43]), .string (bs [45]), .string (bs [42]), .string (bs [47]), .string (bs [61, 61]), .string (bs [33, 61]), .string (bs [60]), .string (bs [60, 61])] 9)) Q := by
  refine Calls.mono (Tryz.slices_Contains_string w.heap.size 0 8 8 (Nd.signs.map bs) (bs l) _ (by decide) (by decide) (fun j hj => ?_)) ?_
  · rw [cell_of_row _ w.heap.size (0 + j) _ 9 (0, 0) (_root_.Go.heap_alloc_new w _)]
    have hj7 : j < 8 := hj
    match j, hj7 with
    | 0, _ => rfl
    | 1, _ => rfl
    | 2, _ => rfl
    | 3, _ => rfl
    | 4, _ => rfl
    | 5, _ => rfl
    | 6, _ => rfl
    | 7, _ => rfl
  · rintro e w' ⟨rfl, rfl⟩
    rw [show (Nd.signs.map bs).take 8 = Nd.signs.map bs from rfl, contains_signs]
    exact h

/-- What the answer is, once its parts are known. -/
theorem expr_no {kd : Nat} {tt : List UInt8} {xl xb xe : Ns} (h : xb.len ≠ 0 ∨ xe.len ≠ 0 ∨ exprs xl = false ∨ head kd tt xl = false) : exprOne ⟨kd, tt, xl, xb, xe⟩ = false := by
  unfold exprOne
  rcases h with h | h | h | h
  · simp [h]
  · simp [h]
  · simp [h]
  · simp [h]
theorem expr_is {kd : Nat} {tt : List UInt8} {xl xb xe : Ns} (h1 : xb.len = 0) (h2 : xe.len = 0) (h3 : exprs xl = true) : exprOne ⟨kd, tt, xl, xb, xe⟩ = head kd tt xl := by
  unfold exprOne
  simp [h1, h2, h3]

set_option maxRecDepth 100000 in
set_option maxHeartbeats 8000000 in
theorem expr_one {tw : Bool} {B : Nat} {x : Nd} (h : ∀ y ∈ x.l.items, Asked tw B 140 exprOne y) : Asked tw B 140 exprOne x := by
  intro w a1 a2 a3 c1 c2 c3 hB n1 n2 n3 hk ht
  have hA := Below.alloc (Below.refl w.heap.size w) (Nat.le_refl _) (.cells #[.int .u8 (x.kind : Int), .string (tx x.text), .slice a1 x.l.len c1, .slice a2 x.body.len c2, .slice a3 x.els.len c3] 61)
  have HC := Lib.hid (contains_said (Nat.le_trans hB hA.size) (n1.below (hA.mono hB)) (fn := 168) (p := fun x => !exprOne x) (fun y hy => expr1_one (h y hy)) (fun _ _ => by kernel_rfl))
  rw [not_exprs] at HC
  have Y := Lib.hid (And.intro hA (And.intro hB n1))
  obtain ⟨kd, tt, xl, xb, xe⟩ := x
  have etx : tx tt = bs tt := rfl
  simp only [etx] at *
  have hs := bs_tl tt
  have k0 : (0 : Int) ≤ (kd : Int) := by omega
  have k1 : (kd : Int) < 256 := by omega
  have l0 : (0 : Int) ≤ (xl.len : Int) := by omega
  have l1 : (xl.len : Int) ≤ 140737488351232 := by obtain ⟨_, _, _, hr, _⟩ := n1; have := hr.2.2.1; omega
  have b0 : (0 : Int) ≤ (xb.len : Int) := by omega
  have e0 : (0 : Int) ≤ (xe.len : Int) := by omega
  have HT := Lib.hid (show tt.length ≤ 9223372036854775807 by omega)
  clear h n1 n2 n3 hA hB etx ht hk
  by_cases hb : 0 < xb.len
  · have hbi : (0 : Int) < (xb.len : Int) := by omega
    have HN := Lib.hid (expr_no (kd := kd) (tt := tt) (xl := xl) (xb := xb) (xe := xe) (.inl (by omega)))
    clear hb
    go_enter Tryz.func140, Tryz.ntmps140
    go_wp2_with fail
    go_ret
    exact ⟨by rw [HN.out]; rfl, Y.out.1⟩
  have HB := Lib.hid (show xb.len = 0 by omega)
  rw [HB.out] at HC Y ⊢
  clear hb b0
  by_cases he : 0 < xe.len
  · have hei : (0 : Int) < (xe.len : Int) := by omega
    have HN := Lib.hid (expr_no (kd := kd) (tt := tt) (xl := xl) (xb := xb) (xe := xe) (.inr (.inl (by omega))))
    clear he
    go_enter Tryz.func140, Tryz.ntmps140
    go_wp2_with fail
    go_ret
    exact ⟨by rw [HN.out]; rfl, Y.out.1⟩
  have HE := Lib.hid (show xe.len = 0 by omega)
  rw [HE.out] at HC Y ⊢
  clear he e0
  go_enter Tryz.func140, Tryz.ntmps140
  go_wp2_with fail
  refine HC.out.mono ?_
  rintro e w1 ⟨rfl, hb1⟩
  have q0 := box_later hb1 0
  have q1 := box_later hb1 1
  have q2 := box_later hb1 2
  simp at q0 q1 q2
  have K1 := Lib.hid (And.intro hb1 (Y.out.1.trans (hb1.mono Y.out.1.size)))
  clear hb1
  cases hx : exprs xl with
  | false =>
    have HN := Lib.hid (expr_no (kd := kd) (tt := tt) (xl := xl) (xb := xb) (xe := xe) (.inr (.inr (.inl hx))))
    clear hx
    go_wp2_with fail
    go_ret
    exact ⟨by rw [HN.out]; rfl, K1.out.2⟩
  | true =>
    have HI := Lib.hid (expr_is (kd := kd) (tt := tt) HB.out HE.out hx)
    clear hx
    by_cases e1 : kd = 1
    · subst e1
      by_cases hz : xl.len = 0
      · have HH := Lib.hid (show head 1 tt xl = Nd.plain tt by unfold head; rw [if_pos rfl, hz]; rfl)
        have hzi : (xl.len : Int) = 0 := by omega
        clear hz
        go_wp2_with fail
        refine plain_t tt HT.out fun w2 hb2 => ?_
        have K2 := Lib.hid (K1.out.2.trans (hb2.mono K1.out.2.size))
        clear hb2
        go_wp2_with fail
        go_ret
        exact ⟨by rw [HI.out, HH.out]; rfl, K2.out⟩
      · have HH := Lib.hid (show head 1 tt xl = false by unfold head; rw [if_pos rfl]; simp [hz])
        have hzi : ((xl.len : Int) == 0) = false := by simp; omega
        clear hz
        go_wp2_with fail
        go_ret
        exact ⟨by rw [HI.out, HH.out]; rfl, K1.out.2⟩
    by_cases e2 : kd = 2
    · subst e2
      by_cases hz : xl.len = 0
      · have HH := Lib.hid (show head 2 tt xl = To.name tt by unfold head; rw [if_neg (by decide), if_pos rfl, hz]; rfl)
        have hzi : (xl.len : Int) = 0 := by omega
        clear hz
        go_wp2_with fail
        refine name_t tt HT.out fun w2 hb2 => ?_
        have K2 := Lib.hid (K1.out.2.trans (hb2.mono K1.out.2.size))
        clear hb2
        go_wp2_with fail
        go_ret
        exact ⟨by rw [HI.out, HH.out]; rfl, K2.out⟩
      · have HH := Lib.hid (show head 2 tt xl = false by unfold head; rw [if_neg (by decide), if_pos rfl]; simp [hz])
        have hzi : ((xl.len : Int) == 0) = false := by simp; omega
        clear hz
        go_wp2_with fail
        go_ret
        exact ⟨by rw [HI.out, HH.out]; rfl, K1.out.2⟩
    by_cases e3 : kd = 3
    · subst e3
      have HH := Lib.hid (show head 3 tt xl = tt.isEmpty by unfold head; rw [if_neg (by decide), if_neg (by decide), if_pos rfl])
      go_wp2_with fail
      go_ret
      exact ⟨by rw [HI.out, HH.out]; rfl, K1.out.2⟩
    by_cases e4 : kd = 4
    · subst e4
      have HH := Lib.hid (show head 4 tt xl = To.name tt by unfold head; rw [if_neg (by decide), if_neg (by decide), if_neg (by decide), if_pos rfl])
      go_wp2_with fail
      refine name_t tt HT.out fun w2 hb2 => ?_
      have K2 := Lib.hid (K1.out.2.trans (hb2.mono K1.out.2.size))
      clear hb2
      go_wp2_with fail
      go_ret
      exact ⟨by rw [HI.out, HH.out]; rfl, K2.out⟩
    by_cases e67 : kd = 6 ∨ kd = 7
    · by_cases hz : xl.len = 1
      · have HH := Lib.hid (show head kd tt xl = tt.isEmpty by unfold head; rw [if_neg (by omega), if_neg (by omega), if_neg (by omega), if_neg (by omega), if_pos e67, hz]; rfl)
        have hzi : (xl.len : Int) = 1 := by omega
        clear hz e1 e2 e3 e4
        rcases e67 with rfl | rfl
        all_goals
          go_wp2_with fail
          go_ret
          exact ⟨by rw [HI.out, HH.out]; rfl, K1.out.2⟩
      · have HH := Lib.hid (show head kd tt xl = false by unfold head; rw [if_neg (by omega), if_neg (by omega), if_neg (by omega), if_neg (by omega), if_pos e67]; simp [hz])
        have hzi : ((xl.len : Int) == 1) = false := by simp; omega
        clear hz e1 e2 e3 e4
        rcases e67 with rfl | rfl
        all_goals
          go_wp2_with fail
          go_ret
          exact ⟨by rw [HI.out, HH.out]; rfl, K1.out.2⟩
    by_cases e5 : kd = 5
    · subst e5
      clear e1 e2 e3 e4 e67
      by_cases ht : tt = [94]
      · subst ht
        by_cases hz : xl.len = 2
        · have hz2 : xl.items.length = 2 := hz
          obtain ⟨a, c, ev, _, hc⟩ := (Y.out.2.2.below (K1.out.2.mono Y.out.2.1)).open_
          obtain ⟨b, off, v1, v2, v3, ea, _, hN⟩ := hc 1 (by omega)
          cases ev
          subst ea
          have d0 := hN.d0
          obtain ⟨k2, hk2⟩ : ∃ k2, k2 = (xl.items[1]).kind := ⟨_, rfl⟩
          rw [← hk2, Nat.one_mul] at d0
          have HH := Lib.hid (show head 5 [94] xl = (k2 == 1) by unfold head; rw [if_neg (by decide), if_neg (by decide), if_neg (by decide), if_neg (by decide), if_neg (by decide), if_pos rfl, if_pos rfl, raised_two xl hz2, hk2])
          have hzi : (xl.len : Int) = 2 := by omega
          have k2n : (0 : Int) ≤ (k2 : Int) := by omega
          have he : ((k2 : Int) == 1) = (k2 == 1) := by rw [Bool.eq_iff_iff]; simp; omega
          clear hz hz2 hc hN hk2
          go_wp2_with fail
          go_ret
          exact ⟨by rw [HI.out, HH.out]; simp, K1.out.2⟩
        · have HH := Lib.hid (show head 5 [94] xl = false by unfold head; rw [if_neg (by decide), if_neg (by decide), if_neg (by decide), if_neg (by decide), if_neg (by decide), if_pos rfl, if_pos rfl, raised_not xl hz])
          have hzi : ((xl.len : Int) == 2) = false := by simp; omega
          clear hz
          go_wp2_with fail
          go_ret
          exact ⟨by rw [HI.out, HH.out]; rfl, K1.out.2⟩
      · have hte : (tt == [94]) = false := by simpa using ht
        by_cases hz : xl.len = 2
        · have HH := Lib.hid (show head 5 tt xl = decide (tt ∈ Nd.signs) by unfold head; rw [if_neg (by decide), if_neg (by decide), if_neg (by decide), if_neg (by decide), if_neg (by decide), if_pos rfl, if_neg ht, hz, List.contains_eq_mem]; rfl)
          have hzi : (xl.len : Int) = 2 := by omega
          clear hz ht
          have hA1 := Below.alloc (Below.refl w1.heap.size w1) (Nat.le_refl _) (.cells #[.string (bs [43]), .string (bs [45]), .string (bs [42]), .string (bs [47]), .string (bs [61, 61]), .string (bs [33, 61]), .string (bs [60]), .string (bs [60, 61])] 9)
          have HA1 := Lib.hid hA1
          have q1' := fun o => box_later (K1.out.1.alloc K1.out.1.size o) 1
          simp at q1'
          clear hA1
          go_wp2_with fail
          refine signs_t tt ?_
          go_wp2_with fail
          go_ret
          exact ⟨by rw [HI.out, HH.out]; rfl, K1.out.2.trans (HA1.out.mono K1.out.2.size)⟩
        · have HH := Lib.hid (show head 5 tt xl = false by unfold head; rw [if_neg (by decide), if_neg (by decide), if_neg (by decide), if_neg (by decide), if_neg (by decide), if_pos rfl, if_neg ht]; simp [hz])
          have hzi : ((xl.len : Int) == 2) = false := by simp; omega
          clear hz ht
          go_wp2_with fail
          go_ret
          exact ⟨by rw [HI.out, HH.out]; rfl, K1.out.2⟩
    · have HH := Lib.hid (head_other kd tt xl e1 e2 e3 e4 e5 (fun h => e67 (.inl h)) (fun h => e67 (.inr h)))
      have f1 : ((kd : Int) == 1) = false := by simp; omega
      have f2 : ((kd : Int) == 2) = false := by simp; omega
      have f3 : ((kd : Int) == 3) = false := by simp; omega
      have f4 : ((kd : Int) == 4) = false := by simp; omega
      have f5 : ((kd : Int) == 5) = false := by simp; omega
      have f6 : ((kd : Int) == 6) = false := by simp; omega
      have f7 : ((kd : Int) == 7) = false := by simp; omega
      clear e1 e2 e3 e4 e5 e67
      go_wp2_with fail
      go_ret
      exact ⟨by rw [HI.out, HH.out]; rfl, K1.out.2⟩

theorem expr_said (tw : Bool) (B : Nat) : ∀ xs : Ns, ∀ x ∈ xs.items, Asked tw B 140 exprOne x :=
  Ns.each fun _ ih x hx => expr_one (ih x hx).1
end Go.Proofs.YtmkhfonafcikdaaGreatDoor

/- Trees: may a node be an expression, as the document has it. -/
namespace Go.Proofs.YtmkhfonafcikdaaGreatDoor
open Go.RowKit Go.My Go.Nd

def RExprAt (w0 : World) (xl : Ns) (gk : Nat) (v3 : Value) (wr : World) : Prop :=
  ∃ i : Nat, i ≤ xl.items.length ∧ gk = xl.items.length - i ∧ v3 = .int .i64 (i : Int) ∧ (xl.items.drop i).all exprOne = exprs xl ∧ Below w0.heap.size w0 wr

set_option maxRecDepth 100000 in
set_option maxHeartbeats 8000000 in
theorem rexpr_one {tw : Bool} {B : Nat} {x : Nd} (h : ∀ y ∈ x.l.items, Asked tw B 151 exprOne y) : Asked tw B 151 exprOne x := by
  intro w a1 a2 a3 c1 c2 c3 hB n1 n2 n3 hk ht
  have hA := Below.alloc (Below.refl w.heap.size w) (Nat.le_refl _) (.cells #[.int .u8 (x.kind : Int), .string (tx x.text), .slice a1 x.l.len c1, .slice a2 x.body.len c2, .slice a3 x.els.len c3] 61)
  have HC := Lib.hid h
  have Y := Lib.hid (And.intro hA (And.intro hB n1))
  obtain ⟨kd, tt, xl, xb, xe⟩ := x
  have etx : tx tt = bs tt := rfl
  simp only [etx] at *
  have hs := bs_tl tt
  have k0 : (0 : Int) ≤ (kd : Int) := by omega
  have k1 : (kd : Int) < 256 := by omega
  have l0 : (0 : Int) ≤ (xl.len : Int) := by omega
  have l1 : (xl.len : Int) ≤ 140737488351232 := by obtain ⟨_, _, _, hr, _⟩ := n1; have := hr.2.2.1; omega
  have b0 : (0 : Int) ≤ (xb.len : Int) := by omega
  have e0 : (0 : Int) ≤ (xe.len : Int) := by omega
  have HT := Lib.hid (show tt.length ≤ 9223372036854775807 by omega)
  clear h n1 n2 n3 hA hB etx ht hk
  by_cases hb : 0 < xb.len
  · have hbi : (0 : Int) < (xb.len : Int) := by omega
    have HN := Lib.hid (expr_no (kd := kd) (tt := tt) (xl := xl) (xb := xb) (xe := xe) (.inl (by omega)))
    clear hb
    go_enter Tryz.func151, Tryz.ntmps151
    go_wp2_with fail
    go_ret
    exact ⟨by rw [HN.out]; rfl, Y.out.1⟩
  have HB := Lib.hid (show xb.len = 0 by omega)
  rw [HB.out] at Y ⊢
  clear hb b0
  by_cases he : 0 < xe.len
  · have hei : (0 : Int) < (xe.len : Int) := by omega
    have HN := Lib.hid (expr_no (kd := kd) (tt := tt) (xl := xl) (xb := xb) (xe := xe) (.inr (.inl (by omega))))
    clear he
    go_enter Tryz.func151, Tryz.ntmps151
    go_wp2_with fail
    go_ret
    exact ⟨by rw [HN.out]; rfl, Y.out.1⟩
  have HE := Lib.hid (show xe.len = 0 by omega)
  rw [HE.out] at Y ⊢
  clear he e0
  obtain ⟨bx, hbx⟩ : ∃ bx, bx = w.heap.size := ⟨_, rfl⟩
  obtain ⟨w0, hw0⟩ : ∃ w0, w0 = w.alloc (.cells #[.int .u8 (kd : Int), .string (bs tt), .slice a1 xl.len c1, .slice a2 0 c2, .slice a3 0 c3] 61) := ⟨_, rfl⟩
  have hbox : ∀ w1, Below w0.heap.size w0 w1 → w1.cell? ⟨bx, 0, none⟩ = some (.int .u8 (kd : Int)) ∧ w1.cell? ⟨bx, 1, none⟩ = some (.string (bs tt)) ∧ w1.cell? ⟨bx, 2, none⟩ = some (.slice a1 xl.len c1) := by
    intro w1 hb1
    rw [hw0] at hb1
    rw [hbx]
    have q0 := box_later hb1 0
    have q1 := box_later hb1 1
    have q2 := box_later hb1 2
    simp at q0 q1 q2
    exact ⟨q0, q1, q2⟩
  have HX := Lib.hid hbox
  have Y0 := Lib.hid (show Below w.heap.size w w0 from hw0 ▸ Y.out.1)
  have HN1 := Lib.hid (Y.out.2.2.below (Y0.out.mono Y.out.2.1))
  have HB0 := Lib.hid (Nat.le_trans Y.out.2.1 Y0.out.size)
  clear hbox Y
  go_enter Tryz.func151, Tryz.ntmps151
  go_wp2_with fail
  rw [← hbx, ← hw0]
  clear hbx hw0
  go_loopg [3] xl.items.length (fun gk v3 wr => RExprAt w0 xl gk v3 wr)
  case atStart => exact ⟨0, Nat.zero_le _, rfl, rfl, by rw [List.drop_zero, My.exprs_items], Below.refl _ _⟩
  case round =>
    obtain ⟨i, hi, rfl, rfl, hd, hbw⟩ := hrel
    have i0 : (0 : Int) ≤ (i : Int) := by omega
    obtain ⟨q0, q1, q2⟩ := HX.out wr hbw
    have hlen : xl.items.length = xl.len := rfl
    by_cases hlt : i < xl.items.length
    · have i1 : (i : Int) < (xl.len : Int) := by rw [← hlen]; omega
      obtain ⟨a, c, ev, _, hc⟩ := (HN1.out.below (hbw.mono HB0.out)).open_
      cases ev
      obtain ⟨b, off, v1, v2, v3, rfl, hS, hN⟩ := hc i hlt
      obtain ⟨y, hy⟩ : ∃ y, y = xl.items[i] := ⟨_, rfl⟩
      rw [← hy] at hN
      have hI := HC.out _ (List.getElem_mem hlt)
      rw [← hy] at hI
      have hdr := items_cons_drop xl i hlt
      rw [← hy] at hdr
      obtain ⟨kd2, tt2, yl, yb, ye⟩ := y
      have d0 := hN.d0
      have d1 := hN.d1
      have d2 := hN.d2
      have d3 := hN.d3
      have d4 := hN.d4
      obtain ⟨b1, g1, rfl, s1, m1⟩ := hN.l
      obtain ⟨b2, g2, rfl, s2, m2⟩ := hN.body
      obtain ⟨b3, g3, rfl, s3, m3⟩ := hN.els
      simp only at d0 d1 d2 d3 d4
      have Y := Lib.hid (And.intro hbw (And.intro hd (And.intro hdr (hI wr b1 b2 b3 g1 g2 g3 (Nat.le_trans HB0.out hbw.size) ⟨b1, g1, rfl, s1, m1⟩ ⟨b2, g2, rfl, s2, m2⟩ ⟨b3, g3, rfl, s3, m3⟩ hN.kind hN.text))))
      clear hN hc s1 s2 s3 m1 m2 m3 hbw hd hy hdr hI hS
      go_wp2_with fail
      refine Y.out.2.2.2.mono ?_
      rintro e w1 ⟨rfl, hk⟩
      have K := Lib.hid (Y.out.1.trans (hk.mono Y.out.1.size))
      clear hk
      cases hp : exprOne ⟨kd2, tt2, yl, yb, ye⟩ with
      | false =>
        have hf : exprs xl = false := by rw [← Y.out.2.1, Y.out.2.2.1, List.all_cons, hp]; rfl
        have HF := Lib.hid (expr_no (kd := kd) (tt := tt) (xl := xl) (xb := xb) (xe := xe) (.inr (.inr (.inl hf))))
        clear hp hf
        go_wp2_with fail
        go_ret
        exact ⟨by rw [HF.out]; rfl, Y0.out.trans (K.out.mono Y0.out.size)⟩
      | true =>
        have HP := Lib.hid hp
        clear hp
        go_wp2_with fail
        go_roundg (xl.items.length - (i + 1))
        case measure => omega
        case rel =>
          refine ⟨i + 1, hlt, rfl, by go_num, ?_, K.out⟩
          have hd := Y.out.2.1
          rw [Y.out.2.2.1, List.all_cons, HP.out, Bool.true_and] at hd
          exact hd
    · have hie : i = xl.items.length := by omega
      have hx : exprs xl = true := by rw [← hd, hie, List.drop_length]; rfl
      have i1 : (xl.len : Int) ≤ (i : Int) := by rw [← hlen]; omega
      have HI := Lib.hid (expr_is (kd := kd) (tt := tt) HB.out HE.out hx)
      have K1 := Lib.hid (Y0.out.trans (hbw.mono Y0.out.size))
      have KB := Lib.hid (HN1.out.below (hbw.mono HB0.out))
      clear hlt hi hie hd hbw hx hlen
      by_cases e1 : kd = 1
      · subst e1
        by_cases hz : xl.len = 0
        · have HH := Lib.hid (show head 1 tt xl = Nd.plain tt by unfold head; rw [if_pos rfl, hz]; rfl)
          have hzi : (xl.len : Int) = 0 := by omega
          clear hz
          go_wp2_with fail
          refine rplain_t tt HT.out ?_
          go_wp2_with fail
          go_ret
          exact ⟨by rw [HI.out, HH.out]; rfl, K1.out⟩
        · have HH := Lib.hid (show head 1 tt xl = false by unfold head; rw [if_pos rfl]; simp [hz])
          have hzi : ((xl.len : Int) == 0) = false := by simp; omega
          clear hz
          go_wp2_with fail
          go_ret
          exact ⟨by rw [HI.out, HH.out]; rfl, K1.out⟩
      by_cases e2 : kd = 2
      · subst e2
        by_cases hz : xl.len = 0
        · have HH := Lib.hid (show head 2 tt xl = To.name tt by unfold head; rw [if_neg (by decide), if_pos rfl, hz]; rfl)
          have hzi : (xl.len : Int) = 0 := by omega
          clear hz
          go_wp2_with fail
          refine refname_t tt HT.out ?_
          go_wp2_with fail
          go_ret
          exact ⟨by rw [HI.out, HH.out]; rfl, K1.out⟩
        · have HH := Lib.hid (show head 2 tt xl = false by unfold head; rw [if_neg (by decide), if_pos rfl]; simp [hz])
          have hzi : ((xl.len : Int) == 0) = false := by simp; omega
          clear hz
          go_wp2_with fail
          go_ret
          exact ⟨by rw [HI.out, HH.out]; rfl, K1.out⟩
      by_cases e3 : kd = 3
      · subst e3
        have HH := Lib.hid (show head 3 tt xl = tt.isEmpty by unfold head; rw [if_neg (by decide), if_neg (by decide), if_pos rfl])
        go_wp2_with fail
        go_ret
        exact ⟨by rw [HI.out, HH.out]; rfl, K1.out⟩
      by_cases e4 : kd = 4
      · subst e4
        have HH := Lib.hid (show head 4 tt xl = To.name tt by unfold head; rw [if_neg (by decide), if_neg (by decide), if_neg (by decide), if_pos rfl])
        go_wp2_with fail
        refine refname_t tt HT.out ?_
        go_wp2_with fail
        go_ret
        exact ⟨by rw [HI.out, HH.out]; rfl, K1.out⟩
      by_cases e67 : kd = 6 ∨ kd = 7
      · cases hte : tt.isEmpty with
        | true =>
          have hz : ((xl.len : Int) == 1) = (xl.len == 1) := by rw [Bool.eq_iff_iff]; simp; omega
          have HH := Lib.hid (show head kd tt xl = (xl.len == 1) by unfold head; rw [if_neg (by omega), if_neg (by omega), if_neg (by omega), if_neg (by omega), if_pos e67, hte, Bool.and_true])
          have HZ := Lib.hid hz
          clear hz e1 e2 e3 e4
          rcases e67 with rfl | rfl
          all_goals
            go_wp2_with fail
            go_ret
            exact ⟨by rw [HI.out, HH.out, ← HZ.out]; rfl, K1.out⟩
        | false =>
          have HH := Lib.hid (show head kd tt xl = false by unfold head; rw [if_neg (by omega), if_neg (by omega), if_neg (by omega), if_neg (by omega), if_pos e67, hte, Bool.and_false])
          clear e1 e2 e3 e4
          rcases e67 with rfl | rfl
          all_goals
            go_wp2_with fail
            go_ret
            exact ⟨by rw [HI.out, HH.out]; rfl, K1.out⟩
      by_cases e5 : kd = 5
      · subst e5
        clear e1 e2 e3 e4 e67
        by_cases ht : tt = [94]
        · subst ht
          by_cases hz : xl.len = 2
          · have hz2 : xl.items.length = 2 := hz
            obtain ⟨a, c, ev, _, hc⟩ := KB.out.open_
            obtain ⟨b, off, v1, v2, v3, ea, _, hN⟩ := hc 1 (by omega)
            cases ev
            subst ea
            have d0 := hN.d0
            obtain ⟨k2, hk2⟩ : ∃ k2, k2 = (xl.items[1]).kind := ⟨_, rfl⟩
            rw [← hk2, Nat.one_mul] at d0
            have HH := Lib.hid (show head 5 [94] xl = (k2 == 1) by unfold head; rw [if_neg (by decide), if_neg (by decide), if_neg (by decide), if_neg (by decide), if_neg (by decide), if_pos rfl, if_pos rfl, raised_two xl hz2, hk2])
            have hzi : (xl.len : Int) = 2 := by omega
            have k2n : (0 : Int) ≤ (k2 : Int) := by omega
            have he : ((k2 : Int) == 1) = (k2 == 1) := by rw [Bool.eq_iff_iff]; simp; omega
            clear hz hz2 hc hN hk2
            go_wp2_with fail
            go_ret
            exact ⟨by rw [HI.out, HH.out]; simp, K1.out⟩
          · have HH := Lib.hid (show head 5 [94] xl = false by unfold head; rw [if_neg (by decide), if_neg (by decide), if_neg (by decide), if_neg (by decide), if_neg (by decide), if_pos rfl, if_pos rfl, raised_not xl hz])
            have hzi : ((xl.len : Int) == 2) = false := by simp; omega
            clear hz
            go_wp2_with fail
            go_ret
            exact ⟨by rw [HI.out, HH.out]; rfl, K1.out⟩
        · have hz : ((xl.len : Int) == 2) = (xl.len == 2) := by rw [Bool.eq_iff_iff]; simp; omega
          have HZ := Lib.hid hz
          have HH := Lib.hid (show head 5 tt xl = ((xl.len == 2) && Nd.signs.contains tt) by unfold head; rw [if_neg (by decide), if_neg (by decide), if_neg (by decide), if_neg (by decide), if_neg (by decide), if_pos rfl, if_neg ht])
          clear hz
          by_cases hm : tt ∈ Nd.signs
          · have HM := Lib.hid (show Nd.signs.contains tt = true by simpa using hm)
            simp only [Nd.signs, List.mem_cons, List.not_mem_nil, or_false] at hm
            clear ht
            rcases hm with rfl | rfl | rfl | rfl | rfl | rfl | rfl | rfl
            all_goals
              go_wp2_with fail
              go_ret
              exact ⟨by rw [HI.out, HH.out, HM.out, ← HZ.out, Bool.and_true]; rfl, K1.out⟩
          · have HM := Lib.hid (show Nd.signs.contains tt = false by simpa using hm)
            simp only [Nd.signs, List.mem_cons, List.not_mem_nil, or_false, not_or] at hm
            obtain ⟨m1, m2, m3, m4, m5, m6, m7, m8⟩ := hm
            have f0 : (tt == [94]) = false := by simpa using ht
            have f1 : (tt == [43]) = false := by simpa using m1
            have f2 : (tt == [45]) = false := by simpa using m2
            have f3 : (tt == [42]) = false := by simpa using m3
            have f4 : (tt == [47]) = false := by simpa using m4
            have f5 : (tt == [61, 61]) = false := by simpa using m5
            have f6 : (tt == [33, 61]) = false := by simpa using m6
            have f7 : (tt == [60]) = false := by simpa using m7
            have f8 : (tt == [60, 61]) = false := by simpa using m8
            clear m1 m2 m3 m4 m5 m6 m7 m8 ht
            go_wp2_with fail
            go_ret
            exact ⟨by rw [HI.out, HH.out, HM.out, Bool.and_false]; rfl, K1.out⟩
      · have HH := Lib.hid (head_other kd tt xl e1 e2 e3 e4 e5 (fun h => e67 (.inl h)) (fun h => e67 (.inr h)))
        have f1 : ((kd : Int) == 1) = false := by simp; omega
        have f2 : ((kd : Int) == 2) = false := by simp; omega
        have f3 : ((kd : Int) == 3) = false := by simp; omega
        have f4 : ((kd : Int) == 4) = false := by simp; omega
        have f5 : ((kd : Int) == 5) = false := by simp; omega
        have f6 : ((kd : Int) == 6) = false := by simp; omega
        have f7 : ((kd : Int) == 7) = false := by simp; omega
        clear e1 e2 e3 e4 e5 e67
        go_wp2_with fail
        go_ret
        exact ⟨by rw [HI.out, HH.out]; rfl, K1.out⟩

theorem rexpr_said (tw : Bool) (B : Nat) : ∀ xs : Ns, ∀ x ∈ xs.items, Asked tw B 151 exprOne x :=
  Ns.each fun _ ih x hx => rexpr_one (ih x hx).1
end Go.Proofs.YtmkhfonafcikdaaGreatDoor

/- Trees: may nodes be statements. -/
namespace Go.My
open Go.Nd
def stmtOne (inner : Bool) (x : Nd) : Bool := x.l.len == 1 && exprs x.l && stmts inner x.body && stmts inner x.els && form inner x.kind x.text x.body x.els
theorem stmts_items (inner : Bool) (xs : Ns) : stmts inner xs = xs.items.all (stmtOne inner) := by
  induction xs with
  | nil => rfl
  | cons k t l b e r _ _ _ ihr => rw [Ns.items_cons, List.all_cons, ← ihr]; rfl
theorem exprs_single (xl : Ns) (h : xl.items.length = 1) : exprs xl = exprOne (xl.items[0]) := by
  rw [exprs_items]
  have key : ∀ (L : List Nd) (h : L.length = 1), L.all exprOne = exprOne (L[0]) := by
    intro L h
    match L, h with
    | [a], _ => simp
  exact key xl.items h
end Go.My
namespace Go.Proofs.YtmkhfonafcikdaaGreatDoor
open Go.RowKit Go.My Go.Nd

def StmtSaid (fn : FuncId) (tw inner : Bool) (x : Ns) : Prop := ∀ (w : World) (B : Nat) (v : Value), B ≤ w.heap.size → Nodes w (· < B) tw v x → Calls Tryz.prog fn #[v, .bool inner] w fun e w' => e = .returned (.bool (stmts inner x)) ∧ Below w.heap.size w w'

def StmtAt (w : World) (inner : Bool) (xs : Ns) (gk : Nat) (v : Value) (wr : World) : Prop :=
  ∃ i : Nat, i ≤ xs.items.length ∧ gk = xs.items.length - i ∧ v = .int .i64 (i : Int) ∧ (xs.items.drop i).all (stmtOne inner) = stmts inner xs ∧ Below w.heap.size w wr

theorem stmt_no {inner : Bool} {kd : Nat} {tt : List UInt8} {xl xb xe : Ns} {r : List Nd} {p : Bool} (h : (⟨kd, tt, xl, xb, xe⟩ :: r : List Nd).all (stmtOne inner) = p) (hn : (xl.len == 1 && exprs xl && stmts inner xb && stmts inner xe && form inner kd tt xb xe) = false) : p = false := by
  rw [← h, List.all_cons]; unfold stmtOne; simp only; rw [hn]; rfl

/-- The form, once it is known whether there is a body. -/
theorem form_bare {inner : Bool} {kd : Nat} {tt : List UInt8} {xb xe : Ns} {p bare : Bool} (hp : p = form inner kd tt xb xe) (hb : bare = (xb.len == 0 && xe.len == 0)) :
    (kd = 9 → p = tt.isEmpty) ∧ (kd = 10 → p = (tt.isEmpty && xe.len == 0)) ∧ (kd = 8 → p = (bare && To.name tt)) ∧ (kd = 11 → p = (tt.isEmpty && bare && inner)) ∧ (kd = 12 ∨ kd = 13 → p = (tt.isEmpty && bare)) ∧ (kd ≠ 9 ∧ kd ≠ 10 ∧ kd ≠ 8 ∧ kd ≠ 11 ∧ kd ≠ 12 ∧ kd ≠ 13 → p = false) := by
  subst hp hb
  unfold form
  refine ⟨fun h => ?_, fun h => ?_, fun h => ?_, fun h => ?_, fun h => ?_, fun h => ?_⟩
  · rw [if_pos h]
  · rw [if_neg (by omega), if_pos h]
  · rw [if_neg (by omega), if_neg (by omega), if_pos h]
  · rw [if_neg (by omega), if_neg (by omega), if_neg (by omega), if_pos h]; simp only [Bool.and_assoc]
  · rw [if_neg (by omega), if_neg (by omega), if_neg (by omega), if_neg (by omega), if_pos h]; simp only [Bool.and_assoc]
  · rw [if_neg h.1, if_neg h.2.1, if_neg h.2.2.1, if_neg h.2.2.2.1, if_neg (by omega)]



set_option maxRecDepth 100000 in
set_option maxHeartbeats 16000000 in
theorem stmt_said (tw inner : Bool) : ∀ xs, StmtSaid 92 tw inner xs := by
  refine Ns.each fun xs ih w B v hB hv => ?_
  obtain ⟨a, c, rfl, hr, hc⟩ := hv.open_
  have HI := Lib.hid ih
  have HC := Lib.hid hc
  have HBB := Lib.hid hB
  have l0 : (0 : Int) ≤ (xs.items.length : Int) := by omega
  have l1 : (xs.items.length : Int) ≤ 140737488351232 := by have := hr.2.2.1; omega
  clear ih hv hc hr hB
  go_enter Tryz.func92, Tryz.ntmps92
  go_wp2_with fail
  go_loopg [11] xs.items.length (fun gk v11 wr => StmtAt w inner xs gk v11 wr)
  case atStart => exact ⟨0, Nat.zero_le _, rfl, rfl, by rw [List.drop_zero, My.stmts_items], Below.refl _ _⟩
  case round =>
    obtain ⟨i, hi, rfl, rfl, hd, hb⟩ := hrel
    have i0 : (0 : Int) ≤ (i : Int) := by omega
    by_cases hlt : i < xs.items.length
    · have i1 : (i : Int) < (xs.items.length : Int) := by omega
      obtain ⟨b, off, v1, v2, v3, rfl, hS, hN⟩ := HC.out i hlt
      have hN' := hN.frame hS fun k hk _ => hb.block k (Nat.lt_of_lt_of_le hk HBB.out)
      obtain ⟨x, hx⟩ : ∃ x, x = xs.items[i] := ⟨_, rfl⟩
      rw [← hx] at hN'
      have hI := HI.out _ (List.getElem_mem hlt)
      rw [← hx] at hI
      have hdr := items_cons_drop xs i hlt
      rw [← hx] at hdr
      obtain ⟨kd, tt, xl, xb, xe⟩ := x
      have d0 := hN'.d0
      have d1 := hN'.d1
      have d2 := hN'.d2
      have d3 := hN'.d3
      have d4 := hN'.d4
      have ht := hN'.text
      have hk8 := hN'.kind
      obtain ⟨a1, c1, rfl, s1, m1⟩ := hN'.l
      obtain ⟨a2, c2, rfl, s2, m2⟩ := hN'.body
      obtain ⟨a3, c3, rfl, s3, m3⟩ := hN'.els
      simp only at d0 d1 d2 d3 d4 ht hk8
      have etx : tx tt = bs tt := rfl
      rw [etx] at d1
      have hs := bs_tl tt
      have hBr : B ≤ wr.heap.size := Nat.le_trans HBB.out hb.size
      have n1 : Nodes wr (· < B) tw (.slice a1 xl.len c1) xl := ⟨a1, c1, rfl, s1, m1⟩
      have n2 : Nodes wr (· < B) tw (.slice a2 xb.len c2) xb := ⟨a2, c2, rfl, s2, m2⟩
      have n3 : Nodes wr (· < B) tw (.slice a3 xe.len c3) xe := ⟨a3, c3, rfl, s3, m3⟩
      have hA := Below.alloc (Below.refl wr.heap.size wr) (Nat.le_refl _) (.cells #[.int .u8 (kd : Int), .string (bs tt), .slice a1 xl.len c1, .slice a2 xb.len c2, .slice a3 xe.len c3] 61)
      obtain ⟨bx, hbx⟩ : ∃ bx, bx = wr.heap.size := ⟨_, rfl⟩
      obtain ⟨w4, hw4⟩ : ∃ w4, w4 = wr.alloc (.cells #[.int .u8 (kd : Int), .string (bs tt), .slice a1 xl.len c1, .slice a2 xb.len c2, .slice a3 xe.len c3] 61) := ⟨_, rfl⟩
      have hbox : ∀ w1, Below w4.heap.size w4 w1 → w1.cell? ⟨bx, 0, none⟩ = some (.int .u8 (kd : Int)) ∧ w1.cell? ⟨bx, 1, none⟩ = some (.string (bs tt)) ∧ w1.cell? ⟨bx, 2, none⟩ = some (.slice a1 xl.len c1) ∧ w1.cell? ⟨bx, 3, none⟩ = some (.slice a2 xb.len c2) ∧ w1.cell? ⟨bx, 4, none⟩ = some (.slice a3 xe.len c3) := by
        intro w1 hb1
        rw [hw4] at hb1
        rw [hbx]
        have q0 := box_later hb1 0
        have q1 := box_later hb1 1
        have q2 := box_later hb1 2
        have q3 := box_later hb1 3
        have q4 := box_later hb1 4
        simp at q0 q1 q2 q3 q4
        exact ⟨q0, q1, q2, q3, q4⟩
      have hAB := hA.mono hBr
      rw [← hw4] at hA hAB
      have HX := Lib.hid hbox
      have K4 := Lib.hid (hb.trans (hA.mono hb.size))
      have N1 := Lib.hid (n1.below hAB)
      have N2 := Lib.hid (n2.below hAB)
      have N3 := Lib.hid (n3.below hAB)
      have HI2 := Lib.hid hI
      have HD := Lib.hid (hdr ▸ hd)
      have HBr := Lib.hid (Nat.le_trans hBr hA.size)
      have HT := Lib.hid (show tt.length ≤ 9223372036854775807 by omega)
      have k0 : (0 : Int) ≤ (kd : Int) := by omega
      have k1 : (kd : Int) < 256 := by omega
      have l0 : (0 : Int) ≤ (xl.len : Int) := by omega
      have b0 : (0 : Int) ≤ (xb.len : Int) := by omega
      have e0 : (0 : Int) ≤ (xe.len : Int) := by omega
      clear hN hN' s1 s2 s3 m1 m2 m3 n1 n2 n3 hA hAB hbox hb hd hx hdr hI hS ht hk8 etx hBr
      go_upto_region 4 with fail
      rw [← hbx, ← hw4]
      clear hbx hw4 d0 d1 d2 d3 d4
      obtain ⟨q0, q1, q2, q3, q4⟩ := HX.out w4 (Below.refl _ _)
      by_cases hl1 : xl.len = 1
      · have hl1i : (xl.len : Int) = 1 := by omega
        have hl2 : xl.items.length = 1 := hl1
        obtain ⟨a, c, ev, _, hc⟩ := N1.out.open_
        cases ev
        obtain ⟨b2, off2, v1, v2, v3, rfl, hS, hN⟩ := hc 0 (by omega)
        obtain ⟨y, hy⟩ : ∃ y, y = xl.items[0] := ⟨_, rfl⟩
        have hE1 := exprs_single xl hl2
        rw [← hy] at hN hE1
        have hA := expr_said tw B xl _ (List.getElem_mem (show 0 < xl.items.length by omega))
        rw [← hy] at hA
        obtain ⟨kd2, tt2, yl, yb, ye⟩ := y
        have d0 := hN.d0
        have d1 := hN.d1
        have d2 := hN.d2
        have d3 := hN.d3
        have d4 := hN.d4
        obtain ⟨b1, g1, rfl, s1, m1⟩ := hN.l
        obtain ⟨b3, g2, rfl, s2, m2⟩ := hN.body
        obtain ⟨b4, g3, rfl, s3, m3⟩ := hN.els
        simp only [Nat.zero_mul, Nat.add_zero] at d0 d1 d2 d3 d4
        have HA := Lib.hid (hA w4 b1 b3 b4 g1 g2 g3 HBr.out ⟨b1, g1, rfl, s1, m1⟩ ⟨b3, g2, rfl, s2, m2⟩ ⟨b4, g3, rfl, s3, m3⟩ hN.kind hN.text)
        have HE1 := Lib.hid hE1
        have HL1 := Lib.hid (show (xl.len == 1) = true by rw [hl1]; rfl)
        clear hN s1 s2 s3 m1 m2 m3 hy hA hE1 hc hS hl1 hl2
        go_wp2_with fail
        refine HA.out.mono ?_
        rintro e w5 ⟨rfl, hb5⟩
        rw [← HE1.out]
        obtain ⟨q0, q1, q2, q3, q4⟩ := HX.out w5 hb5
        have K5 := Lib.hid hb5
        clear hb5 d0 d1 d2 d3 d4
        cases he : exprs xl with
        | false =>
          have HN := Lib.hid (stmt_no HD.out (by rw [he, Bool.and_false]; rfl))
          clear he
          go_wp2_with fail
          go_ret
          exact ⟨by rw [HN.out]; rfl, K4.out.trans (K5.out.mono K4.out.size)⟩
        | true =>
          have HE := Lib.hid he
          clear he
          go_wp2_with fail
          refine (HI2.out.2.1 w5 B _ (Nat.le_trans HBr.out K5.out.size) (N2.out.below (K5.out.mono HBr.out))).mono ?_
          rintro e w6 ⟨rfl, hb6⟩
          have K6 := Lib.hid (K5.out.trans (hb6.mono K5.out.size))
          obtain ⟨q0, q1, q2, q3, q4⟩ := HX.out w6 K6.out
          clear hb6
          cases hsb : stmts inner xb with
          | false =>
            have HN := Lib.hid (stmt_no HD.out (by rw [hsb, Bool.and_false]; rfl))
            clear hsb
            go_wp2_with fail
            go_ret
            exact ⟨by rw [HN.out]; rfl, K4.out.trans (K6.out.mono K4.out.size)⟩
          | true =>
            have HSB := Lib.hid hsb
            clear hsb
            go_wp2_with fail
            refine (HI2.out.2.2 w6 B _ (Nat.le_trans HBr.out K6.out.size) (N3.out.below (K6.out.mono HBr.out))).mono ?_
            rintro e w7 ⟨rfl, hb7⟩
            have K7 := Lib.hid (K6.out.trans (hb7.mono K6.out.size))
            obtain ⟨q0, q1, q2, q3, q4⟩ := HX.out w7 K7.out
            clear hb7
            cases hse : stmts inner xe with
            | false =>
              have HN := Lib.hid (stmt_no HD.out (by rw [hse, Bool.and_false]; rfl))
              clear hse
              go_wp2_with fail
              go_ret
              exact ⟨by rw [HN.out]; rfl, K4.out.trans (K7.out.mono K4.out.size)⟩
            | true =>
              have HSE := Lib.hid hse
              clear hse
              obtain ⟨bare, hbare⟩ : ∃ bare, bare = (xb.len == 0 && xe.len == 0) := ⟨_, rfl⟩
              have HBARE := Lib.hid hbare
              obtain ⟨p, hp⟩ : ∃ p, p = form inner kd tt xb xe := ⟨_, rfl⟩
              have HP := Lib.hid (form_bare hp hbare)
              have HALL := Lib.hid (show (xl.len == 1 && exprs xl && stmts inner xb && stmts inner xe && form inner kd tt xb xe) = p by rw [HL1.out, HE.out, HSB.out, HSE.out, hp]; rfl)
              clear hbare hp
              go_upto_region 6 with fail
              go_cut [7, 11] from 11 to 93 (fun v7 v11 wx => v7 = .bool bare ∧ v11 = .int .i64 (i : Int) ∧ wx = w7)
              case first =>
                by_cases zb : xb.len = 0
                · have zbi : (xb.len : Int) = 0 := by omega
                  by_cases ze : xe.len = 0
                  · have zei : (xe.len : Int) = 0 := by omega
                    have HB := Lib.hid (show bare = true by rw [HBARE.out, zb, ze]; rfl)
                    clear zb ze
                    go_wp2_with fail
                    go_meet
                    case rel => exact ⟨by rw [HB.out], rfl, rfl⟩
                  · have zei : ((xe.len : Int) == 0) = false := by simp; omega
                    have HB := Lib.hid (show bare = false by rw [HBARE.out]; simp [ze])
                    clear zb ze
                    go_wp2_with fail
                    go_meet
                    case rel => exact ⟨by rw [HB.out], rfl, rfl⟩
                · have zbi : ((xb.len : Int) == 0) = false := by simp; omega
                  have HB := Lib.hid (show bare = false by rw [HBARE.out]; simp [zb])
                  clear zb
                  go_wp2_with fail
                  go_meet
                  case rel => exact ⟨by rw [HB.out], rfl, rfl⟩
              case rest =>
                obtain ⟨rfl, rfl, rfl⟩ := hcut
                go_upto_block 2 with fail
                go_cut [8, 11] from 11 to 93 (fun v8 v11 wx => v8 = .bool p ∧ v11 = .int .i64 (i : Int) ∧ Below w4.heap.size w4 wx)
                case first =>
                  by_cases e9 : kd = 9
                  · subst e9
                    go_wp2_with fail
                    go_meet
                    case rel => exact ⟨by rw [HP.out.1 (by first | trivial | simp)], rfl, K7.out⟩
                  by_cases e10 : kd = 10
                  · subst e10
                    clear e9
                    cases hte : tt.isEmpty with
                    | false =>
                      have HTE := Lib.hid hte
                      go_wp2_with fail
                      go_meet
                      case rel => exact ⟨by rw [HP.out.2.1 (by first | trivial | simp), HTE.out]; rfl, rfl, K7.out⟩
                    | true =>
                      have HTE := Lib.hid hte
                      by_cases ze : xe.len = 0
                      · have zei : (xe.len : Int) = 0 := by omega
                        have HZ := Lib.hid ze
                        clear ze
                        go_wp2_with fail
                        go_meet
                        case rel => exact ⟨by rw [HP.out.2.1 (by first | trivial | simp), HTE.out, HZ.out]; rfl, rfl, K7.out⟩
                      · have zei : ((xe.len : Int) == 0) = false := by simp; omega
                        have HZ := Lib.hid (show (xe.len == 0) = false by simpa using ze)
                        clear ze
                        go_wp2_with fail
                        go_meet
                        case rel => exact ⟨by rw [HP.out.2.1 (by first | trivial | simp), HTE.out, HZ.out]; rfl, rfl, K7.out⟩
                  by_cases e8 : kd = 8
                  · subst e8
                    clear e9 e10
                    cases bare with
                    | true =>
                      go_wp2_with fail
                      refine name_t tt HT.out fun w8 hb8 => ?_
                      have K8 := Lib.hid (K7.out.trans (hb8.mono K7.out.size))
                      clear hb8
                      go_wp2_with fail
                      go_meet
                      case rel => exact ⟨by rw [HP.out.2.2.1 (by first | trivial | simp)]; rfl, rfl, K8.out⟩
                    | false =>
                      go_wp2_with fail
                      go_meet
                      case rel => exact ⟨by rw [HP.out.2.2.1 (by first | trivial | simp)]; rfl, rfl, K7.out⟩
                  by_cases e11 : kd = 11
                  · subst e11
                    clear e9 e10 e8
                    cases hte : tt.isEmpty with
                    | false =>
                      have HTE := Lib.hid hte
                      go_wp2_with fail
                      go_meet
                      case rel => exact ⟨by rw [HP.out.2.2.2.1 (by first | trivial | simp), HTE.out]; rfl, rfl, K7.out⟩
                    | true =>
                      have HTE := Lib.hid hte
                      cases bare with
                      | true =>
                        go_wp2_with fail
                        go_meet
                        case rel => exact ⟨by rw [HP.out.2.2.2.1 (by first | trivial | simp), HTE.out]; rfl, rfl, K7.out⟩
                      | false =>
                        go_wp2_with fail
                        go_meet
                        case rel => exact ⟨by rw [HP.out.2.2.2.1 (by first | trivial | simp), HTE.out]; rfl, rfl, K7.out⟩
                  by_cases e12 : kd = 12 ∨ kd = 13
                  · clear e9 e10 e8 e11
                    have HK := Lib.hid e12
                    cases hte : tt.isEmpty with
                    | false =>
                      have HTE := Lib.hid hte
                      rcases e12 with rfl | rfl
                      all_goals
                        go_wp2_with fail
                        go_meet
                        case rel => exact ⟨by rw [HP.out.2.2.2.2.1 (by first | trivial | simp | exact HK.out), HTE.out]; rfl, rfl, K7.out⟩
                    | true =>
                      have HTE := Lib.hid hte
                      cases bare with
                      | true =>
                        rcases e12 with rfl | rfl
                        all_goals
                          go_wp2_with fail
                          go_meet
                          case rel => exact ⟨by rw [HP.out.2.2.2.2.1 (by first | trivial | simp | exact HK.out), HTE.out]; rfl, rfl, K7.out⟩
                      | false =>
                        rcases e12 with rfl | rfl
                        all_goals
                          go_wp2_with fail
                          go_meet
                          case rel => exact ⟨by rw [HP.out.2.2.2.2.1 (by first | trivial | simp | exact HK.out), HTE.out]; rfl, rfl, K7.out⟩
                  · have HO := Lib.hid (HP.out.2.2.2.2.2 ⟨e9, e10, e8, e11, fun h => e12 (.inl h), fun h => e12 (.inr h)⟩)
                    have f9 : ((kd : Int) == 9) = false := by simp; omega
                    have f10 : ((kd : Int) == 10) = false := by simp; omega
                    have f8 : ((kd : Int) == 8) = false := by simp; omega
                    have f11 : ((kd : Int) == 11) = false := by simp; omega
                    have f12 : ((kd : Int) == 12) = false := by simp; omega
                    have f13 : ((kd : Int) == 13) = false := by simp; omega
                    clear e9 e10 e8 e11 e12
                    go_wp2_with fail
                    go_meet
                    case rel => exact ⟨by rw [HO.out], rfl, K7.out⟩
                case rest =>
                  obtain ⟨rfl, rfl, hbc⟩ := hcut
                  have K9 := Lib.hid (K4.out.trans (hbc.mono K4.out.size))
                  clear hbc q0 q1 q2 q3 q4 HP
                  cases p with
                  | false =>
                    have HN := Lib.hid (stmt_no HD.out HALL.out)
                    go_wp2_with fail
                    go_ret
                    exact ⟨by rw [HN.out]; rfl, K9.out⟩
                  | true =>
                    go_wp2_with fail
                    go_roundg (xs.items.length - (i + 1))
                    case measure => omega
                    case rel =>
                      refine ⟨i + 1, hlt, rfl, by go_num, ?_, K9.out⟩
                      have hd := HD.out
                      rw [List.all_cons, show stmtOne inner ⟨kd, tt, xl, xb, xe⟩ = true from HALL.out, Bool.true_and] at hd
                      exact hd
      · have hl1i : ((xl.len : Int) == 1) = false := by simp; omega
        have hl1j : ((xl.len : Int) != 1) = true := by simp; omega
        have HN := Lib.hid (stmt_no HD.out (by rw [show (xl.len == 1) = false by simpa using hl1]; rfl))
        clear hl1
        go_wp2_with fail
        go_ret
        exact ⟨by rw [HN.out]; rfl, K4.out⟩
    · have hie : i = xs.items.length := by omega
      have i1 : (xs.items.length : Int) ≤ (i : Int) := by omega
      have HD := Lib.hid (show stmts inner xs = true by rw [← hd, hie, List.drop_length]; rfl)
      have HB := Lib.hid hb
      clear hlt hie hd hb hi
      go_wp2_with fail
      go_ret
      exact ⟨by rw [HD.out]; rfl, HB.out⟩
end Go.Proofs.YtmkhfonafcikdaaGreatDoor

/- Trees: may nodes be statements, as the document has it. -/
namespace Go.Proofs.YtmkhfonafcikdaaGreatDoor
open Go.RowKit Go.My Go.Nd

set_option maxRecDepth 100000 in
set_option maxHeartbeats 16000000 in
theorem rstmt_said (tw inner : Bool) : ∀ xs, StmtSaid 104 tw inner xs := by
  refine Ns.each fun xs ih w B v hB hv => ?_
  obtain ⟨a, c, rfl, hr, hc⟩ := hv.open_
  have HI := Lib.hid ih
  have HC := Lib.hid hc
  have HBB := Lib.hid hB
  have l0 : (0 : Int) ≤ (xs.items.length : Int) := by omega
  have l1 : (xs.items.length : Int) ≤ 140737488351232 := by have := hr.2.2.1; omega
  clear ih hv hc hr hB
  go_enter Tryz.func104, Tryz.ntmps104
  go_wp2_with fail
  go_loopg [5] xs.items.length (fun gk v5 wr => StmtAt w inner xs gk v5 wr)
  case atStart => exact ⟨0, Nat.zero_le _, rfl, rfl, by rw [List.drop_zero, My.stmts_items], Below.refl _ _⟩
  case round =>
    obtain ⟨i, hi, rfl, rfl, hd, hb⟩ := hrel
    have i0 : (0 : Int) ≤ (i : Int) := by omega
    by_cases hlt : i < xs.items.length
    · have i1 : (i : Int) < (xs.items.length : Int) := by omega
      obtain ⟨b, off, v1, v2, v3, rfl, hS, hN⟩ := HC.out i hlt
      have hN' := hN.frame hS fun k hk _ => hb.block k (Nat.lt_of_lt_of_le hk HBB.out)
      obtain ⟨x, hx⟩ : ∃ x, x = xs.items[i] := ⟨_, rfl⟩
      rw [← hx] at hN'
      have hI := HI.out _ (List.getElem_mem hlt)
      rw [← hx] at hI
      have hdr := items_cons_drop xs i hlt
      rw [← hx] at hdr
      obtain ⟨kd, tt, xl, xb, xe⟩ := x
      have d0 := hN'.d0
      have d1 := hN'.d1
      have d2 := hN'.d2
      have d3 := hN'.d3
      have d4 := hN'.d4
      have ht := hN'.text
      have hk8 := hN'.kind
      obtain ⟨a1, c1, rfl, s1, m1⟩ := hN'.l
      obtain ⟨a2, c2, rfl, s2, m2⟩ := hN'.body
      obtain ⟨a3, c3, rfl, s3, m3⟩ := hN'.els
      simp only at d0 d1 d2 d3 d4 ht hk8
      have etx : tx tt = bs tt := rfl
      rw [etx] at d1
      have hs := bs_tl tt
      have hBr : B ≤ wr.heap.size := Nat.le_trans HBB.out hb.size
      have n1 : Nodes wr (· < B) tw (.slice a1 xl.len c1) xl := ⟨a1, c1, rfl, s1, m1⟩
      have n2 : Nodes wr (· < B) tw (.slice a2 xb.len c2) xb := ⟨a2, c2, rfl, s2, m2⟩
      have n3 : Nodes wr (· < B) tw (.slice a3 xe.len c3) xe := ⟨a3, c3, rfl, s3, m3⟩
      have hA := Below.alloc (Below.refl wr.heap.size wr) (Nat.le_refl _) (.cells #[.int .u8 (kd : Int), .string (bs tt), .slice a1 xl.len c1, .slice a2 xb.len c2, .slice a3 xe.len c3] 61)
      obtain ⟨bx, hbx⟩ : ∃ bx, bx = wr.heap.size := ⟨_, rfl⟩
      obtain ⟨w4, hw4⟩ : ∃ w4, w4 = wr.alloc (.cells #[.int .u8 (kd : Int), .string (bs tt), .slice a1 xl.len c1, .slice a2 xb.len c2, .slice a3 xe.len c3] 61) := ⟨_, rfl⟩
      have hbox : ∀ w1, Below w4.heap.size w4 w1 → w1.cell? ⟨bx, 0, none⟩ = some (.int .u8 (kd : Int)) ∧ w1.cell? ⟨bx, 1, none⟩ = some (.string (bs tt)) ∧ w1.cell? ⟨bx, 2, none⟩ = some (.slice a1 xl.len c1) ∧ w1.cell? ⟨bx, 3, none⟩ = some (.slice a2 xb.len c2) ∧ w1.cell? ⟨bx, 4, none⟩ = some (.slice a3 xe.len c3) := by
        intro w1 hb1
        rw [hw4] at hb1
        rw [hbx]
        have q0 := box_later hb1 0
        have q1 := box_later hb1 1
        have q2 := box_later hb1 2
        have q3 := box_later hb1 3
        have q4 := box_later hb1 4
        simp at q0 q1 q2 q3 q4
        exact ⟨q0, q1, q2, q3, q4⟩
      have hAB := hA.mono hBr
      rw [← hw4] at hA hAB
      have HX := Lib.hid hbox
      have K4 := Lib.hid (hb.trans (hA.mono hb.size))
      have N1 := Lib.hid (n1.below hAB)
      have N2 := Lib.hid (n2.below hAB)
      have N3 := Lib.hid (n3.below hAB)
      have HI2 := Lib.hid hI
      have HD := Lib.hid (hdr ▸ hd)
      have HBr := Lib.hid (Nat.le_trans hBr hA.size)
      have HT := Lib.hid (show tt.length ≤ 9223372036854775807 by omega)
      have k0 : (0 : Int) ≤ (kd : Int) := by omega
      have k1 : (kd : Int) < 256 := by omega
      have l0 : (0 : Int) ≤ (xl.len : Int) := by omega
      have b0 : (0 : Int) ≤ (xb.len : Int) := by omega
      have e0 : (0 : Int) ≤ (xe.len : Int) := by omega
      clear hN hN' s1 s2 s3 m1 m2 m3 n1 n2 n3 hA hAB hbox hb hd hx hdr hI hS ht hk8 etx hBr
      go_upto_region 5 with fail
      rw [← hbx, ← hw4]
      clear hbx hw4 d0 d1 d2 d3 d4
      obtain ⟨q0, q1, q2, q3, q4⟩ := HX.out w4 (Below.refl _ _)
      by_cases hl1 : xl.len = 1
      · have hl1i : (xl.len : Int) = 1 := by omega
        have hl2 : xl.items.length = 1 := hl1
        obtain ⟨a, c, ev, _, hc⟩ := N1.out.open_
        cases ev
        obtain ⟨b2, off2, v1, v2, v3, rfl, hS, hN⟩ := hc 0 (by omega)
        obtain ⟨y, hy⟩ : ∃ y, y = xl.items[0] := ⟨_, rfl⟩
        have hE1 := exprs_single xl hl2
        rw [← hy] at hN hE1
        have hA := rexpr_said tw B xl _ (List.getElem_mem (show 0 < xl.items.length by omega))
        rw [← hy] at hA
        obtain ⟨kd2, tt2, yl, yb, ye⟩ := y
        have d0 := hN.d0
        have d1 := hN.d1
        have d2 := hN.d2
        have d3 := hN.d3
        have d4 := hN.d4
        obtain ⟨b1, g1, rfl, s1, m1⟩ := hN.l
        obtain ⟨b3, g2, rfl, s2, m2⟩ := hN.body
        obtain ⟨b4, g3, rfl, s3, m3⟩ := hN.els
        simp only [Nat.zero_mul, Nat.add_zero] at d0 d1 d2 d3 d4
        have HA := Lib.hid (hA w4 b1 b3 b4 g1 g2 g3 HBr.out ⟨b1, g1, rfl, s1, m1⟩ ⟨b3, g2, rfl, s2, m2⟩ ⟨b4, g3, rfl, s3, m3⟩ hN.kind hN.text)
        have HE1 := Lib.hid hE1
        have HL1 := Lib.hid (show (xl.len == 1) = true by rw [hl1]; rfl)
        clear hN s1 s2 s3 m1 m2 m3 hy hA hE1 hc hS hl1 hl2
        go_wp2_with fail
        refine HA.out.mono ?_
        rintro e w5 ⟨rfl, hb5⟩
        rw [← HE1.out]
        obtain ⟨q0, q1, q2, q3, q4⟩ := HX.out w5 hb5
        have K5 := Lib.hid hb5
        clear hb5 d0 d1 d2 d3 d4
        cases he : exprs xl with
        | false =>
          have HN := Lib.hid (stmt_no HD.out (by rw [he, Bool.and_false]; rfl))
          clear he
          go_wp2_with fail
          go_ret
          exact ⟨by rw [HN.out]; rfl, K4.out.trans (K5.out.mono K4.out.size)⟩
        | true =>
          have HE := Lib.hid he
          clear he
          go_wp2_with fail
          refine (HI2.out.2.1 w5 B _ (Nat.le_trans HBr.out K5.out.size) (N2.out.below (K5.out.mono HBr.out))).mono ?_
          rintro e w6 ⟨rfl, hb6⟩
          have K6 := Lib.hid (K5.out.trans (hb6.mono K5.out.size))
          obtain ⟨q0, q1, q2, q3, q4⟩ := HX.out w6 K6.out
          clear hb6
          cases hsb : stmts inner xb with
          | false =>
            have HN := Lib.hid (stmt_no HD.out (by rw [hsb, Bool.and_false]; rfl))
            clear hsb
            go_wp2_with fail
            go_ret
            exact ⟨by rw [HN.out]; rfl, K4.out.trans (K6.out.mono K4.out.size)⟩
          | true =>
            have HSB := Lib.hid hsb
            clear hsb
            go_wp2_with fail
            refine (HI2.out.2.2 w6 B _ (Nat.le_trans HBr.out K6.out.size) (N3.out.below (K6.out.mono HBr.out))).mono ?_
            rintro e w7 ⟨rfl, hb7⟩
            have K7 := Lib.hid (K6.out.trans (hb7.mono K6.out.size))
            obtain ⟨q0, q1, q2, q3, q4⟩ := HX.out w7 K7.out
            clear hb7
            cases hse : stmts inner xe with
            | false =>
              have HN := Lib.hid (stmt_no HD.out (by rw [hse, Bool.and_false]; rfl))
              clear hse
              go_wp2_with fail
              go_ret
              exact ⟨by rw [HN.out]; rfl, K4.out.trans (K7.out.mono K4.out.size)⟩
            | true =>
              have HSE := Lib.hid hse
              clear hse
              obtain ⟨bare, hbare⟩ : ∃ bare, bare = (xb.len == 0 && xe.len == 0) := ⟨_, rfl⟩
              have HBARE := Lib.hid hbare
              obtain ⟨p, hp⟩ : ∃ p, p = form inner kd tt xb xe := ⟨_, rfl⟩
              have HP := Lib.hid (form_bare hp hbare)
              have HALL := Lib.hid (show (xl.len == 1 && exprs xl && stmts inner xb && stmts inner xe && form inner kd tt xb xe) = p by rw [HL1.out, HE.out, HSB.out, HSE.out, hp]; rfl)
              clear hbare hp
              go_upto_block 2 with fail
              go_cut [7] from 8 to 112 (fun v7 wx => v7 = .bool p ∧ Below w4.heap.size w4 wx)
              case first =>
                by_cases zb : xb.len = 0
                · have zbi : (xb.len : Int) = 0 := by omega
                  by_cases ze : xe.len = 0
                  · have zei : (xe.len : Int) = 0 := by omega
                    have HB := Lib.hid (show bare = true by rw [HBARE.out]; simp [zb, ze])
                    have HE0 := Lib.hid (show (xe.len == 0) = true by simp [ze])
                    clear zb ze
                    by_cases e9 : kd = 9
                    · subst e9
                      go_wp2_with fail
                      go_meet
                      case rel => exact ⟨by rw [HP.out.1 (by first | trivial | simp)], K7.out⟩
                    by_cases e10 : kd = 10
                    · subst e10
                      clear e9
                      cases hte : tt.isEmpty with
                      | false =>
                        have HTE := Lib.hid hte
                        go_wp2_with fail
                        go_meet
                        case rel => exact ⟨by rw [HP.out.2.1 (by first | trivial | simp), HTE.out, HE0.out]; rfl, K7.out⟩
                      | true =>
                        have HTE := Lib.hid hte
                        go_wp2_with fail
                        go_meet
                        case rel => exact ⟨by rw [HP.out.2.1 (by first | trivial | simp), HTE.out, HE0.out]; rfl, K7.out⟩
                    by_cases e8 : kd = 8
                    · subst e8
                      clear e9 e10
                      go_wp2_with fail
                      refine refname_t tt HT.out ?_
                      cases hnm : To.name tt with
                      | false =>
                        have HNM := Lib.hid hnm
                        go_wp2_with fail
                        go_meet
                        case rel => exact ⟨by rw [HP.out.2.2.1 (by first | trivial | simp), HB.out, HNM.out]; rfl, K7.out⟩
                      | true =>
                        have HNM := Lib.hid hnm
                        go_wp2_with fail
                        go_meet
                        case rel => exact ⟨by rw [HP.out.2.2.1 (by first | trivial | simp), HB.out, HNM.out]; rfl, K7.out⟩
                    by_cases e11 : kd = 11
                    · subst e11
                      clear e9 e10 e8
                      cases hte : tt.isEmpty with
                      | false =>
                        have HTE := Lib.hid hte
                        go_wp2_with fail
                        go_meet
                        case rel => exact ⟨by rw [HP.out.2.2.2.1 (by first | trivial | simp), HTE.out]; rfl, K7.out⟩
                      | true =>
                        have HTE := Lib.hid hte
                        cases inner with
                        | false =>
                          go_wp2_with fail
                          go_meet
                          case rel => exact ⟨by rw [HP.out.2.2.2.1 (by first | trivial | simp), HTE.out, HB.out]; rfl, K7.out⟩
                        | true =>
                          go_wp2_with fail
                          go_meet
                          case rel => exact ⟨by rw [HP.out.2.2.2.1 (by first | trivial | simp), HTE.out, HB.out]; rfl, K7.out⟩
                    by_cases e12 : kd = 12 ∨ kd = 13
                    · clear e9 e10 e8 e11
                      have HK := Lib.hid e12
                      cases hte : tt.isEmpty with
                      | false =>
                        have HTE := Lib.hid hte
                        rcases e12 with rfl | rfl
                        all_goals
                          go_wp2_with fail
                          go_meet
                          case rel => exact ⟨by rw [HP.out.2.2.2.2.1 (by first | trivial | simp | exact HK.out), HTE.out, HB.out]; rfl, K7.out⟩
                      | true =>
                        have HTE := Lib.hid hte
                        rcases e12 with rfl | rfl
                        all_goals
                          go_wp2_with fail
                          go_meet
                          case rel => exact ⟨by rw [HP.out.2.2.2.2.1 (by first | trivial | simp | exact HK.out), HTE.out, HB.out]; rfl, K7.out⟩
                    · have HO := Lib.hid (HP.out.2.2.2.2.2 ⟨e9, e10, e8, e11, fun h => e12 (.inl h), fun h => e12 (.inr h)⟩)
                      have f9 : ((kd : Int) == 9) = false := by simp; omega
                      have f10 : ((kd : Int) == 10) = false := by simp; omega
                      have f8 : ((kd : Int) == 8) = false := by simp; omega
                      have f11 : ((kd : Int) == 11) = false := by simp; omega
                      have f12 : ((kd : Int) == 12) = false := by simp; omega
                      have f13 : ((kd : Int) == 13) = false := by simp; omega
                      clear e9 e10 e8 e11 e12
                      go_wp2_with fail
                      go_meet
                      case rel => exact ⟨by rw [HO.out], K7.out⟩
                  · have zei : ((xe.len : Int) == 0) = false := by simp; omega
                    have HB := Lib.hid (show bare = false by rw [HBARE.out]; simp [zb, ze])
                    have HE0 := Lib.hid (show (xe.len == 0) = false by simp [ze])
                    clear zb ze
                    by_cases e9 : kd = 9
                    · subst e9
                      go_wp2_with fail
                      go_meet
                      case rel => exact ⟨by rw [HP.out.1 (by first | trivial | simp)], K7.out⟩
                    by_cases e10 : kd = 10
                    · subst e10
                      clear e9
                      cases hte : tt.isEmpty with
                      | false =>
                        have HTE := Lib.hid hte
                        go_wp2_with fail
                        go_meet
                        case rel => exact ⟨by rw [HP.out.2.1 (by first | trivial | simp), HTE.out, HE0.out]; rfl, K7.out⟩
                      | true =>
                        have HTE := Lib.hid hte
                        go_wp2_with fail
                        go_meet
                        case rel => exact ⟨by rw [HP.out.2.1 (by first | trivial | simp), HTE.out, HE0.out]; rfl, K7.out⟩
                    by_cases e8 : kd = 8
                    · subst e8
                      clear e9 e10
                      go_wp2_with fail
                      refine refname_t tt HT.out ?_
                      cases hnm : To.name tt with
                      | false =>
                        have HNM := Lib.hid hnm
                        go_wp2_with fail
                        go_meet
                        case rel => exact ⟨by rw [HP.out.2.2.1 (by first | trivial | simp), HB.out, HNM.out]; rfl, K7.out⟩
                      | true =>
                        have HNM := Lib.hid hnm
                        go_wp2_with fail
                        go_meet
                        case rel => exact ⟨by rw [HP.out.2.2.1 (by first | trivial | simp), HB.out, HNM.out]; rfl, K7.out⟩
                    by_cases e11 : kd = 11
                    · subst e11
                      clear e9 e10 e8
                      cases hte : tt.isEmpty with
                      | false =>
                        have HTE := Lib.hid hte
                        go_wp2_with fail
                        go_meet
                        case rel => exact ⟨by rw [HP.out.2.2.2.1 (by first | trivial | simp), HTE.out]; rfl, K7.out⟩
                      | true =>
                        have HTE := Lib.hid hte
                        cases inner with
                        | false =>
                          go_wp2_with fail
                          go_meet
                          case rel => exact ⟨by rw [HP.out.2.2.2.1 (by first | trivial | simp), HTE.out, HB.out]; rfl, K7.out⟩
                        | true =>
                          go_wp2_with fail
                          go_meet
                          case rel => exact ⟨by rw [HP.out.2.2.2.1 (by first | trivial | simp), HTE.out, HB.out]; rfl, K7.out⟩
                    by_cases e12 : kd = 12 ∨ kd = 13
                    · clear e9 e10 e8 e11
                      have HK := Lib.hid e12
                      cases hte : tt.isEmpty with
                      | false =>
                        have HTE := Lib.hid hte
                        rcases e12 with rfl | rfl
                        all_goals
                          go_wp2_with fail
                          go_meet
                          case rel => exact ⟨by rw [HP.out.2.2.2.2.1 (by first | trivial | simp | exact HK.out), HTE.out, HB.out]; rfl, K7.out⟩
                      | true =>
                        have HTE := Lib.hid hte
                        rcases e12 with rfl | rfl
                        all_goals
                          go_wp2_with fail
                          go_meet
                          case rel => exact ⟨by rw [HP.out.2.2.2.2.1 (by first | trivial | simp | exact HK.out), HTE.out, HB.out]; rfl, K7.out⟩
                    · have HO := Lib.hid (HP.out.2.2.2.2.2 ⟨e9, e10, e8, e11, fun h => e12 (.inl h), fun h => e12 (.inr h)⟩)
                      have f9 : ((kd : Int) == 9) = false := by simp; omega
                      have f10 : ((kd : Int) == 10) = false := by simp; omega
                      have f8 : ((kd : Int) == 8) = false := by simp; omega
                      have f11 : ((kd : Int) == 11) = false := by simp; omega
                      have f12 : ((kd : Int) == 12) = false := by simp; omega
                      have f13 : ((kd : Int) == 13) = false := by simp; omega
                      clear e9 e10 e8 e11 e12
                      go_wp2_with fail
                      go_meet
                      case rel => exact ⟨by rw [HO.out], K7.out⟩
                · have zbi : ((xb.len : Int) == 0) = false := by simp; omega
                  by_cases ze : xe.len = 0
                  · have zei : (xe.len : Int) = 0 := by omega
                    have HB := Lib.hid (show bare = false by rw [HBARE.out]; simp [zb, ze])
                    have HE0 := Lib.hid (show (xe.len == 0) = true by simp [ze])
                    clear zb ze
                    by_cases e9 : kd = 9
                    · subst e9
                      go_wp2_with fail
                      go_meet
                      case rel => exact ⟨by rw [HP.out.1 (by first | trivial | simp)], K7.out⟩
                    by_cases e10 : kd = 10
                    · subst e10
                      clear e9
                      cases hte : tt.isEmpty with
                      | false =>
                        have HTE := Lib.hid hte
                        go_wp2_with fail
                        go_meet
                        case rel => exact ⟨by rw [HP.out.2.1 (by first | trivial | simp), HTE.out, HE0.out]; rfl, K7.out⟩
                      | true =>
                        have HTE := Lib.hid hte
                        go_wp2_with fail
                        go_meet
                        case rel => exact ⟨by rw [HP.out.2.1 (by first | trivial | simp), HTE.out, HE0.out]; rfl, K7.out⟩
                    by_cases e8 : kd = 8
                    · subst e8
                      clear e9 e10
                      go_wp2_with fail
                      refine refname_t tt HT.out ?_
                      cases hnm : To.name tt with
                      | false =>
                        have HNM := Lib.hid hnm
                        go_wp2_with fail
                        go_meet
                        case rel => exact ⟨by rw [HP.out.2.2.1 (by first | trivial | simp), HB.out, HNM.out]; rfl, K7.out⟩
                      | true =>
                        have HNM := Lib.hid hnm
                        go_wp2_with fail
                        go_meet
                        case rel => exact ⟨by rw [HP.out.2.2.1 (by first | trivial | simp), HB.out, HNM.out]; rfl, K7.out⟩
                    by_cases e11 : kd = 11
                    · subst e11
                      clear e9 e10 e8
                      cases hte : tt.isEmpty with
                      | false =>
                        have HTE := Lib.hid hte
                        go_wp2_with fail
                        go_meet
                        case rel => exact ⟨by rw [HP.out.2.2.2.1 (by first | trivial | simp), HTE.out]; rfl, K7.out⟩
                      | true =>
                        have HTE := Lib.hid hte
                        cases inner with
                        | false =>
                          go_wp2_with fail
                          go_meet
                          case rel => exact ⟨by rw [HP.out.2.2.2.1 (by first | trivial | simp), HTE.out, HB.out]; rfl, K7.out⟩
                        | true =>
                          go_wp2_with fail
                          go_meet
                          case rel => exact ⟨by rw [HP.out.2.2.2.1 (by first | trivial | simp), HTE.out, HB.out]; rfl, K7.out⟩
                    by_cases e12 : kd = 12 ∨ kd = 13
                    · clear e9 e10 e8 e11
                      have HK := Lib.hid e12
                      cases hte : tt.isEmpty with
                      | false =>
                        have HTE := Lib.hid hte
                        rcases e12 with rfl | rfl
                        all_goals
                          go_wp2_with fail
                          go_meet
                          case rel => exact ⟨by rw [HP.out.2.2.2.2.1 (by first | trivial | simp | exact HK.out), HTE.out, HB.out]; rfl, K7.out⟩
                      | true =>
                        have HTE := Lib.hid hte
                        rcases e12 with rfl | rfl
                        all_goals
                          go_wp2_with fail
                          go_meet
                          case rel => exact ⟨by rw [HP.out.2.2.2.2.1 (by first | trivial | simp | exact HK.out), HTE.out, HB.out]; rfl, K7.out⟩
                    · have HO := Lib.hid (HP.out.2.2.2.2.2 ⟨e9, e10, e8, e11, fun h => e12 (.inl h), fun h => e12 (.inr h)⟩)
                      have f9 : ((kd : Int) == 9) = false := by simp; omega
                      have f10 : ((kd : Int) == 10) = false := by simp; omega
                      have f8 : ((kd : Int) == 8) = false := by simp; omega
                      have f11 : ((kd : Int) == 11) = false := by simp; omega
                      have f12 : ((kd : Int) == 12) = false := by simp; omega
                      have f13 : ((kd : Int) == 13) = false := by simp; omega
                      clear e9 e10 e8 e11 e12
                      go_wp2_with fail
                      go_meet
                      case rel => exact ⟨by rw [HO.out], K7.out⟩
                  · have zei : ((xe.len : Int) == 0) = false := by simp; omega
                    have HB := Lib.hid (show bare = false by rw [HBARE.out]; simp [zb, ze])
                    have HE0 := Lib.hid (show (xe.len == 0) = false by simp [ze])
                    clear zb ze
                    by_cases e9 : kd = 9
                    · subst e9
                      go_wp2_with fail
                      go_meet
                      case rel => exact ⟨by rw [HP.out.1 (by first | trivial | simp)], K7.out⟩
                    by_cases e10 : kd = 10
                    · subst e10
                      clear e9
                      cases hte : tt.isEmpty with
                      | false =>
                        have HTE := Lib.hid hte
                        go_wp2_with fail
                        go_meet
                        case rel => exact ⟨by rw [HP.out.2.1 (by first | trivial | simp), HTE.out, HE0.out]; rfl, K7.out⟩
                      | true =>
                        have HTE := Lib.hid hte
                        go_wp2_with fail
                        go_meet
                        case rel => exact ⟨by rw [HP.out.2.1 (by first | trivial | simp), HTE.out, HE0.out]; rfl, K7.out⟩
                    by_cases e8 : kd = 8
                    · subst e8
                      clear e9 e10
                      go_wp2_with fail
                      refine refname_t tt HT.out ?_
                      cases hnm : To.name tt with
                      | false =>
                        have HNM := Lib.hid hnm
                        go_wp2_with fail
                        go_meet
                        case rel => exact ⟨by rw [HP.out.2.2.1 (by first | trivial | simp), HB.out, HNM.out]; rfl, K7.out⟩
                      | true =>
                        have HNM := Lib.hid hnm
                        go_wp2_with fail
                        go_meet
                        case rel => exact ⟨by rw [HP.out.2.2.1 (by first | trivial | simp), HB.out, HNM.out]; rfl, K7.out⟩
                    by_cases e11 : kd = 11
                    · subst e11
                      clear e9 e10 e8
                      cases hte : tt.isEmpty with
                      | false =>
                        have HTE := Lib.hid hte
                        go_wp2_with fail
                        go_meet
                        case rel => exact ⟨by rw [HP.out.2.2.2.1 (by first | trivial | simp), HTE.out]; rfl, K7.out⟩
                      | true =>
                        have HTE := Lib.hid hte
                        cases inner with
                        | false =>
                          go_wp2_with fail
                          go_meet
                          case rel => exact ⟨by rw [HP.out.2.2.2.1 (by first | trivial | simp), HTE.out, HB.out]; rfl, K7.out⟩
                        | true =>
                          go_wp2_with fail
                          go_meet
                          case rel => exact ⟨by rw [HP.out.2.2.2.1 (by first | trivial | simp), HTE.out, HB.out]; rfl, K7.out⟩
                    by_cases e12 : kd = 12 ∨ kd = 13
                    · clear e9 e10 e8 e11
                      have HK := Lib.hid e12
                      cases hte : tt.isEmpty with
                      | false =>
                        have HTE := Lib.hid hte
                        rcases e12 with rfl | rfl
                        all_goals
                          go_wp2_with fail
                          go_meet
                          case rel => exact ⟨by rw [HP.out.2.2.2.2.1 (by first | trivial | simp | exact HK.out), HTE.out, HB.out]; rfl, K7.out⟩
                      | true =>
                        have HTE := Lib.hid hte
                        rcases e12 with rfl | rfl
                        all_goals
                          go_wp2_with fail
                          go_meet
                          case rel => exact ⟨by rw [HP.out.2.2.2.2.1 (by first | trivial | simp | exact HK.out), HTE.out, HB.out]; rfl, K7.out⟩
                    · have HO := Lib.hid (HP.out.2.2.2.2.2 ⟨e9, e10, e8, e11, fun h => e12 (.inl h), fun h => e12 (.inr h)⟩)
                      have f9 : ((kd : Int) == 9) = false := by simp; omega
                      have f10 : ((kd : Int) == 10) = false := by simp; omega
                      have f8 : ((kd : Int) == 8) = false := by simp; omega
                      have f11 : ((kd : Int) == 11) = false := by simp; omega
                      have f12 : ((kd : Int) == 12) = false := by simp; omega
                      have f13 : ((kd : Int) == 13) = false := by simp; omega
                      clear e9 e10 e8 e11 e12
                      go_wp2_with fail
                      go_meet
                      case rel => exact ⟨by rw [HO.out], K7.out⟩
              case rest =>
                  obtain ⟨rfl, hbc⟩ := hcut
                  have K9 := Lib.hid (K4.out.trans (hbc.mono K4.out.size))
                  clear hbc q0 q1 q2 q3 q4 HP
                  cases p with
                  | false =>
                    have HN := Lib.hid (stmt_no HD.out HALL.out)
                    go_wp2_with fail
                    go_ret
                    exact ⟨by rw [HN.out]; rfl, K9.out⟩
                  | true =>
                    go_wp2_with fail
                    go_roundg (xs.items.length - (i + 1))
                    case measure => omega
                    case rel =>
                      refine ⟨i + 1, hlt, rfl, by go_num, ?_, K9.out⟩
                      have hd := HD.out
                      rw [List.all_cons, show stmtOne inner ⟨kd, tt, xl, xb, xe⟩ = true from HALL.out, Bool.true_and] at hd
                      exact hd
      · have hl1i : ((xl.len : Int) == 1) = false := by simp; omega
        have hl1j : ((xl.len : Int) != 1) = true := by simp; omega
        have HN := Lib.hid (stmt_no HD.out (by rw [show (xl.len == 1) = false by simpa using hl1]; rfl))
        clear hl1
        go_wp2_with fail
        go_ret
        exact ⟨by rw [HN.out]; rfl, K4.out⟩
    · have hie : i = xs.items.length := by omega
      have i1 : (xs.items.length : Int) ≤ (i : Int) := by omega
      have HD := Lib.hid (show stmts inner xs = true by rw [← hd, hie, List.drop_length]; rfl)
      have HB := Lib.hid hb
      clear hlt hie hd hb hi
      go_wp2_with fail
      go_ret
      exact ⟨by rw [HD.out]; rfl, HB.out⟩
end Go.Proofs.YtmkhfonafcikdaaGreatDoor

/- Programs in memory: texts, functions. No program in sight. -/
namespace Go.My
open Go.RowKit Go.Nd

def spare : List UInt8 := [115, 112, 97, 114, 101]

/-- v reads as these texts, in blocks of S; tw: a mark stands behind them. -/
def TextsIn (w : World) (S : Nat → Prop) (tw : Bool) (v : Value) (ts : List (List UInt8)) : Prop :=
  ∃ a c, v = .slice a ts.length c ∧ ts.length ≤ c ∧ c ≤ maxLen ∧ ts.length * 16 ≤ 140737488351232 ∧
    (tw = true → ts.length < c ∧ ∃ b off, a = some ⟨b, off, none⟩ ∧ S b ∧ w.cell? ⟨b, off + ts.length, none⟩ = some (.string (tx spare))) ∧
    ∀ i (hi : i < ts.length), ∃ b off, a = some ⟨b, off, none⟩ ∧ S b ∧ w.cell? ⟨b, off + i, none⟩ = some (.string (tx ts[i])) ∧ (ts[i]).length ≤ 140737488351232

/-- The three cells of a function. -/
structure FnAt (w : World) (S : Nat → Prop) (tw : Bool) (b off : Nat) (f : Nd.Fn) (v1 v2 : Value) : Prop where
  name : f.name.length ≤ 140737488351232
  d0 : w.cell? ⟨b, off, none⟩ = some (.string (tx f.name))
  d1 : w.cell? ⟨b, off + 1, none⟩ = some v1
  d2 : w.cell? ⟨b, off + 2, none⟩ = some v2
  args : TextsIn w S tw v1 f.args
  body : Nodes w S tw v2 f.body

/-- The mark that stands behind a copy's functions. -/
def FnMark (w : World) (b off : Nat) : Prop := w.cell? ⟨b, off, none⟩ = some (.string (tx spare)) ∧ w.cell? ⟨b, off + 1, none⟩ = some (.slice none 0 0) ∧ w.cell? ⟨b, off + 2, none⟩ = some (.slice none 0 0)
theorem FnMark.frame {w w' : World} {b off : Nat} (h : FnMark w b off) (hs : w'.heap[b]? = w.heap[b]?) : FnMark w' b off := by
  have e : ∀ o, w'.cell? ⟨b, o, none⟩ = w.cell? ⟨b, o, none⟩ := fun o => World.cell?_of_block hs
  exact ⟨(e _).trans h.1, (e _).trans h.2.1, (e _).trans h.2.2⟩
theorem FnMark.lt {w : World} {b off : Nat} (h : FnMark w b off) : b < w.heap.size := World.block_lt_of_cell? w _ h.1

def FuncsIn (w : World) (S : Nat → Prop) (tw : Bool) (v : Value) (fs : List Nd.Fn) : Prop :=
  ∃ a c, v = .slice a fs.length c ∧ fs.length ≤ c ∧ c ≤ maxLen ∧ fs.length * 64 ≤ 140737488351232 ∧
    (tw = true → fs.length < c ∧ ∃ b off, a = some ⟨b, off, none⟩ ∧ S b ∧ FnMark w b (off + fs.length * 3)) ∧
    ∀ i (hi : i < fs.length), ∃ b off v1 v2, a = some ⟨b, off, none⟩ ∧ S b ∧ FnAt w S tw b (off + i * 3) fs[i] v1 v2

theorem TextsIn.frame {w w' : World} {S : Nat → Prop} {tw : Bool} {v : Value} {ts : List (List UInt8)} (h : TextsIn w S tw v ts) (hs : ∀ b, S b → b < w.heap.size → w'.heap[b]? = w.heap[b]?) : TextsIn w' S tw v ts := by
  obtain ⟨a, c, h1, h2, h3, h4, h5, h6⟩ := h
  have cell : ∀ b o u, S b → w.cell? ⟨b, o, none⟩ = some u → w'.cell? ⟨b, o, none⟩ = some u := fun b o u hS h =>
    (World.cell?_of_block (hs b hS (World.block_lt_of_cell? w _ h))).trans h
  refine ⟨a, c, h1, h2, h3, h4, fun e => ?_, fun i hi => ?_⟩
  · obtain ⟨k1, b, off, k2, k3, k4⟩ := h5 e
    exact ⟨k1, b, off, k2, k3, cell _ _ _ k3 k4⟩
  · obtain ⟨b, off, k1, k2, k3, k4⟩ := h6 i hi
    exact ⟨b, off, k1, k2, cell _ _ _ k2 k3, k4⟩
theorem TextsIn.mono {w : World} {S T : Nat → Prop} {tw : Bool} {v : Value} {ts : List (List UInt8)} (h : TextsIn w S tw v ts) (hs : ∀ b, b < w.heap.size → S b → T b) : TextsIn w T tw v ts := by
  obtain ⟨a, c, h1, h2, h3, h4, h5, h6⟩ := h
  refine ⟨a, c, h1, h2, h3, h4, fun e => ?_, fun i hi => ?_⟩
  · obtain ⟨k1, b, off, k2, k3, k4⟩ := h5 e
    exact ⟨k1, b, off, k2, hs _ (World.block_lt_of_cell? w _ k4) k3, k4⟩
  · obtain ⟨b, off, k1, k2, k3, k4⟩ := h6 i hi
    exact ⟨b, off, k1, hs _ (World.block_lt_of_cell? w _ k3) k2, k3, k4⟩
theorem TextsIn.form {w : World} {S : Nat → Prop} {tw : Bool} {v : Value} {ts : List (List UInt8)} (h : TextsIn w S tw v ts) : ∃ a c, v = .slice a ts.length c := by obtain ⟨a, c, e, _⟩ := h; exact ⟨a, c, e⟩
theorem FuncsIn.form {w : World} {S : Nat → Prop} {tw : Bool} {v : Value} {fs : List Nd.Fn} (h : FuncsIn w S tw v fs) : ∃ a c, v = .slice a fs.length c := by obtain ⟨a, c, e, _⟩ := h; exact ⟨a, c, e⟩
theorem Nodes.form {w : World} {S : Nat → Prop} {tw : Bool} {v : Value} {x : Ns} (h : Nodes w S tw v x) : ∃ a c, v = .slice a x.len c := by obtain ⟨a, c, e, _⟩ := h; exact ⟨a, c, e⟩
theorem FnAt.frame {w w' : World} {S : Nat → Prop} {tw : Bool} {b off : Nat} {f : Nd.Fn} {v1 v2 : Value} (h : FnAt w S tw b off f v1 v2) (hS : S b) (hs : ∀ b, S b → b < w.heap.size → w'.heap[b]? = w.heap[b]?) : FnAt w' S tw b off f v1 v2 := by
  have hlt := World.block_lt_of_cell? w _ h.d0
  have e : ∀ o, w'.cell? ⟨b, o, none⟩ = w.cell? ⟨b, o, none⟩ := fun o => World.cell?_of_block (hs b hS hlt)
  exact ⟨h.name, (e _).trans h.d0, (e _).trans h.d1, (e _).trans h.d2, h.args.frame hs, h.body.frame hs⟩
theorem FnAt.mono {w : World} {S T : Nat → Prop} {tw : Bool} {b off : Nat} {f : Nd.Fn} {v1 v2 : Value} (h : FnAt w S tw b off f v1 v2) (hs : ∀ b, b < w.heap.size → S b → T b) : FnAt w T tw b off f v1 v2 :=
  ⟨h.name, h.d0, h.d1, h.d2, h.args.mono hs, h.body.mono hs⟩
theorem FuncsIn.frame {w w' : World} {S : Nat → Prop} {tw : Bool} {v : Value} {fs : List Nd.Fn} (h : FuncsIn w S tw v fs) (hs : ∀ b, S b → b < w.heap.size → w'.heap[b]? = w.heap[b]?) : FuncsIn w' S tw v fs := by
  obtain ⟨a, c, h1, h2, h3, h4, h5, h6⟩ := h
  refine ⟨a, c, h1, h2, h3, h4, fun e => ?_, fun i hi => ?_⟩
  · obtain ⟨k1, b, off, k2, k3, k4⟩ := h5 e
    exact ⟨k1, b, off, k2, k3, k4.frame (hs b k3 k4.lt)⟩
  · obtain ⟨b, off, v1, v2, k1, k2, k3⟩ := h6 i hi
    exact ⟨b, off, v1, v2, k1, k2, k3.frame k2 hs⟩
theorem FuncsIn.mono {w : World} {S T : Nat → Prop} {tw : Bool} {v : Value} {fs : List Nd.Fn} (h : FuncsIn w S tw v fs) (hs : ∀ b, b < w.heap.size → S b → T b) : FuncsIn w T tw v fs := by
  obtain ⟨a, c, h1, h2, h3, h4, h5, h6⟩ := h
  refine ⟨a, c, h1, h2, h3, h4, fun e => ?_, fun i hi => ?_⟩
  · obtain ⟨k1, b, off, k2, k3, k4⟩ := h5 e
    exact ⟨k1, b, off, k2, hs _ k4.lt k3, k4⟩
  · obtain ⟨b, off, v1, v2, k1, k2, k3⟩ := h6 i hi
    exact ⟨b, off, v1, v2, k1, hs _ (World.block_lt_of_cell? w _ k3.d0) k2, k3.mono hs⟩
theorem TextsIn.below {w w' : World} {B : Nat} {tw : Bool} {v : Value} {ts : List (List UInt8)} (h : TextsIn w (· < B) tw v ts) (hb : Below B w w') : TextsIn w' (· < B) tw v ts := h.frame fun b hB _ => hb.block b hB
theorem FuncsIn.below {w w' : World} {B : Nat} {tw : Bool} {v : Value} {fs : List Nd.Fn} (h : FuncsIn w (· < B) tw v fs) (hb : Below B w w') : FuncsIn w' (· < B) tw v fs := h.frame fun b hB _ => hb.block b hB
end Go.My

/- Trees: is one of several texts none; is one of several lists too much; the bodies of a program. -/
namespace Go.Proofs.YtmkhfonafcikdaaGreatDoor
open Go.RowKit Go.My Go.Nd

/-- A function of a text, asked at any later world. -/
def AskedT (B : Nat) (fn : FuncId) (p : List UInt8 → Bool) (x : List UInt8) : Prop :=
  ∀ (w' : World), B ≤ w'.heap.size → x.length ≤ 140737488351232 → Calls Tryz.prog fn #[.string (bs x)] w' fun e w'' => e = .returned (.bool (p x)) ∧ Below w'.heap.size w' w''

def IndexTAt (w : World) (xs : List (List UInt8)) (p : List UInt8 → Bool) (gk : Nat) (v8 : Value) (wr : World) : Prop :=
  ∃ i : Nat, i ≤ xs.length ∧ gk = xs.length - i ∧ v8 = .int .i64 (i : Int) ∧ (xs.drop i).any p = xs.any p ∧ Below w.heap.size w wr

set_option maxRecDepth 100000 in
set_option maxHeartbeats 4000000 in
theorem indexT_said {tw : Bool} {xs : List (List UInt8)} {fn : Nat} {p : List UInt8 → Bool} {w : World} {B : Nat} {v : Value} (hB : B ≤ w.heap.size) (hv : TextsIn w (· < B) tw v xs) (hf : ∀ x ∈ xs, AskedT B fn p x) (hcf : ∀ (args : Array Value) (wx : World), (callFunc fn args).run Tryz.prog wx = .ok (.enter fn args) wx) :
    Calls Tryz.prog 99 #[v, .func (.func fn) #[] #[]] w (IndexSaid w (xs.any p)) := by
  obtain ⟨a, c, rfl, _, _, hr, _, hc⟩ := hv
  have HF := Lib.hid hf
  have HC := Lib.hid hc
  have l0 : (0 : Int) ≤ (xs.length : Int) := by omega
  have l1 : (xs.length : Int) ≤ 140737488351232 := by omega
  clear hc hr hf
  go_enter Tryz.func99, Tryz.ntmps99
  go_wp2_with fail
  go_loopg [8] xs.length (fun gk v8 wr => IndexTAt w xs p gk v8 wr)
  case atStart => exact ⟨0, Nat.zero_le _, rfl, rfl, rfl, Below.refl _ _⟩
  case round =>
    obtain ⟨i, hi, rfl, rfl, hd, hb⟩ := hrel
    have i0 : (0 : Int) ≤ (i : Int) := by omega
    by_cases hlt : i < xs.length
    · have i1 : (i : Int) < (xs.length : Int) := by omega
      obtain ⟨b, off, rfl, hS, hN, hl⟩ := HC.out i hlt
      have d0 := (World.cell?_of_block (hb.block b (Nat.lt_of_lt_of_le hS hB))).trans hN
      obtain ⟨x, hx⟩ : ∃ x, x = xs[i] := ⟨_, rfl⟩
      rw [← hx] at d0 hl
      have etx : tx x = bs x := rfl
      rw [etx] at d0
      have hA := HF.out _ (List.getElem_mem hlt)
      rw [← hx] at hA
      have hdr := List.drop_eq_getElem_cons hlt
      rw [← hx] at hdr
      have Y := Lib.hid (And.intro hb (And.intro hd (And.intro hdr (hA wr (Nat.le_trans hB hb.size) hl))))
      clear hN hb hd hx hdr hA hS hl etx
      go_wp2_with fail
      refine Y.out.2.2.2.mono ?_
      rintro e w' ⟨rfl, hk⟩
      have K := Lib.hid (Y.out.1.trans (hk.mono Y.out.1.size))
      clear hk
      cases hp : p x with
      | true =>
        have HP := Lib.hid hp
        clear hp
        go_wp2_with fail
        go_ret
        refine ⟨(i : Int), rfl, ?_, K.out⟩
        have hd := Y.out.2.1
        rw [Y.out.2.2.1, List.any_cons, HP.out] at hd
        rw [← hd]; simp
      | false =>
        have HP := Lib.hid hp
        clear hp
        go_wp2_with fail
        go_roundg (xs.length - (i + 1))
        case measure => omega
        case rel =>
          refine ⟨i + 1, hlt, rfl, by go_num, ?_, K.out⟩
          have hd := Y.out.2.1
          rw [Y.out.2.2.1, List.any_cons, HP.out, Bool.false_or] at hd
          exact hd
    · obtain rfl : i = xs.length := by omega
      clear hlt
      go_wp2_with fail
      go_ret
      exact ⟨-1, rfl, by rw [← hd, List.drop_length]; rfl, hb⟩

set_option maxRecDepth 100000 in
set_option maxHeartbeats 4000000 in
theorem containsT_said {tw : Bool} {xs : List (List UInt8)} {fn : Nat} {p : List UInt8 → Bool} {w : World} {B : Nat} {v : Value} (hB : B ≤ w.heap.size) (hv : TextsIn w (· < B) tw v xs) (hf : ∀ x ∈ xs, AskedT B fn p x) (hcf : ∀ (args : Array Value) (wx : World), (callFunc fn args).run Tryz.prog wx = .ok (.enter fn args) wx) :
    Calls Tryz.prog 35 #[v, .func (.func fn) #[] #[]] w fun e w' => e = .returned (.bool (xs.any p)) ∧ Below w.heap.size w w' := by
  have H := Lib.hid (indexT_said hB hv hf hcf)
  clear hv hf hcf
  go_enter Tryz.func35, Tryz.ntmps35
  go_wp2_with fail
  refine H.out.mono ?_
  rintro e w' ⟨n, rfl, hn, hb⟩
  have K := Lib.hid (And.intro hn hb)
  clear hn hb
  go_wp2_with fail
  go_ret
  refine ⟨?_, K.out.2⟩
  rw [← K.out.1]; rfl

theorem check1_one {B : Nat} (x : List UInt8) : AskedT B 91 (fun x => !To.name x) x := by
  intro w hB hx
  go_enter Tryz.func91, Tryz.ntmps91
  go_wp2_with fail
  refine name_t x (by omega) fun w1 hb => ?_
  have K := Lib.hid hb
  clear hb
  cases hp : To.name x with
  | true =>
    have HP := Lib.hid hp
    clear hp
    go_wp2_with fail
    go_ret
    exact ⟨by simp [HP.out], K.out⟩
  | false =>
    have HP := Lib.hid hp
    clear hp
    go_wp2_with fail
    go_ret
    exact ⟨by simp [HP.out], K.out⟩
end Go.Proofs.YtmkhfonafcikdaaGreatDoor

/- Trees: may a program be: the package's own Check. -/
namespace Go.My
open Go.Nd
def bodiesOf (p : Pr) : List Ns := p.body :: p.funcs.map (·.body)
def greatP (wrap : Int → Int) (p : Pr) : Bool := (bodiesOf p).any (Nd.great wrap)
def fnOne (f : Nd.Fn) : Bool := To.name f.name && f.args.all To.name && stmts true f.body
theorem check_is (wrap : Int → Int) (p : Pr) : check wrap p = (p.funcs.all fnOne && stmts false p.body && !greatP wrap p) := by
  unfold check greatP bodiesOf
  rw [List.any_cons, List.any_map]; rfl
theorem not_names (l : List (List UInt8)) : l.any (fun x => !To.name x) = !l.all To.name := by
  induction l with
  | nil => rfl
  | cons x l ih => rw [List.any_cons, List.all_cons, ih]; cases To.name x <;> rfl
end Go.My
namespace Go.Proofs.YtmkhfonafcikdaaGreatDoor
open Go.RowKit Go.My Go.Nd

/-- A function of a list of nodes, asked at any later world. -/
def AskedN (tw : Bool) (B : Nat) (fn : FuncId) (p : Ns → Bool) (x : Ns) : Prop :=
  ∀ (w' : World) (v : Value), B ≤ w'.heap.size → Nodes w' (· < B) tw v x → Calls Tryz.prog fn #[v] w' fun e w'' => e = .returned (.bool (p x)) ∧ Below w'.heap.size w' w''

theorem great1_one (tw : Bool) (B : Nat) (x : Ns) : AskedN tw B 143 (Nd.great wrapI) x := by
  intro w v hB hv
  have HD := Lib.hid (deep_said tw x w B v hB hv)
  have HL := Lib.hid (fun w1 (hb : Below w.heap.size w w1) => long_said tw x w1 B v (Nat.le_trans hB hb.size) (hv.below (hb.mono hB)))
  have hn := deep_nonneg wrapI x
  have hm := deep_le wrapI 9223372036854775807 (by decide) (fun x => by unfold wrapI; rw [IntKind.wrap_i64]; omega) x
  obtain ⟨a, c, rfl, _⟩ := hv
  obtain ⟨d, hd⟩ : ∃ d, d = deep wrapI x := ⟨_, rfl⟩
  rw [← hd] at HD hn hm
  have HDD := Lib.hid hd
  clear hd
  go_enter Tryz.func143, Tryz.ntmps143
  go_wp2_with fail
  refine HD.out.mono ?_
  rintro e w1 ⟨rfl, hb⟩
  have K := Lib.hid hb
  clear hb
  by_cases hg : 64 < d
  · have HG := Lib.hid (show Nd.great wrapI x = true by unfold Nd.great; rw [← HDD.out]; simp [hg])
    go_wp2_with fail
    go_ret
    exact ⟨by rw [HG.out]; rfl, K.out⟩
  · have hg1 : d ≤ 64 := by omega
    have HG := Lib.hid (show Nd.great wrapI x = (decide (64 < d) || long x) by unfold Nd.great; rw [← HDD.out])
    clear hg
    go_wp2_with fail
    refine (HL.out w1 K.out).mono ?_
    rintro e w2 ⟨rfl, hb⟩
    have K2 := Lib.hid (K.out.trans (hb.mono K.out.size))
    clear hb
    go_wp2_with fail
    go_ret
    exact ⟨by rw [HG.out]; rfl, K2.out⟩

def IndexNAt (w : World) (xs : List Ns) (p : Ns → Bool) (gk : Nat) (v8 : Value) (wr : World) : Prop :=
  ∃ i : Nat, i ≤ xs.length ∧ gk = xs.length - i ∧ v8 = .int .i64 (i : Int) ∧ (xs.drop i).any p = xs.any p ∧ Below w.heap.size w wr

/-- v reads as these lists of nodes: the row itself anywhere, the nodes below B. -/
def ListsOf (w : World) (B : Nat) (tw : Bool) (v : Value) (xs : List Ns) : Prop :=
  ∃ vs, RowIn w (fun b => b < w.heap.size) v vs ∧ vs.length = xs.length ∧ ∀ j (h : j < vs.length) (h' : j < xs.length), Nodes w (· < B) tw vs[j] xs[j]

set_option maxRecDepth 100000 in
set_option maxHeartbeats 4000000 in
theorem indexN_said {tw : Bool} {xs : List Ns} {fn : Nat} {p : Ns → Bool} {w : World} {B : Nat} {v : Value} (hB : B ≤ w.heap.size) (hv : ListsOf w B tw v xs) (hx : xs.length ≤ 140737488351232) (hf : ∀ x ∈ xs, AskedN tw B fn p x) (hcf : ∀ (args : Array Value) (wx : World), (callFunc fn args).run Tryz.prog wx = .ok (.enter fn args) wx) :
    Calls Tryz.prog 170 #[v, .func (.func fn) #[] #[]] w (IndexSaid w (xs.any p)) := by
  obtain ⟨vs, ⟨a, c, rfl, hc1, hc2, _, hcell⟩, hlen, hn⟩ := hv
  rw [hlen]
  have HF := Lib.hid hf
  have HN := Lib.hid hn
  have HC := Lib.hid hcell
  have HL := Lib.hid hlen
  have l0 : (0 : Int) ≤ (xs.length : Int) := by omega
  have l1 : (xs.length : Int) ≤ 140737488351232 := by omega
  clear hn hcell hlen hf hc1 hc2
  go_enter Tryz.func170, Tryz.ntmps170
  go_wp2_with fail
  go_loopg [8] xs.length (fun gk v8 wr => IndexNAt w xs p gk v8 wr)
  case atStart => exact ⟨0, Nat.zero_le _, rfl, rfl, rfl, Below.refl _ _⟩
  case round =>
    obtain ⟨i, hi, rfl, rfl, hd, hb⟩ := hrel
    have i0 : (0 : Int) ≤ (i : Int) := by omega
    by_cases hlt : i < xs.length
    · have i1 : (i : Int) < (xs.length : Int) := by omega
      have hiv : i < vs.length := by rw [HL.out]; exact hlt
      obtain ⟨b, off, rfl, hS, hcc⟩ := HC.out (by intro e; rw [e] at hiv; exact absurd hiv (Nat.not_lt_zero _))
      have d0 := (World.cell?_of_block (hb.block b hS)).trans (hcc i vs[i] (by rw [List.getElem?_eq_getElem hiv]))
      have hnx := (HN.out i hiv hlt).below (hb.mono hB)
      obtain ⟨y, hy⟩ : ∃ y, y = vs[i] := ⟨_, rfl⟩
      rw [← hy] at d0 hnx
      obtain ⟨x, hx⟩ : ∃ x, x = xs[i] := ⟨_, rfl⟩
      rw [← hx] at hnx
      have hA := HF.out _ (List.getElem_mem hlt)
      rw [← hx] at hA
      have hdr := List.drop_eq_getElem_cons hlt
      rw [← hx] at hdr
      have Y := Lib.hid (And.intro hb (And.intro hd (And.intro hdr (hA wr y (Nat.le_trans hB hb.size) hnx))))
      obtain ⟨ya, yc, rfl, _⟩ := hnx
      clear hb hd hx hdr hA hS hy hcc hiv
      go_wp2_with fail
      refine Y.out.2.2.2.mono ?_
      rintro e w' ⟨rfl, hk⟩
      have K := Lib.hid (Y.out.1.trans (hk.mono Y.out.1.size))
      clear hk
      cases hp : p x with
      | true =>
        have HP := Lib.hid hp
        clear hp
        go_wp2_with fail
        go_ret
        refine ⟨(i : Int), rfl, ?_, K.out⟩
        have hd := Y.out.2.1
        rw [Y.out.2.2.1, List.any_cons, HP.out] at hd
        rw [← hd]; simp
      | false =>
        have HP := Lib.hid hp
        clear hp
        go_wp2_with fail
        go_roundg (xs.length - (i + 1))
        case measure => omega
        case rel =>
          refine ⟨i + 1, hlt, rfl, by go_num, ?_, K.out⟩
          have hd := Y.out.2.1
          rw [Y.out.2.2.1, List.any_cons, HP.out, Bool.false_or] at hd
          exact hd
    · obtain rfl : i = xs.length := by omega
      clear hlt
      go_wp2_with fail
      go_ret
      exact ⟨-1, rfl, by rw [← hd, List.drop_length]; rfl, hb⟩

set_option maxRecDepth 100000 in
set_option maxHeartbeats 4000000 in
theorem containsN_said {tw : Bool} {xs : List Ns} {fn : Nat} {p : Ns → Bool} {w : World} {B : Nat} {v : Value} (hB : B ≤ w.heap.size) (hv : ListsOf w B tw v xs) (hx : xs.length ≤ 140737488351232) (hf : ∀ x ∈ xs, AskedN tw B fn p x) (hcf : ∀ (args : Array Value) (wx : World), (callFunc fn args).run Tryz.prog wx = .ok (.enter fn args) wx) :
    Calls Tryz.prog 141 #[v, .func (.func fn) #[] #[]] w fun e w' => e = .returned (.bool (xs.any p)) ∧ Below w.heap.size w w' := by
  have H := Lib.hid (indexN_said hB hv hx hf hcf)
  clear hv hf hcf
  go_enter Tryz.func141, Tryz.ntmps141
  go_wp2_with fail
  refine H.out.mono ?_
  rintro e w' ⟨n, rfl, hn, hb⟩
  have K := Lib.hid (And.intro hn hb)
  clear hn hb
  go_wp2_with fail
  go_ret
  refine ⟨?_, K.out.2⟩
  rw [← K.out.1]; rfl
end Go.Proofs.YtmkhfonafcikdaaGreatDoor
