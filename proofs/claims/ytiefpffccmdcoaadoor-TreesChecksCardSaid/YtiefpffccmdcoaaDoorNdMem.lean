/- Nodes in memory: what a slice of nodes reads as. No program in sight. -/
import Derived.Test.YtiefpffccmdcoaaDoorTag
import Derived.Test.YtiefpffccmdcoaaDoorNdPlain
namespace Go.My
open Go.RowKit Go.Nd

/-- A string of these bytes. -/
def tx (l : List UInt8) : ByteArray := ⟨l.toArray⟩

/-- A slice's length and room; tw: there is room behind. -/
def Room (tw : Bool) (n c : Nat) : Prop := n ≤ c ∧ c ≤ maxLen ∧ n * 96 ≤ 140737488351232 ∧ (tw = true → n < c)

/-- The mark that stands behind a copy's nodes. -/
def NodeMark (w : World) (b off : Nat) : Prop :=
  w.cell? ⟨b, off, none⟩ = some (.int .u8 0) ∧ w.cell? ⟨b, off + 1, none⟩ = some (.string (tx [115, 112, 97, 114, 101])) ∧ w.cell? ⟨b, off + 2, none⟩ = some (.slice none 0 0) ∧ w.cell? ⟨b, off + 3, none⟩ = some (.slice none 0 0) ∧ w.cell? ⟨b, off + 4, none⟩ = some (.slice none 0 0)
theorem NodeMark.frame {w w' : World} {b off : Nat} (h : NodeMark w b off) (hs : w'.heap[b]? = w.heap[b]?) : NodeMark w' b off := by
  have e : ∀ o, w'.cell? ⟨b, o, none⟩ = w.cell? ⟨b, o, none⟩ := fun o => World.cell?_of_block hs
  exact ⟨(e _).trans h.1, (e _).trans h.2.1, (e _).trans h.2.2.1, (e _).trans h.2.2.2.1, (e _).trans h.2.2.2.2⟩
theorem NodeMark.lt {w : World} {b off : Nat} (h : NodeMark w b off) : b < w.heap.size := World.block_lt_of_cell? w _ h.1

/-- From an address on stand these nodes, all in blocks of S; tw: behind each list stands a mark. -/
inductive NodesAt (w : World) (S : Nat → Prop) (tw : Bool) : Option Addr → Ns → Prop
  | nil (a : Option Addr) (h : tw = true → ∃ b off, a = some ⟨b, off, none⟩ ∧ S b ∧ NodeMark w b off) : NodesAt w S tw a .nil
  | cons {b off k : Nat} {t : List UInt8} {l body els r : Ns} {a1 a2 a3 : Option Addr} {c1 c2 c3 : Nat} (hS : S b) (hk : k < 256) (ht : t.length ≤ 140737488351232)
      (d0 : w.cell? ⟨b, off, none⟩ = some (.int .u8 (k : Int))) (d1 : w.cell? ⟨b, off + 1, none⟩ = some (.string (tx t)))
      (d2 : w.cell? ⟨b, off + 2, none⟩ = some (.slice a1 l.len c1)) (d3 : w.cell? ⟨b, off + 3, none⟩ = some (.slice a2 body.len c2)) (d4 : w.cell? ⟨b, off + 4, none⟩ = some (.slice a3 els.len c3))
      (r1 : Room tw l.len c1) (r2 : Room tw body.len c2) (r3 : Room tw els.len c3)
      (h1 : NodesAt w S tw a1 l) (h2 : NodesAt w S tw a2 body) (h3 : NodesAt w S tw a3 els) (h4 : NodesAt w S tw (some ⟨b, off + 5, none⟩) r) : NodesAt w S tw (some ⟨b, off, none⟩) (.cons k t l body els r)

theorem NodesAt.frame {w w' : World} {S : Nat → Prop} {tw : Bool} {a : Option Addr} {xs : Ns} (h : NodesAt w S tw a xs) (hs : ∀ b, S b → b < w.heap.size → w'.heap[b]? = w.heap[b]?) : NodesAt w' S tw a xs := by
  have cell : ∀ b o u, S b → w.cell? ⟨b, o, none⟩ = some u → w'.cell? ⟨b, o, none⟩ = some u := fun b o u hS h =>
    (World.cell?_of_block (hs b hS (World.block_lt_of_cell? w _ h))).trans h
  induction h with
  | nil a h =>
    refine .nil a fun e => ?_
    obtain ⟨b, off, h1, h2, h3⟩ := h e
    exact ⟨b, off, h1, h2, h3.frame (hs b h2 h3.lt)⟩
  | cons hS hk ht d0 d1 d2 d3 d4 r1 r2 r3 _ _ _ _ i1 i2 i3 i4 =>
    exact .cons hS hk ht (cell _ _ _ hS d0) (cell _ _ _ hS d1) (cell _ _ _ hS d2) (cell _ _ _ hS d3) (cell _ _ _ hS d4) r1 r2 r3 i1 i2 i3 i4

theorem NodesAt.mono {w : World} {S T : Nat → Prop} {tw : Bool} {a : Option Addr} {xs : Ns} (h : NodesAt w S tw a xs) (hs : ∀ b, b < w.heap.size → S b → T b) : NodesAt w T tw a xs := by
  induction h with
  | nil a h =>
    refine .nil a fun e => ?_
    obtain ⟨b, off, h1, h2, h3⟩ := h e
    exact ⟨b, off, h1, hs _ h3.lt h2, h3⟩
  | cons hS hk ht d0 d1 d2 d3 d4 r1 r2 r3 _ _ _ _ i1 i2 i3 i4 =>
    exact .cons (hs _ (World.block_lt_of_cell? w _ d0) hS) hk ht d0 d1 d2 d3 d4 r1 r2 r3 i1 i2 i3 i4

/-- v reads as these nodes. -/
def Nodes (w : World) (S : Nat → Prop) (tw : Bool) (v : Value) (xs : Ns) : Prop := ∃ a c, v = .slice a xs.len c ∧ Room tw xs.len c ∧ NodesAt w S tw a xs

theorem Nodes.frame {w w' : World} {S : Nat → Prop} {tw : Bool} {v : Value} {xs : Ns} (h : Nodes w S tw v xs) (hs : ∀ b, S b → b < w.heap.size → w'.heap[b]? = w.heap[b]?) : Nodes w' S tw v xs := by
  obtain ⟨a, c, h1, h2, h3⟩ := h; exact ⟨a, c, h1, h2, h3.frame hs⟩
theorem Nodes.mono {w : World} {S T : Nat → Prop} {tw : Bool} {v : Value} {xs : Ns} (h : Nodes w S tw v xs) (hs : ∀ b, b < w.heap.size → S b → T b) : Nodes w T tw v xs := by
  obtain ⟨a, c, h1, h2, h3⟩ := h; exact ⟨a, c, h1, h2, h3.mono hs⟩
theorem Nodes.below {w w' : World} {B : Nat} {tw : Bool} {v : Value} {xs : Ns} (h : Nodes w (· < B) tw v xs) (hb : Below B w w') : Nodes w' (· < B) tw v xs := h.frame fun b hB _ => hb.block b hB

/-- The five cells of one. -/
structure NodeAt (w : World) (S : Nat → Prop) (tw : Bool) (b off : Nat) (x : Nd) (v1 v2 v3 : Value) : Prop where
  kind : x.kind < 256
  text : x.text.length ≤ 140737488351232
  d0 : w.cell? ⟨b, off, none⟩ = some (.int .u8 (x.kind : Int))
  d1 : w.cell? ⟨b, off + 1, none⟩ = some (.string (tx x.text))
  d2 : w.cell? ⟨b, off + 2, none⟩ = some v1
  d3 : w.cell? ⟨b, off + 3, none⟩ = some v2
  d4 : w.cell? ⟨b, off + 4, none⟩ = some v3
  l : Nodes w S tw v1 x.l
  body : Nodes w S tw v2 x.body
  els : Nodes w S tw v3 x.els

theorem NodesAt.at {w : World} {S : Nat → Prop} {tw : Bool} {a : Option Addr} {xs : Ns} (h : NodesAt w S tw a xs) : ∀ i (hi : i < xs.items.length), ∃ b off v1 v2 v3, a = some ⟨b, off, none⟩ ∧ S b ∧ NodeAt w S tw b (off + i * 5) xs.items[i] v1 v2 v3 := by
  induction h with
  | nil a h => intro i hi; exact absurd hi (Nat.not_lt_zero _)
  | @cons b off k t l body els r a1 a2 a3 c1 c2 c3 hS hk ht d0 d1 d2 d3 d4 r1 r2 r3 h1 h2 h3 _ _ _ _ i4 =>
    intro i hi
    cases i with
    | zero => exact ⟨b, off, _, _, _, rfl, hS, hk, ht, by rw [Nat.zero_mul, Nat.add_zero]; exact d0, by rw [Nat.zero_mul, Nat.add_zero]; exact d1, by rw [Nat.zero_mul, Nat.add_zero]; exact d2, by rw [Nat.zero_mul, Nat.add_zero]; exact d3, by rw [Nat.zero_mul, Nat.add_zero]; exact d4, ⟨a1, c1, rfl, r1, h1⟩, ⟨a2, c2, rfl, r2, h2⟩, ⟨a3, c3, rfl, r3, h3⟩⟩
    | succ i =>
      obtain ⟨b', off', v1, v2, v3, e, hS', hN⟩ := i4 i (by simpa [Ns.items_cons] using hi)
      cases e
      refine ⟨b, off, v1, v2, v3, rfl, hS, ?_⟩
      have e : off + (i + 1) * 5 = off + 5 + i * 5 := by omega
      rw [e]
      exact hN

/-- For a loop: the slice's form, and each node under its condition. -/
theorem Nodes.open_ {w : World} {S : Nat → Prop} {tw : Bool} {v : Value} {xs : Ns} (h : Nodes w S tw v xs) :
    ∃ a c, v = .slice a xs.items.length c ∧ Room tw xs.items.length c ∧ ∀ i (hi : i < xs.items.length), ∃ b off v1 v2 v3, a = some ⟨b, off, none⟩ ∧ S b ∧ NodeAt w S tw b (off + i * 5) xs.items[i] v1 v2 v3 := by
  obtain ⟨a, c, h1, h2, h3⟩ := h
  exact ⟨a, c, h1, h2, h3.at⟩

/-- Induction over a list of nodes: for each one of a list, of which it holds for the lists in it. -/
theorem Ns.each {P : Ns → Prop} (h : ∀ xs : Ns, (∀ x ∈ xs.items, P x.l ∧ P x.body ∧ P x.els) → P xs) : ∀ xs, P xs := by
  have key : ∀ xs : Ns, P xs ∧ ∀ x ∈ xs.items, P x.l ∧ P x.body ∧ P x.els := by
    intro xs
    induction xs with
    | nil => exact ⟨h _ (fun x hx => by cases hx), fun x hx => by cases hx⟩
    | cons k t l b e r il ib ie ir =>
      have : ∀ x ∈ (Ns.cons k t l b e r).items, P x.l ∧ P x.body ∧ P x.els := by
        intro x hx
        rw [Ns.items_cons] at hx
        rcases List.mem_cons.1 hx with rfl | hx
        · exact ⟨il.1, ib.1, ie.1⟩
        · exact ir.2 x hx
      exact ⟨h _ this, this⟩
  exact fun xs => (key xs).1
end Go.My
