/- Nodes in memory: the cells of a list of nodes. No program in sight. -/
import Derived.Test.YtobpnjnfpgcpaaaDoorTrA2
namespace Go.My
open Go.RowKit Go.Nd

/-- The five cells of a node, its kind, its text, its lists as values. -/
structure El where
  kind : Nat
  text : List UInt8
  v1 : Value
  v2 : Value
  v3 : Value
def El.cells (x : El) : List Value := [.int .u8 (x.kind : Int), .string (tx x.text), x.v1, x.v2, x.v3]
def elCells (l : List El) : List Value := l.flatMap El.cells
theorem elCells_cons (x : El) (l : List El) : elCells (x :: l) = .int .u8 (x.kind : Int) :: .string (tx x.text) :: x.v1 :: x.v2 :: x.v3 :: elCells l := by simp [elCells, El.cells]
theorem elCells_length (l : List El) : (elCells l).length = l.length * 5 := by
  induction l with
  | nil => rfl
  | cons x l ih => rw [elCells_cons]; simp only [List.length_cons, ih]; omega
theorem elCells_append (a b : List El) : elCells (a ++ b) = elCells a ++ elCells b := by simp [elCells]

/-- It is this node. -/
structure ElIs (w : World) (S : Nat → Prop) (tw : Bool) (e : El) (x : Nd) : Prop where
  kind : e.kind = x.kind ∧ x.kind < 256
  text : e.text = x.text ∧ x.text.length ≤ 140737488351232
  l : Nodes w S tw e.v1 x.l
  body : Nodes w S tw e.v2 x.body
  els : Nodes w S tw e.v3 x.els
theorem ElIs.frame {w w' : World} {S : Nat → Prop} {tw : Bool} {e : El} {x : Nd} (h : ElIs w S tw e x) (hs : ∀ b, S b → b < w.heap.size → w'.heap[b]? = w.heap[b]?) : ElIs w' S tw e x := ⟨h.kind, h.text, h.l.frame hs, h.body.frame hs, h.els.frame hs⟩
theorem ElIs.mono {w : World} {S T : Nat → Prop} {tw : Bool} {e : El} {x : Nd} (h : ElIs w S tw e x) (hs : ∀ b, b < w.heap.size → S b → T b) : ElIs w T tw e x := ⟨h.kind, h.text, h.l.mono hs, h.body.mono hs, h.els.mono hs⟩

/-- Cells in a row read as nodes. -/
theorem nodesAt_of {w : World} {S : Nat → Prop} {tw : Bool} {b : Nat} (hS : S b) : ∀ (xs : Ns) (els : List El) (off : Nat), els.length = xs.items.length → (∀ j (h : j < els.length) (h' : j < xs.items.length), ElIs w S tw els[j] xs.items[j]) →
    (∀ j u, (elCells els)[j]? = some u → w.cell? ⟨b, off + j, none⟩ = some u) → (tw = true → NodeMark w b (off + els.length * 5)) → NodesAt w S tw (some ⟨b, off, none⟩) xs := by
  intro xs
  induction xs with
  | nil =>
    intro els off hl _ _ hm
    have : els = [] := List.eq_nil_of_length_eq_zero hl
    subst this
    exact .nil _ fun e => ⟨b, off, rfl, hS, by simpa using hm e⟩
  | cons k t l body el r _ _ _ ihr =>
    intro els off hl he hc hm
    rw [Ns.items_cons, List.length_cons] at hl
    obtain ⟨e, els, rfl⟩ : ∃ e q, els = e :: q := by cases els with | nil => simp at hl | cons e q => exact ⟨e, q, rfl⟩
    have h0 := he 0 (by simp) (by simp [Ns.items_cons])
    simp only [List.getElem_cons_zero, Ns.items_cons] at h0
    obtain ⟨a1, c1, f1, r1, n1⟩ := h0.l
    obtain ⟨a2, c2, f2, r2, n2⟩ := h0.body
    obtain ⟨a3, c3, f3, r3, n3⟩ := h0.els
    have q : ∀ j u, j < 5 → (e.cells)[j]? = some u → w.cell? ⟨b, off + j, none⟩ = some u := fun j u hj hu => hc j u (by
      rw [elCells_cons]
      match j, hj with
      | 0, _ => exact hu
      | 1, _ => exact hu
      | 2, _ => exact hu
      | 3, _ => exact hu
      | 4, _ => exact hu)
    have q0 := q 0 _ (by decide) rfl
    rw [Nat.add_zero, h0.kind.1] at q0
    have q1 := q 1 _ (by decide) rfl
    rw [h0.text.1] at q1
    have q2 := q 2 _ (by decide) rfl
    have q3 := q 3 _ (by decide) rfl
    have q4 := q 4 _ (by decide) rfl
    rw [f1] at q2
    rw [f2] at q3
    rw [f3] at q4
    refine .cons hS h0.kind.2 h0.text.2 q0 q1 q2 q3 q4 r1 r2 r3 n1 n2 n3 (ihr els (off + 5) (by simpa using hl) (fun j h h' => ?_) (fun j u hu => ?_) (fun et => ?_))
    · have := he (j + 1) (by simpa using h) (by rw [Ns.items_cons]; simpa using h')
      simpa [Ns.items_cons] using this
    · have := hc (j + 5) u (by rw [elCells_cons]; exact hu)
      rw [show off + 5 + j = off + (j + 5) by omega]; exact this
    · have := hm et
      rw [List.length_cons] at this
      rw [show off + 5 + els.length * 5 = off + (els.length + 1) * 5 by omega]; exact this
end Go.My
