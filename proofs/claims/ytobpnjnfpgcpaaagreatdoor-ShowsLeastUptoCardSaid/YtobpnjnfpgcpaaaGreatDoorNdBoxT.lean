/- Trees: what Parse answered, laid into a cell of the caller's. -/
import Derived.Test.YtobpnjnfpgcpaaaGreatDoorPxParseT
namespace Go.Proofs.YtobpnjnfpgcpaaaGreatDoor
open Go.RowKit Go.My Go.Nd

/-- The program p lies in the block b; all that it holds, ahead of it. -/
structure PB (w0 w : World) (b : Nat) (p : Pr) (a1 : Option Addr) (d1 : Nat) (a2 : Option Addr) (d2 : Nat) : Prop where
  below : Below w0.heap.size w0 w
  row : w.heap[b]? = some (.cells #[.slice a1 p.funcs.length d1, .slice a2 p.body.len d2] 25 (0, 0))
  funcs : FuncsIn w (· < b) false (.slice a1 p.funcs.length d1) p.funcs
  nodes : Nodes w (· < b) false (.slice a2 p.body.len d2) p.body
theorem PB.lt {w0 w : World} {b : Nat} {p : Pr} {a1 a2 : Option Addr} {d1 d2 : Nat} (h : PB w0 w b p a1 d1 a2 d2) : b < w.heap.size := heap_lt h.row
theorem PB.later {w0 w w' : World} {b : Nat} {p : Pr} {a1 a2 : Option Addr} {d1 d2 : Nat} (h : PB w0 w b p a1 d1 a2 d2) (hb : Below w.heap.size w w') : PB w0 w' b p a1 d1 a2 d2 :=
  have hm := hb.mono (Nat.le_of_lt h.lt)
  ⟨h.below.trans (hb.mono h.below.size), (hb.block _ h.lt).trans h.row, h.funcs.below hm, h.nodes.below hm⟩
theorem PB.cells {w0 w : World} {b : Nat} {p : Pr} {a1 a2 : Option Addr} {d1 d2 : Nat} (h : PB w0 w b p a1 d1 a2 d2) : w.cell? ⟨b, 0, none⟩ = some (.slice a1 p.funcs.length d1) ∧ w.cell? ⟨b, 1, none⟩ = some (.slice a2 p.body.len d2) := by
  have p0 := cell_of_row w b 0 _ _ _ h.row
  have p1 := cell_of_row w b 1 _ _ _ h.row
  exact ⟨by simpa using p0, by simpa using p1⟩
theorem PB.wide {w0 w : World} {b B : Nat} {p : Pr} {a1 a2 : Option Addr} {d1 d2 : Nat} (h : PB w0 w b p a1 d1 a2 d2) (hB : b ≤ B) : FuncsIn w (· < B) false (.slice a1 p.funcs.length d1) p.funcs ∧ Nodes w (· < B) false (.slice a2 p.body.len d2) p.body :=
  ⟨h.funcs.mono fun _ _ q => Nat.lt_of_lt_of_le q hB, h.nodes.mono fun _ _ q => Nat.lt_of_lt_of_le q hB⟩
/-- What is behind a call of Parse: the value's form; the block that takes it. -/
theorem PB.of {w0 w w1 : World} {pv : Value} {p : Pr} (h0 : Below w0.heap.size w0 w) (hb : Below w.heap.size w w1) (hP : PrR w1 w.heap.size w1.heap.size pv p) :
    ∃ a1 d1 a2 d2, pv = .agg #[.slice a1 p.funcs.length d1, .slice a2 p.body.len d2] ∧ PB w0 (w1.alloc (.cells #[.slice a1 p.funcs.length d1, .slice a2 p.body.len d2] 25)) w1.heap.size p a1 d1 a2 d2 := by
  obtain ⟨a1, d1, a2, d2, rfl⟩ := hP.form
  obtain ⟨hF, hN⟩ := hP.parts (· < w1.heap.size) (fun b _ h => h)
  obtain ⟨hA2, hn2, hz2⟩ := Put.new w1 #[.slice a1 p.funcs.length d1, .slice a2 p.body.len d2] 25
  exact ⟨a1, d1, a2, d2, rfl, h0.trans ((hb.trans (hA2.mono hb.size)).mono h0.size), hn2, hF.below hA2, hN.below hA2⟩
end Go.Proofs.YtobpnjnfpgcpaaaGreatDoor
