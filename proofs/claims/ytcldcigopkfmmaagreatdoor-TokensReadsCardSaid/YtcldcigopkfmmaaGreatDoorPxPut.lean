/- A struct in a block of its own: its cells written one by one. No program in sight. -/
import Derived.Test.YtcldcigopkfmmaaGreatDoorTag
namespace Go.My
open Go.RowKit

/-- From w to w': block c now holds these cells; all else is as it was. -/
structure Put (w w' : World) (c : Nat) (cs : Array Value) (T : TypeId) : Prop where
  row : w'.heap[c]? = some (.cells cs T (0, 0))
  os : w'.os = w.os
  tape : w'.tape = w.tape
  output : w'.output = w.output
  size : w'.heap.size = w.heap.size
  oth : ∀ k, k ≠ c → w'.heap[k]? = w.heap[k]?

theorem Put.one {w : World} {c : Nat} {cs : Array Value} {T : TypeId} (h : w.heap[c]? = some (.cells cs T (0, 0))) (i : Nat) (v : Value) : Put w (w.setCell ⟨c, i, none⟩ v) c (cs.setIfInBounds i v) T :=
  ⟨heap_setCell_same w c i _ _ v h, rfl, rfl, rfl, by simp, fun k hk => Below.heap_setCell w ⟨c, i, none⟩ v k (by simpa using hk)⟩
theorem Put.trans {w w1 w2 : World} {c : Nat} {cs ds : Array Value} {T : TypeId} (h : Put w w1 c cs T) (k : Put w1 w2 c ds T) : Put w w2 c ds T :=
  ⟨k.row, k.os.trans h.os, k.tape.trans h.tape, k.output.trans h.output, k.size.trans h.size, fun j hj => (k.oth j hj).trans (h.oth j hj)⟩
theorem Put.below {w0 w w' : World} {n c : Nat} {cs : Array Value} {T : TypeId} (h : Put w w' c cs T) (hb : Below n w0 w) (hn : n ≤ c) : Below n w0 w' :=
  ⟨h.os.trans hb.os, h.tape.trans hb.tape, h.output.trans hb.output, by rw [h.size]; exact hb.size, fun k hk => (h.oth k (by omega)).trans (hb.block k hk)⟩
theorem Put.step {w w' : World} {c : Nat} {cs : Array Value} {T : TypeId} (h : Put w w' c cs T) : Step w w' (some c) :=
  ⟨h.os, h.tape, h.output, by rw [h.size]; exact Nat.le_refl _, fun k _ hk => h.oth k fun e => hk (by rw [e])⟩
theorem Put.cells {w w' : World} {c : Nat} {cs : Array Value} {T : TypeId} (h : Put w w' c cs T) (i : Nat) : w'.cell? ⟨c, i, none⟩ = cs[i]? ∧ w'.frozen? ⟨c, i, none⟩ = false := ⟨cell_of_row _ _ _ _ _ _ h.row, frozen_of_row _ _ _ _ _ h.row⟩

theorem put2 {w : World} {c : Nat} {z0 z1 : Value} {T : TypeId} (h : w.heap[c]? = some (.cells #[z0, z1] T (0, 0))) (v0 v1 : Value) : Put w ((w.setCell ⟨c, 0, none⟩ v0).setCell ⟨c, 1, none⟩ v1) c #[v0, v1] T :=
  (Put.one h 0 v0).trans (Put.one (Put.one h 0 v0).row 1 v1)
theorem put3 {w : World} {c : Nat} {z0 z1 z2 : Value} {T : TypeId} (h : w.heap[c]? = some (.cells #[z0, z1, z2] T (0, 0))) (v0 v1 v2 : Value) : Put w (((w.setCell ⟨c, 0, none⟩ v0).setCell ⟨c, 1, none⟩ v1).setCell ⟨c, 2, none⟩ v2) c #[v0, v1, v2] T :=
  have h1 := put2' h v0 v1
  h1.trans (Put.one h1.row 2 v2)
where put2' {w : World} {c : Nat} {z0 z1 z2 : Value} {T : TypeId} (h : w.heap[c]? = some (.cells #[z0, z1, z2] T (0, 0))) (v0 v1 : Value) : Put w ((w.setCell ⟨c, 0, none⟩ v0).setCell ⟨c, 1, none⟩ v1) c #[v0, v1, z2] T :=
  (Put.one h 0 v0).trans (Put.one (Put.one h 0 v0).row 1 v1)
theorem put5 {w : World} {c : Nat} {z0 z1 z2 z3 z4 : Value} {T : TypeId} (h : w.heap[c]? = some (.cells #[z0, z1, z2, z3, z4] T (0, 0))) (v0 v1 v2 v3 v4 : Value) :
    Put w (((((w.setCell ⟨c, 0, none⟩ v0).setCell ⟨c, 1, none⟩ v1).setCell ⟨c, 2, none⟩ v2).setCell ⟨c, 3, none⟩ v3).setCell ⟨c, 4, none⟩ v4) c #[v0, v1, v2, v3, v4] T := by
  have h0 : Put w _ c #[v0, z1, z2, z3, z4] T := Put.one h 0 v0
  have h1 : Put w _ c #[v0, v1, z2, z3, z4] T := h0.trans (Put.one h0.row 1 v1)
  have h2 : Put w _ c #[v0, v1, v2, z3, z4] T := h1.trans (Put.one h1.row 2 v2)
  have h3 : Put w _ c #[v0, v1, v2, v3, z4] T := h2.trans (Put.one h2.row 3 v3)
  exact h3.trans (Put.one h3.row 4 v4)

/-- A new block. -/
theorem Put.new (w : World) (cs : Array Value) (T : TypeId) : Below w.heap.size w (w.alloc (.cells cs T)) ∧ (w.alloc (.cells cs T)).heap[w.heap.size]? = some (.cells cs T (0, 0)) ∧ (w.alloc (.cells cs T)).heap.size = w.heap.size + 1 :=
  ⟨Below.alloc (Below.refl _ w) (Nat.le_refl _) _, heap_alloc_new w _, World.size_alloc _ _⟩

theorem row5 {w : World} {c : Nat} {v0 v1 v2 v3 v4 : Value} {T : TypeId} (h : w.heap[c]? = some (.cells #[v0, v1, v2, v3, v4] T (0, 0))) :
    w.cell? ⟨c, 0, none⟩ = some v0 ∧ w.cell? ⟨c, 1, none⟩ = some v1 ∧ w.cell? ⟨c, 2, none⟩ = some v2 ∧ w.cell? ⟨c, 3, none⟩ = some v3 ∧ w.cell? ⟨c, 4, none⟩ = some v4 ∧
    w.frozen? ⟨c, 0, none⟩ = false ∧ w.frozen? ⟨c, 1, none⟩ = false ∧ w.frozen? ⟨c, 2, none⟩ = false ∧ w.frozen? ⟨c, 3, none⟩ = false ∧ w.frozen? ⟨c, 4, none⟩ = false :=
  ⟨cell_of_row w c 0 _ _ _ h, cell_of_row w c 1 _ _ _ h, cell_of_row w c 2 _ _ _ h, cell_of_row w c 3 _ _ _ h, cell_of_row w c 4 _ _ _ h, frozen_of_row w c 0 _ _ h, frozen_of_row w c 1 _ _ h, frozen_of_row w c 2 _ _ h, frozen_of_row w c 3 _ _ h, frozen_of_row w c 4 _ _ h⟩

/-- What a cell of a struct holds gives the result. -/
theorem results_cell1 {fn : Func} {p : Tmp} {tp : TypeId} (h : fn.results = #[.cell p tp]) (tmps : Array Value) (P : Program) (w : World) {a : Addr} {va : Value}
    (ea : tmps.getD p undef = .pointer (some a)) (ra : (loadVar tp a).run P w = .ok va w) : (results fn tmps).run P w = .ok va w := by
  have ea' : tmps[p]?.getD undef = .pointer (some a) := by simpa using ea
  simp [results, h, ea', asAddr, ra]
/-- A block that was there is as it was behind a step of the reader. -/
theorem Step.kept {w w' : World} {rb c : Nat} (h : Step w w' (some rb)) (hc : c < w.heap.size) (hne : c ≠ rb) : w'.heap[c]? = w.heap[c]? := h.block c hc fun e => hne (by cases e; rfl)
/-- What is written into a new block is no step in what was there. -/
theorem Step.put {w w1 w2 : World} {rb c : Nat} {cs : Array Value} {T : TypeId} (hs : Step w w1 (some rb)) (hp : Put w1 w2 c cs T) (hc : w.heap.size ≤ c) : Step w w2 (some rb) :=
  ⟨hp.os.trans hs.os, hp.tape.trans hs.tape, hp.output.trans hs.output, by rw [hp.size]; exact hs.size, fun k hk hk' => (hp.oth k (by omega)).trans (hs.block k hk hk')⟩
end Go.My
