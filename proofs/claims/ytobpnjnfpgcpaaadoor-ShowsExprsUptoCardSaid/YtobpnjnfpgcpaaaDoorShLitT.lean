/- Nodes in memory, put together: marks behind lists forgotten; a list of one, written as a literal. No program in sight. -/
import Derived.Test.YtobpnjnfpgcpaaaDoorTrA2
namespace Go.My
open Go.RowKit Go.Nd

theorem Room.untw {tw : Bool} {n c : Nat} (h : Room tw n c) : Room false n c := ⟨h.1, h.2.1, h.2.2.1, fun e => by cases e⟩
theorem NodesAt.untw {w : World} {S : Nat → Prop} {tw : Bool} {a : Option Addr} {xs : Ns} (h : NodesAt w S tw a xs) : NodesAt w S false a xs := by
  induction h with
  | nil a h => exact .nil a fun e => by cases e
  | cons hS hk ht d0 d1 d2 d3 d4 r1 r2 r3 _ _ _ _ i1 i2 i3 i4 => exact .cons hS hk ht d0 d1 d2 d3 d4 r1.untw r2.untw r3.untw i1 i2 i3 i4
theorem Nodes.untw {w : World} {S : Nat → Prop} {tw : Bool} {v : Value} {xs : Ns} (h : Nodes w S tw v xs) : Nodes w S false v xs := by
  obtain ⟨a, c, h1, h2, h3⟩ := h; exact ⟨a, c, h1, h2.untw, h3.untw⟩
theorem TextsIn.untw {w : World} {S : Nat → Prop} {tw : Bool} {v : Value} {ts : List (List UInt8)} (h : TextsIn w S tw v ts) : TextsIn w S false v ts := by
  obtain ⟨a, c, h1, h2, h3, h4, h5, h6⟩ := h
  exact ⟨a, c, h1, h2, h3, h4, (fun e => by cases e), h6⟩
end Go.My
namespace Go.Proofs.YtobpnjnfpgcpaaaDoor
open Go.RowKit Go.My Go.Nd
theorem NV.untw {tw : Bool} {w : World} {B : Nat} {v : Value} {x : Nd} (h : NV tw w B v x) : NV false w B v x := by
  obtain ⟨a1, c1, a2, c2, a3, c3, rfl, hk, ht, n1, n2, n3⟩ := h
  exact ⟨a1, c1, a2, c2, a3, c3, rfl, hk, ht, n1.untw, n2.untw, n3.untw⟩

/-- A node whose cells stand somewhere, and no other behind it. -/
theorem nodes_one {w : World} {B : Nat} {b off : Nat} {x : Nd} {cs : Array Value} (h : NV false w B (.agg cs) x) (hb : b < B) (hc : ∀ j, j < 5 → w.cell? ⟨b, off + j, none⟩ = cs[j]?) (c : Nat) (h1 : 1 ≤ c) (hcm : c ≤ maxLen) :
    Nodes w (· < B) false (.slice (some ⟨b, off, none⟩) 1 c) (Ns.of [x]) := by
  obtain ⟨a1, c1, a2, c2, a3, c3, e, hk, ht, ⟨_, _, e1, r1, n1⟩, ⟨_, _, e2, r2, n2⟩, ⟨_, _, e3, r3, n3⟩⟩ := h
  cases e
  cases e1
  cases e2
  cases e3
  have q0 := hc 0 (by decide)
  rw [Nat.add_zero] at q0
  exact ⟨some ⟨b, off, none⟩, c, rfl, ⟨h1, hcm, (by show 1 * 96 ≤ _; decide), fun e => by cases e⟩, .cons hb hk ht q0 (hc 1 (by decide)) (hc 2 (by decide)) (hc 3 (by decide)) (hc 4 (by decide)) r1 r2 r3 n1 n2 n3 (.nil _ fun e => by cases e)⟩

/-- A literal of one node. -/
theorem nodes_lit {w : World} {B : Nat} {x : Nd} {c0 c1 c2 c3 c4 : Value} (T : TypeId) (h : NV false w B (.agg #[c0, c1, c2, c3, c4]) x) (hB : B ≤ w.heap.size) :
    Nodes (w.alloc (.cells #[c0, c1, c2, c3, c4] T)) (· < w.heap.size + 1) false (.slice (some ⟨w.heap.size, 0, none⟩) 1 1) (Ns.of [x]) := by
  have hA := Below.alloc (Below.refl w.heap.size w) (Nat.le_refl _) (.cells #[c0, c1, c2, c3, c4] T)
  refine nodes_one ((h.below (hA.mono hB)).wide (show B ≤ w.heap.size + 1 by omega)) (Nat.lt_succ_self _) (fun j hj => ?_) 1 (Nat.le_refl _) (by decide)
  rw [cell_of_row _ _ _ _ _ _ (heap_alloc_new w _)]
  simp
end Go.Proofs.YtobpnjnfpgcpaaaDoor
