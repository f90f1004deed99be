/- Scopes: nodes written as literals, and put behind one another. No program in sight. -/
import Derived.Test.YtmkhfonafcikdaaGreatDoorScNVU
import Derived.Test.YtmkhfonafcikdaaGreatDoorTrB3
import Derived.Test.YtmkhfonafcikdaaGreatDoorTrB2
import Derived.Test.YtmkhfonafcikdaaGreatDoorTrB4
namespace Go.Proofs.YtmkhfonafcikdaaGreatDoor
open Go.RowKit Go.My Go.Nd

/-- A node whose cells stand somewhere, and no other behind it. -/
theorem nodes_one {w : World} {B : Nat} {b off : Nat} {x : Nd} {cs : Array Value} (h : NV false w B (.agg cs) x) (hb : b < B) (hc : ∀ j, j < 5 → w.cell? ⟨b, off + j, none⟩ = cs[j]?) (c : Nat) (h1 : 1 ≤ c) (hcm : c ≤ maxLen) :
    Nodes w (· < B) false (.slice (some ⟨b, off, none⟩) 1 c) (Ns.of [x]) := by
  obtain ⟨a1, c1, a2, c2, a3, c3, e, hk, ht, ⟨_, _, e1, r1, n1⟩, ⟨_, _, e2, r2, n2⟩, ⟨_, _, e3, r3, n3⟩⟩ := h
  cases e
  cases e1
  cases e2
  cases e3
  have q0 := hc 0 (by decide)
  rw [Nat.add_zero] at q0
  exact ⟨some ⟨b, off, none⟩, c, rfl, ⟨h1, hcm, (by show 1 * 96 ≤ _; decide), fun e => by cases e⟩, .cons hb hk ht q0 (hc 1 (by decide)) (hc 2 (by decide)) (hc 3 (by decide)) (hc 4 (by decide)) r1 r2 r3 n1 n2 n3 (.nil _ fun e => by cases e)⟩
/-- A literal of one node. -/
theorem nodes_lit {w : World} {B : Nat} {x : Nd} {c0 c1 c2 c3 c4 : Value} (T : TypeId) (h : NV false w B (.agg #[c0, c1, c2, c3, c4]) x) (hB : B ≤ w.heap.size) :
    Nodes (w.alloc (.cells #[c0, c1, c2, c3, c4] T)) (· < w.heap.size + 1) false (.slice (some ⟨w.heap.size, 0, none⟩) 1 1) (Ns.of [x]) := by
  have hA := Below.alloc (Below.refl w.heap.size w) (Nat.le_refl _) (.cells #[c0, c1, c2, c3, c4] T)
  refine nodes_one ((h.below (hA.mono hB)).wide (show B ≤ w.heap.size + 1 by omega)) (Nat.lt_succ_self _) (fun j hj => ?_) 1 (Nat.le_refl _) (by decide)
  rw [cell_of_row _ _ _ _ _ _ (heap_alloc_new w _)]
  simp
/-- Leaves put behind one another. -/
def leafEl (k : Nat) (t : Tx) : El := ⟨k, t, .slice none 0 0, .slice none 0 0, .slice none 0 0⟩
theorem rep_items (k : Nat) (t : Tx) (n : Nat) : (Ns.of (List.replicate n (leaf k t))).items = List.replicate n (leaf k t) := by
  exact Ns.items_of _
theorem nil_nodes (w : World) (S : Nat → Prop) : Nodes w S false (.slice none 0 0) .nil := ⟨none, 0, rfl, ⟨Nat.le_refl _, by decide, by decide, fun e => by cases e⟩, .nil none fun e => by cases e⟩
theorem nodes_rep {w : World} {g : Tags} {t : Nat} {e : TypeId} {v : Value} {n k : Nat} {tt : Tx} (h : Owns w g t e 5 v n (elCells (List.replicate n (leafEl k tt)))) (hk : k < 256) (ht : tt.length ≤ 1000) (hn : n ≤ 1000) : Nodes w (· < w.heap.size) false v (Ns.of (List.replicate n (leaf k tt))) := by
  have hlen : (Ns.of (List.replicate n (leaf k tt))).len = n := by show (Ns.of _).items.length = n; rw [rep_items]; simp
  obtain ⟨k0, ⟨_, (⟨e1, e2, _⟩ | ⟨b, off, cap, cur, e1, eg, hh, h5, h6, h7, h8⟩)⟩, hk0⟩ := h
  · subst e2
    rw [e1]
    exact nil_nodes _ _
  · subst e1
    have hb : b < w.heap.size := (Array.getElem?_eq_some_iff.1 hh).1
    refine ⟨some ⟨b, off, none⟩, cap, by rw [hlen], ⟨by rw [hlen]; exact h5, h6, by rw [hlen]; omega, fun e => by cases e⟩, ?_⟩
    refine nodesAt_of (tw := false) (S := (· < w.heap.size)) hb (Ns.of (List.replicate n (leaf k tt))) (List.replicate n (leafEl k tt)) off (by rw [rep_items]; simp) (fun j h1 h2 => ?_) (fun j u hu => ?_) (fun e => by cases e)
    · simp only [rep_items, List.getElem_replicate]
      exact ⟨⟨rfl, hk⟩, ⟨rfl, by show tt.length ≤ _; omega⟩, nil_nodes _ _, nil_nodes _ _, nil_nodes _ _⟩
    · rw [← h8] at hu
      rw [cell_of_row w b (off + j) _ e (0, 0) hh]
      rw [List.getElem?_take] at hu
      split at hu
      · rw [List.getElem?_drop] at hu
        rw [← hu]; simp
      · cases hu
end Go.Proofs.YtmkhfonafcikdaaGreatDoor
