/- Functions in memory, put together: a list of one, written as a literal. No program in sight. -/
import Derived.Test.YtobpnjnfpgcpaaaGreatDoorShLitT
import Derived.Test.YtobpnjnfpgcpaaaGreatDoorShExprET
namespace Go.Proofs.YtobpnjnfpgcpaaaGreatDoor
open Go.RowKit Go.My Go.Nd

theorem texts_none (w : World) (S : Nat → Prop) : TextsIn w S false (.slice none 0 0) [] :=
  ⟨none, 0, rfl, Nat.le_refl _, Nat.zero_le _, Nat.zero_le _, (fun e => by cases e), fun i hi => absurd hi (Nat.not_lt_zero _)⟩

theorem funcs_lit {w : World} {B : Nat} {f : Nd.Fn} {v1 v2 : Value} (T : TypeId) (hn : f.name.length ≤ 140737488351232) (h1 : TextsIn w (· < B) false v1 f.args) (h2 : Nodes w (· < B) false v2 f.body) (hB : B ≤ w.heap.size) :
    FuncsIn (w.alloc (.cells #[.string (tx f.name), v1, v2] T)) (· < w.heap.size + 1) false (.slice (some ⟨w.heap.size, 0, none⟩) 1 1) [f] := by
  have hA := Below.alloc (Below.refl w.heap.size w) (Nat.le_refl _) (.cells #[.string (tx f.name), v1, v2] T)
  have hc : ∀ j, (w.alloc (.cells #[.string (tx f.name), v1, v2] T)).cell? ⟨w.heap.size, j, none⟩ = (#[.string (tx f.name), v1, v2] : Array Value)[j]? := fun j => by
    rw [cell_of_row _ _ _ _ _ _ (heap_alloc_new w _)]
  refine ⟨some ⟨w.heap.size, 0, none⟩, 1, rfl, Nat.le_refl _, (by decide), (show (1 : Nat) * 64 ≤ 140737488351232 by decide), (fun e => by cases e), fun i hi => ?_⟩
  obtain rfl : i = 0 := by simp only [List.length_cons, List.length_nil] at hi; omega
  refine ⟨w.heap.size, 0, v1, v2, rfl, Nat.lt_succ_self _, hn, hc 0, hc 1, hc 2, (h1.below (hA.mono hB)).mono fun b _ hb => ?_, (h2.below (hA.mono hB)).mono fun b _ hb => ?_⟩
  · exact Nat.lt_of_lt_of_le hb (by omega)
  · exact Nat.lt_of_lt_of_le hb (by omega)
end Go.Proofs.YtobpnjnfpgcpaaaGreatDoor
