/- Scopes: a list of texts that is owned, read as texts. -/
import Derived.Test.YtmkhfonafcikdaaGreatDoorScNamV
import Derived.Test.YtmkhfonafcikdaaGreatDoorTrC2
namespace Go.Proofs.YtmkhfonafcikdaaGreatDoor
open Go.RowKit Go.My Go.Nd

theorem texts_of_owns {w : World} {g : Tags} {t : Nat} {v : Value} {cur : List Tx} (h : Owns w g t 9 1 v cur.length (strCells cur)) (hl : ∀ s ∈ cur, s.length ≤ 140737488351232) (hn : cur.length ≤ 4000000) : TextsIn w (fun b => g b = t) false v cur := by
  obtain ⟨ao, cap, e, h1, h2, _, h3⟩ := h.row
  have hlen : (strCells cur).length = cur.length := by unfold strCells; rw [List.length_map]
  rw [hlen] at e h1
  refine ⟨ao, cap, e, h1, h2, by omega, (fun e => by cases e), fun i hi => ?_⟩
  have hne : strCells cur ≠ [] := fun e0 => by rw [e0] at hlen; simp at hlen; omega
  obtain ⟨b, off, e2, hS, hc⟩ := h3 hne
  refine ⟨b, off, e2, hS, hc i _ ?_, hl _ (List.getElem_mem hi)⟩
  unfold strCells
  rw [List.getElem?_map, List.getElem?_eq_getElem hi]
  rfl
end Go.Proofs.YtmkhfonafcikdaaGreatDoor
