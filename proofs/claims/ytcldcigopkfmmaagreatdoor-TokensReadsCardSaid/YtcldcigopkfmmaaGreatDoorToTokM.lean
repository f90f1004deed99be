/- A slice of tokens: what it reads as. -/
import Derived.Test.YtcldcigopkfmmaaGreatDoorToRead
namespace Go.Proofs.YtcldcigopkfmmaaGreatDoor
open Go.RowKit Go.My

/-- v reads as the tokens xs. -/
def Toks (w : World) (g : Tags) (t : Nat) (v : Value) (xs : List To.T) : Prop :=
  ∃ ao cap, v = .slice ao xs.length cap ∧ xs.length ≤ cap ∧ cap ≤ maxLen ∧
    (0 < xs.length → ∃ b off, ao = some ⟨b, off, none⟩ ∧ g b = t ∧ b < w.heap.size ∧ ∀ j (hj : j < xs.length),
      w.cell? ⟨b, off + j * 3, none⟩ = some (.int .u8 ((xs[j]).kind : Int)) ∧ w.cell? ⟨b, off + j * 3 + 1, none⟩ = some (.string (bs (xs[j]).text)) ∧ w.cell? ⟨b, off + j * 3 + 2, none⟩ = some (.int .i64 ((xs[j]).pos : Int)))

theorem Toks.turn {w w' : World} {g g' : Tags} {T : List Nat} {t : Nat} {v : Value} {xs : List To.T} (h : Toks w g t v xs) (k : Turn w g w' g' T) (ht : t ∉ T) : Toks w' g' t v xs := by
  obtain ⟨ao, cap, hv, h1, h2, h3⟩ := h
  refine ⟨ao, cap, hv, h1, h2, fun hl => ?_⟩
  obtain ⟨b, off, e, hg, hb, hc⟩ := h3 hl
  have hk := k.block b hb (by rw [hg]; exact ht)
  refine ⟨b, off, e, (k.old b hb).trans hg, Nat.lt_of_lt_of_le hb k.size, fun j hj => ?_⟩
  obtain ⟨c0, c1, c2⟩ := hc j hj
  exact ⟨(World.cell?_of_block hk).trans c0, (World.cell?_of_block hk).trans c1, (World.cell?_of_block hk).trans c2⟩

theorem tokRow_len (xs : List To.T) : (tokRow xs).length = xs.length * 3 := by
  induction xs with
  | nil => rfl
  | cons x xs ih =>
    have : tokRow (x :: xs) = (tokCells x).toList ++ tokRow xs := by simp [tokRow]
    rw [this, List.length_append, ih, List.length_cons]
    simp [tokCells]; omega
theorem tokRow_at (xs : List To.T) (j : Nat) (hj : j < xs.length) : (tokRow xs)[j * 3]? = some (.int .u8 ((xs[j]).kind : Int)) ∧ (tokRow xs)[j * 3 + 1]? = some (.string (bs (xs[j]).text)) ∧ (tokRow xs)[j * 3 + 2]? = some (.int .i64 ((xs[j]).pos : Int)) := by
  induction xs generalizing j with
  | nil => exact absurd hj (Nat.not_lt_zero _)
  | cons x xs ih =>
    have e : tokRow (x :: xs) = .int .u8 (x.kind : Int) :: .string (bs x.text) :: .int .i64 (x.pos : Int) :: tokRow xs := by simp [tokRow, tokCells]
    rw [e]
    cases j with
    | zero => exact ⟨rfl, rfl, rfl⟩
    | succ j =>
      have := ih j (by simpa using hj)
      have e3 : (j + 1) * 3 = j * 3 + 3 := by omega
      rw [e3]
      exact this

theorem toks_of_cells {w : World} {g : Tags} {t b off cap : Nat} {xs : List To.T} {cur : Array Value} {e : TypeId} (hb : w.heap[b]? = some (.cells cur e (0, 0))) (hg : g b = t) (h1 : xs.length ≤ cap) (h2 : cap ≤ maxLen) (hcur : (cur.toList.drop off).take (xs.length * 3) = tokRow xs) :
    Toks w g t (.slice (some ⟨b, off, none⟩) xs.length cap) xs := by
  refine ⟨_, cap, rfl, h1, h2, fun hl => ⟨b, off, rfl, hg, (Array.getElem?_eq_some_iff.1 hb).1, fun j hj => ?_⟩⟩
  have hc : ∀ i, i < xs.length * 3 → w.cell? ⟨b, off + i, none⟩ = (tokRow xs)[i]? := by
    intro i hi
    rw [cell_of_row w b (off + i) cur e _ hb, ← hcur, List.getElem?_take, if_pos hi, List.getElem?_drop, Array.getElem?_toList]
  obtain ⟨k0, k1, k2⟩ := tokRow_at xs j hj
  exact ⟨(hc _ (by omega)).trans k0, by rw [Nat.add_assoc]; exact (hc _ (by omega)).trans k1, by rw [Nat.add_assoc]; exact (hc _ (by omega)).trans k2⟩

theorem toks_of_owns {w : World} {g : Tags} {t : Nat} {e : TypeId} {v : Value} {xs : List To.T} (h : Owns w g t e 3 v xs.length (tokRow xs)) : Toks w g t v xs := by
  obtain ⟨k, ⟨_, h1⟩, hk⟩ := h
  rcases h1 with ⟨rfl, h0, _⟩ | ⟨b, off, cap, cur, rfl, rfl, hb, hc, hm, _, ht⟩
  · exact ⟨none, 0, by rw [h0], by omega, Nat.zero_le _, fun h => absurd h (by omega)⟩
  · exact toks_of_cells hb (hk b rfl) hc hm ht
end Go.Proofs.YtcldcigopkfmmaaGreatDoor
