/- Scopes: owners put together; how often a name was seen. -/
import Derived.Test.YtmkhfonafcikdaaGreatDoorScOwnV
import Derived.Test.YtmkhfonafcikdaaGreatDoorScLibV
import Derived.Test.YtmkhfonafcikdaaGreatDoorScLetV
import Derived.Test.YtmkhfonafcikdaaGreatDoorScHeadV
import Derived.Maps.OwnSet
namespace Go.My
open Go.RowKit
/-- What was there keeps its owner; what is new has the callee's. -/
def Tags.join (n : Nat) (g g' : Tags) : Tags := fun b => if b < n then g b else g' b
theorem Tags.join_new {w0 w' : World} {g' : Tags} (h : Since w0 w' g') (g : Tags) {b t : Nat} (ht : t ≠ 0) (hb : g' b = t) : Tags.join w0.heap.size g g' b = t := by
  unfold Tags.join
  by_cases hlt : b < w0.heap.size
  · exact absurd ((h.zero b hlt).symm.trans hb) (Ne.symm ht)
  · rw [if_neg hlt]; exact hb
theorem Since.join {w0 w' : World} {g' : Tags} (h : Since w0 w' g') (g : Tags) : Turn w0 g w' (Tags.join w0.heap.size g g') [] :=
  ⟨h.below.os, h.below.tape, h.below.output, h.below.size, fun b hb => by unfold Tags.join; rw [if_pos hb], fun b hb _ => h.below.block b hb⟩
end Go.My
namespace Go.Proofs.YtmkhfonafcikdaaGreatDoor
open Go.RowKit Go.Maps Go.My Go.Nd Go.WideMaps

theorem NamAt.join {w0 w' : World} {g' : Tags} (hS : Since w0 w' g') (g : Tags) {t nb : Nat} (ht : t ≠ 0) {cur : List Tx} {k : Nat} (h : NamAt w' g' t nb cur k) : NamAt w' (Tags.join w0.heap.size g g') t nb cur k := by
  obtain ⟨h3, h4, (⟨h5, h6⟩ | ⟨mb, a, c, f, h5⟩)⟩ := h
  · exact ⟨h3, h4, .inl ⟨h5, ⟨h6.row.1, Tags.join_new hS g ht h6.row.2⟩⟩⟩
  · obtain ⟨k0, ho, hk⟩ := h5.list
    exact ⟨h3, h4, .inr ⟨mb, a, c, f, ⟨h5.row.1, Tags.join_new hS g ht h5.row.2⟩, ⟨k0, ho, fun b hb => Tags.join_new hS g (by omega) (hk b hb)⟩, Tags.join_new hS g (by omega) h5.mtag, h5.map, h5.cnt⟩⟩

/-- How often a name was seen. -/
theorem seen_t {W : World} {g : Tags} {t nb : Nat} {own : List Tx} {k : Nat} (h : NamAt W g t nb own k) {s : Tx} (hs : s.length ≤ 140737488351232) :
    ∃ (mo : Option Nat) (c : Nat), W.cell? ⟨nb, 1, none⟩ = some (.map mo) ∧ (Instr.lookup 72 (.map mo) (.string (bs s)) false).run Tryz.prog W = .ok (.int .i64 (c : Int)) W ∧ (own.contains s = true → 1 ≤ c) ∧ (own.contains s = false → c = 0) := by
  have hm : s.length ≤ maxLen := by unfold maxLen; omega
  obtain ⟨h3, h4, (⟨h5, h6⟩ | ⟨mb, a, c, f, h5⟩)⟩ := h
  · subst h5
    refine ⟨none, 0, cell_of_row W nb 1 _ _ _ h6.row.1, ?_, (fun h => by cases h), (fun _ => rfl)⟩
    have := Maps.look_nil (P := Tryz.prog) (w := W) (t := 72) (k := 9) false (string_keyed Tryz.underlying9) Tryz.underlying72 (z := .int .i64 0) (by kernel_rfl) (keyOf_bs Tryz.underlying9 hm)
    exact this
  · have hlk := h5.map.at Tryz.underlying9 Tryz.underlying72 (z := .int .i64 0) (by kernel_rfl) hm
    have hc := h5.cnt s hm
    by_cases hin : s ∈ own
    · obtain ⟨cc, k1, k2, k3⟩ := hc.1 hin
      rw [k3] at hlk
      exact ⟨some mb, cc, cell_of_row W nb 1 _ _ _ h5.row.1, hlk, (fun _ => k1), (fun h => by rw [List.contains_iff_mem.2 hin] at h; cases h)⟩
    · rw [hc.2 hin] at hlk
      exact ⟨some mb, 0, cell_of_row W nb 1 _ _ _ h5.row.1, hlk, (fun h => absurd (List.contains_iff_mem.1 h) hin), (fun _ => rfl)⟩
end Go.Proofs.YtmkhfonafcikdaaGreatDoor
