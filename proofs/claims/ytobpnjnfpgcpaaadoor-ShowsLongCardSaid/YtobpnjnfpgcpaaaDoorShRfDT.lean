/- Shows, as the document has it: what stands as statements. -/
import Derived.Test.YtobpnjnfpgcpaaaDoorShRfBT
namespace Go.Proofs.YtobpnjnfpgcpaaaDoor
open Go.RowKit Go.My Go.Nd

theorem block_ok {tw inner : Bool} : ∀ xs : Ns, xs.sz ≤ 1048576 → stmts inner xs = true → BlockOk tw xs := by
  refine Ns.each fun xs ih hs ho => block_r fun x hx => ?_
  rw [stmts_items] at ho
  have hox := List.all_eq_true.1 ho x hx
  have hsz := sz_of_mem x hx
  unfold oks at hox
  simp only [Bool.and_eq_true, beq_iff_eq] at hox
  obtain ⟨⟨⟨⟨h1, h2⟩, h3⟩, h4⟩, _⟩ := hox
  obtain ⟨_, ib, ie⟩ := ih x hx
  refine ⟨?_, ib (by omega) h3, ie (by omega) h4⟩
  obtain ⟨y, hy⟩ : ∃ y, x.l.items = [y] := by
    have h1' : x.l.items.length = 1 := h1
    exact List.length_eq_one_iff.1 h1'
  refine ⟨y, hy, ?_⟩
  rw [Nd.exprs_items, hy] at h2
  have hsy := sz_of_mem (xs := x.l) y (by rw [hy]; simp)
  exact rexpr_ok tw y (by simpa using h2) (by omega)
end Go.Proofs.YtobpnjnfpgcpaaaDoor
