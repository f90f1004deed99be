/- Trees: may a node be an expression: the function that is handed to ContainsFunc. -/
import Derived.Test.YtiefpffccmdcoaaDoorNdLong2T
namespace Go.My
open Go.Nd
def exprOne (x : Nd) : Bool := x.body.len == 0 && x.els.len == 0 && exprs x.l && head x.kind x.text x.l
theorem exprs_items (xs : Ns) : exprs xs = xs.items.all exprOne := by
  induction xs with
  | nil => rfl
  | cons k t l b e r _ _ _ ihr => rw [Ns.items_cons, List.all_cons, ← ihr]; rfl
theorem not_exprs (xs : Ns) : xs.items.any (fun x => !exprOne x) = !exprs xs := by
  rw [exprs_items]
  generalize xs.items = l
  induction l with
  | nil => rfl
  | cons x l ih => rw [List.any_cons, List.all_cons, ih]; cases exprOne x <;> rfl
end Go.My
namespace Go.Proofs.YtiefpffccmdcoaaDoor
open Go.RowKit Go.My Go.Nd

set_option maxRecDepth 100000 in
set_option maxHeartbeats 4000000 in
theorem expr1_one {tw : Bool} {B : Nat} {x : Nd} (h : Asked tw B 48 exprOne x) : Asked tw B 77 (fun x => !exprOne x) x := by
  intro w a1 a2 a3 c1 c2 c3 hB n1 n2 n3 hk ht
  have hA := Below.alloc (Below.refl w.heap.size w) (Nat.le_refl _) (.cells #[.int .u8 (x.kind : Int), .string (tx x.text), .slice a1 x.l.len c1, .slice a2 x.body.len c2, .slice a3 x.els.len c3] 49)
  have C := Lib.hid (h _ a1 a2 a3 c1 c2 c3 (Nat.le_trans hB hA.size) (n1.below (hA.mono hB)) (n2.below (hA.mono hB)) (n3.below (hA.mono hB)) hk ht)
  have Y := Lib.hid hA
  clear h n1 n2 n3 hA hk ht
  obtain ⟨kd, tt, xl, xb, xe⟩ := x
  simp only at C Y ⊢
  go_enter Tryd.func77, Tryd.ntmps77
  go_wp2_with fail
  refine C.out.mono ?_
  rintro e w' ⟨rfl, hb⟩
  have K := Lib.hid (Y.out.trans (hb.mono Y.out.size))
  clear hb
  cases hp : exprOne ⟨kd, tt, xl, xb, xe⟩ with
  | true =>
    have HP := Lib.hid hp
    clear hp
    go_wp2_with fail
    go_ret
    refine ⟨?_, K.out⟩
    show _ = Ending.returned (.bool (!exprOne ⟨kd, tt, xl, xb, xe⟩))
    rw [HP.out]; rfl
  | false =>
    have HP := Lib.hid hp
    clear hp
    go_wp2_with fail
    go_ret
    refine ⟨?_, K.out⟩
    show _ = Ending.returned (.bool (!exprOne ⟨kd, tt, xl, xb, xe⟩))
    rw [HP.out]; rfl
end Go.Proofs.YtiefpffccmdcoaaDoor
