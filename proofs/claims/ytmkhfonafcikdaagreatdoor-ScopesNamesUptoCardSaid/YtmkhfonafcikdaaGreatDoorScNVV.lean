/- A node, as a value (as ShJoin has it, for seats without shows). No program in sight. -/
import Derived.Test.YtmkhfonafcikdaaGreatDoorTrC2
import Derived.Test.YtmkhfonafcikdaaGreatDoorTrC3
namespace Go.Proofs.YtmkhfonafcikdaaGreatDoor
open Go.RowKit Go.My Go.Nd

/-- v is this node. -/
def NV (tw : Bool) (w : World) (B : Nat) (v : Value) (x : Nd) : Prop :=
  ∃ a1 c1 a2 c2 a3 c3, v = .agg #[.int .u8 (x.kind : Int), .string (tx x.text), .slice a1 x.l.len c1, .slice a2 x.body.len c2, .slice a3 x.els.len c3] ∧ x.kind < 256 ∧ x.text.length ≤ 140737488351232 ∧
    Nodes w (· < B) tw (.slice a1 x.l.len c1) x.l ∧ Nodes w (· < B) tw (.slice a2 x.body.len c2) x.body ∧ Nodes w (· < B) tw (.slice a3 x.els.len c3) x.els
theorem NV.below {tw : Bool} {w w' : World} {B : Nat} {v : Value} {x : Nd} (h : NV tw w B v x) (hb : Below B w w') : NV tw w' B v x := by
  obtain ⟨a1, c1, a2, c2, a3, c3, e, h1, h2, h3, h4, h5⟩ := h
  exact ⟨a1, c1, a2, c2, a3, c3, e, h1, h2, h3.below hb, h4.below hb, h5.below hb⟩
theorem NV.wide {tw : Bool} {w : World} {B C : Nat} {v : Value} {x : Nd} (h : NV tw w B v x) (hC : B ≤ C) : NV tw w C v x := by
  obtain ⟨a1, c1, a2, c2, a3, c3, e, h1, h2, h3, h4, h5⟩ := h
  exact ⟨a1, c1, a2, c2, a3, c3, e, h1, h2, h3.mono fun b _ q => Nat.lt_of_lt_of_le q hC, h4.mono fun b _ q => Nat.lt_of_lt_of_le q hC, h5.mono fun b _ q => Nat.lt_of_lt_of_le q hC⟩
theorem NodeAt.nv {tw : Bool} {w : World} {B b off : Nat} {x : Nd} {v1 v2 v3 : Value} (h : NodeAt w (· < B) tw b off x v1 v2 v3) : NV tw w B (.agg #[.int .u8 (x.kind : Int), .string (tx x.text), v1, v2, v3]) x := by
  have h1 := h.l
  have h2 := h.body
  have h3 := h.els
  obtain ⟨a1, c1, rfl, r1⟩ := h1
  obtain ⟨a2, c2, rfl, r2⟩ := h2
  obtain ⟨a3, c3, rfl, r3⟩ := h3
  exact ⟨a1, c1, a2, c2, a3, c3, rfl, h.kind, h.text, h.l, h.body, h.els⟩
end Go.Proofs.YtmkhfonafcikdaaGreatDoor
