/- Trees: the reader: functions and a program in new memory; how a program's reading ends. -/
import Derived.Test.YtcldcigopkfmmaaGreatDoorTrD4
namespace Go.Proofs.YtcldcigopkfmmaaGreatDoor
open Go.RowKit Go.My Go.Nd

/-- A program's value. -/
def PrR (w : World) (lo hi : Nat) (v : Value) (p : Pr) : Prop := ∃ m v1 v2, v = .agg #[v1, v2] ∧ lo ≤ m ∧ m ≤ hi ∧ FsR w lo m v1 p.funcs ∧ LR w TN m hi v2 p.body

def GotP (w : World) (rb : Nat) (tv : Value) (xs : List To.T) (r : R Pr) (e : Ending) (w' : World) : Prop :=
  Step w w' (some rb) ∧ (∃ inn, Rd w' rb tv xs r.rest inn) ∧ match r with | .ok p _ => ∃ v, e = .returned (.tuple #[v, .bool true]) ∧ PrR w' w.heap.size w'.heap.size v p | .bad _ => e = .returned (.tuple #[.agg #[.slice none 0 0, .slice none 0 0], .bool false])
end Go.Proofs.YtcldcigopkfmmaaGreatDoor
