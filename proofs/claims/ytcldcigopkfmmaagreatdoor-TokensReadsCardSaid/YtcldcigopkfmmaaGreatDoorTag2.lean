/- Memory by owners: owners may be named anew for a call. No program in sight. -/
import Derived.Test.YtcldcigopkfmmaaGreatDoorTag
namespace Go.My
open Go.RowKit

/-- Names behind a call that was looked at under other names (s: the other name of an owner; r: the owner's name of the other one). -/
def Tags.back (g g0 : Tags) (n : Nat) (r : Nat → Nat) : Tags := fun b => if b < n then g b else r (g0 b)

theorem Turn.back {w w' : World} {g g0 : Tags} {T : List Nat} (s r : Nat → Nat) (h : Turn w (fun b => s (g b)) w' g0 T) (hT : ∀ t, s t ∉ T) : Turn w g w' (g.back g0 w.heap.size r) [] :=
  ⟨h.os, h.tape, h.output, h.size, fun b hb => by unfold Tags.back; rw [if_pos hb], fun b hb _ => h.block b hb (hT _)⟩

theorem back_tag {w w' : World} {g g0 : Tags} {T : List Nat} {s r : Nat → Nat} (h : Turn w (fun b => s (g b)) w' g0 T) {x t : Nat} (hs : ∀ y, s y = x → y = t) (hr : r x = t) (b : Nat) (hb : g0 b = x) : g.back g0 w.heap.size r b = t := by
  unfold Tags.back
  split
  · rename_i hlt
    exact hs _ ((h.old b hlt).symm.trans hb)
  · rw [hb, hr]

theorem Bytes.back {w w' : World} {g g0 : Tags} {T : List Nat} {s r : Nat → Nat} (h : Turn w (fun b => s (g b)) w' g0 T) {x t : Nat} (hs : ∀ y, s y = x → y = t) (hr : r x = t) {v : Value} {l : List UInt8} (hv : Bytes w' g0 x v l) : Bytes w' (g.back g0 w.heap.size r) t v l :=
  BytesIn.mono hv fun b _ hb => back_tag h hs hr b hb

theorem Owns.back {w w' : World} {g g0 : Tags} {T : List Nat} {s r : Nat → Nat} (h : Turn w (fun b => s (g b)) w' g0 T) {x t : Nat} (hs : ∀ y, s y = x → y = t) (hr : r x = t) {e : TypeId} {size : Nat} {v : Value} {n : Nat} {xs : List Value} (hv : Owns w' g0 x e size v n xs) : Owns w' (g.back g0 w.heap.size r) t e size v n xs := by
  obtain ⟨k, ho, hk⟩ := hv
  exact ⟨k, ho, fun b hb => back_tag h hs hr b (hk b hb)⟩

/-- The same facts under other names. -/
theorem Bytes.named {w : World} {g : Tags} {t : Nat} {v : Value} {l : List UInt8} (h : Bytes w g t v l) (s : Nat → Nat) : Bytes w (fun b => s (g b)) (s t) v l := BytesIn.mono h fun b _ hb => by show s (g b) = s t; rw [hb]
theorem Owns.named {w : World} {g : Tags} {t : Nat} {e : TypeId} {size : Nat} {v : Value} {n : Nat} {xs : List Value} (h : Owns w g t e size v n xs) (s : Nat → Nat) : Owns w (fun b => s (g b)) (s t) e size v n xs := by
  obtain ⟨k, ho, hk⟩ := h
  exact ⟨k, ho, fun b hb => by show s (g b) = s t; rw [hk b hb]⟩
end Go.My
