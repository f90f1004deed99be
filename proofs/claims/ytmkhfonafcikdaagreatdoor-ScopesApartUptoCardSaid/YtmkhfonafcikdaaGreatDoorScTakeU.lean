/- Scopes: the first of some texts. No program in sight. -/
import Derived.Test.YtmkhfonafcikdaaGreatDoorTrB2
namespace Go.My
open Go.RowKit Go.Nd
theorem take_texts {w : World} {S : Nat → Prop} {tw : Bool} {a : Option Addr} {n c : Nat} {ts : List (List UInt8)} (h : TextsIn w S tw (.slice a n c) ts) {k : Nat} (hk : k ≤ ts.length) : TextsIn w S false (.slice a k c) (ts.take k) := by
  obtain ⟨a', c', e, h2, h3, h4, _, h6⟩ := h
  cases e
  have hl : (ts.take k).length = k := by rw [List.length_take]; omega
  refine ⟨a, c, by rw [hl], by omega, h3, by omega, (fun e => by cases e), fun i hi => ?_⟩
  obtain ⟨b, off, k1, k2, k3, k4⟩ := h6 i (by omega)
  exact ⟨b, off, k1, k2, by rw [List.getElem_take]; exact k3, by rw [List.getElem_take]; exact k4⟩
end Go.My
