/- Links: the acts of LinksPlay, in memory. No program in sight. -/
import Derived.Test.YtoedalocfepkoaaGreatDoorTag
namespace Go.My
open Go.RowKit

/-- v reads al these acts. -/
def Acts (w : World) (g : Tags) (t : Nat) (v : Value) (al : List (Nat × List UInt8)) : Prop :=
  ∃ ao cap, v = .slice ao al.length cap ∧ al.length ≤ cap ∧ cap ≤ maxLen ∧ ∀ i (hi : i < al.length), ∃ b off u, ao = some ⟨b, off, none⟩ ∧ g b = t ∧
    w.cell? ⟨b, off + i * 2, none⟩ = some (.int .u8 ((al[i]).1 : Int)) ∧ w.cell? ⟨b, off + i * 2 + 1, none⟩ = some u ∧ Bytes w g t u (al[i]).2 ∧ (al[i]).1 < 256 ∧ (al[i]).2.length ≤ 140737488351232

theorem Acts.turn {w w' : World} {g g' : Tags} {T : List Nat} {t : Nat} {v : Value} {al : List (Nat × List UInt8)} (h : Acts w g t v al) (k : Turn w g w' g' T) (ht : t ∉ T) : Acts w' g' t v al := by
  obtain ⟨ao, cap, h1, h2, h3, h4⟩ := h
  refine ⟨ao, cap, h1, h2, h3, fun i hi => ?_⟩
  obtain ⟨b, off, u, k1, k2, k3, k4, k5, k6, k7⟩ := h4 i hi
  have hlt := World.block_lt_of_cell? w _ k3
  have hb := k.block b hlt (by rw [k2]; exact ht)
  exact ⟨b, off, u, k1, (k.old b hlt).trans k2, (World.cell?_of_block hb).trans k3, (World.cell?_of_block hb).trans k4, k5.turn k ht, k6, k7⟩
end Go.My
