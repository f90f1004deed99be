/- Links: the contracts in the form that the statements use. -/
import Derived.Test.YtoedalocfepkoaaGreatDoorLpPackets
namespace Go.Proofs.YtoedalocfepkoaaGreatDoor
open Go.RowKit Go.My

theorem came_k {w : World} {g : Tags} {t eb : Nat} {s : Li.St} {q : Nat} (tl : Nat) (hE : EndIs w g t eb s q) {tv : Nat} {v : Value} {b : List UInt8} (hv : Bytes w g tv v b) (hq : q < 1000000000) (htv : tv < t) (htl : tl < t)
    {fs : List (List UInt8)} {en : Nat} {s' : Li.St} (hall : Li.came s b = (fs, en, s')) {e : Int} (he : (en : Int) = e) {Q : Ending → World → Prop}
    (h : ∀ ao cap w' g', Turn w g w' g' [t, t + 1, t + 2, tl] → Lists w' g' tl (tt t s.awaited) (.slice ao fs.length cap) fs → EndIs w' g' t eb s' (q + 1) → Q (.returned (.tuple #[.slice ao fs.length cap, .int .i64 e])) w') :
    Calls Tryz.prog 14 #[.pointer (some ⟨eb, 0, none⟩), v] w Q := by
  refine (came_t tl hE hv hq htv htl).mono ?_
  rintro e w' ⟨ao, cap, g', rfl, hL, hE', hT⟩
  rw [hall] at hL hE' ⊢
  subst he
  exact h ao cap w' g' hT hL hE'

theorem packets_k {w : World} {g : Tags} {t eb : Nat} {s : Li.St} {q : Nat} (tl : Nat) (tp : Nat → Nat) (hE : EndIs w g t eb s q) (htl : tl < t) (ht : 951 < t) (h1 : tl ≠ 951) (h2 : ∀ j, tp j ≠ 951) (h3 : ∀ j, tp j ≠ tl) (h4 : ∀ j, tp j ≠ t)
    {ps : List (List UInt8)} (hp : Li.packets s = ps) {Q : Ending → World → Prop}
    (h : ∀ ao cap w' g', Turn w g w' g' [t, tl, 951] → Lists w' g' tl tp (.slice ao ps.length cap) ps → EndIs w' g' t eb { s with came := false } q → Q (.returned (.slice ao ps.length cap)) w') :
    Calls Tryz.prog 10 #[.pointer (some ⟨eb, 0, none⟩)] w Q := by
  refine (packets_t tl tp hE htl ht h1 h2 h3 h4).mono ?_
  rintro e w' ⟨ao, cap, g', rfl, hL, hE', hT⟩
  rw [hp] at hL ⊢
  exact h ao cap w' g' hT hL hE'

end Go.Proofs.YtoedalocfepkoaaGreatDoor
