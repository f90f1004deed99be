/- Links: the contracts in the form that the statements use. -/
import Derived.Test.YtoedalocfepkoaaLiPackets
namespace Go.Proofs.Ytoedalocfepkoaa
open Go.RowKit Go.My

theorem came_k {w : World} {g : Tags} {t eb : Nat} {s : Li.St} {q : Nat} (tl : Nat) (hE : EndIs w g t eb s q) {tv : Nat} {v : Value} {b : List UInt8} (hv : Bytes w g tv v b) (hq : q < 1000000000) (htv : tv < t ∨ t + 3 < tv) (htl : tl < t ∨ t + 3 < tl)
    {fs : List (List UInt8)} {en : Nat} {s' : Li.St} (hall : Li.came s b = (fs, en, s')) {e : Int} (he : (en : Int) = e) {Q : Ending → World → Prop}
    (h : ∀ ao cap w' g', Turn w g w' g' [t, t + 1, t + 2, tl] → Lists w' g' tl (t + 3) (.slice ao fs.length cap) fs → EndIs w' g' t eb s' (q + 1) → Q (.returned (.tuple #[.slice ao fs.length cap, .int .i64 e])) w') :
    Calls Try.prog 9 #[.pointer (some ⟨eb, 0, none⟩), v] w Q := by
  refine (came_t tl hE hv hq htv htl).mono ?_
  rintro e w' ⟨ao, cap, g', rfl, hL, hE', hT⟩
  rw [hall] at hL hE' ⊢
  subst he
  exact h ao cap w' g' hT hL hE'

theorem packets_k {w : World} {g : Tags} {t eb : Nat} {s : Li.St} {q : Nat} (tl tp : Nat) (hE : EndIs w g t eb s q) (htl : tl < t ∨ t + 3 < tl) (ht : t + 3 < 1000) (h1 : tl ≠ 1001) (h2 : tp ≠ 1001) (h3 : tp ≠ tl) (h4 : tp ≠ t)
    {ps : List (List UInt8)} (hp : Li.packets s = ps) {Q : Ending → World → Prop}
    (h : ∀ ao cap w' g', Turn w g w' g' [t, tl, 1001] → Lists w' g' tl tp (.slice ao ps.length cap) ps → EndIs w' g' t eb { s with came := false } q → Q (.returned (.slice ao ps.length cap)) w') :
    Calls Try.prog 11 #[.pointer (some ⟨eb, 0, none⟩)] w Q := by
  refine (packets_t tl tp hE htl ht h1 h2 h3 h4).mono ?_
  rintro e w' ⟨ao, cap, g', rfl, hL, hE', hT⟩
  rw [hp] at hL ⊢
  exact h ao cap w' g' hT hL hE'

theorem lists_one {w : World} {g : Tags} {t t' : Nat} {ao : Option Addr} {n cap : Nat} {l0 : List UInt8} (h : Lists w g t t' (.slice ao n cap) [l0]) :
    ∃ b off a0 c0, ao = some ⟨b, off, none⟩ ∧ w.cell? ⟨b, off, none⟩ = some (.slice a0 l0.length c0) ∧ Bytes w g t' (.slice a0 l0.length c0) l0 := by
  obtain ⟨b, off, e, hc⟩ := lists_cells h (by simp)
  obtain ⟨u0, d0, e0⟩ := hc 0 (by simp)
  obtain ⟨a0, c0, rfl⟩ := bytes_form e0
  rw [Nat.add_zero] at d0
  exact ⟨b, off, a0, c0, e, d0, e0⟩

theorem lists_two {w : World} {g : Tags} {t t' : Nat} {ao : Option Addr} {n cap : Nat} {l0 l1 : List UInt8} (h : Lists w g t t' (.slice ao n cap) [l0, l1]) :
    ∃ b off a0 c0 a1 c1, ao = some ⟨b, off, none⟩ ∧ (w.cell? ⟨b, off, none⟩ = some (.slice a0 l0.length c0) ∧ Bytes w g t' (.slice a0 l0.length c0) l0) ∧ (w.cell? ⟨b, off + 1, none⟩ = some (.slice a1 l1.length c1) ∧ Bytes w g t' (.slice a1 l1.length c1) l1) := by
  obtain ⟨b, off, e, hc⟩ := lists_cells h (by simp)
  obtain ⟨u0, d0, e0⟩ := hc 0 (by simp)
  obtain ⟨a0, c0, rfl⟩ := bytes_form e0
  obtain ⟨u1, d1, e1⟩ := hc 1 (by simp)
  obtain ⟨a1, c1, rfl⟩ := bytes_form e1
  rw [Nat.add_zero] at d0
  exact ⟨b, off, a0, c0, a1, c1, e, ⟨d0, e0⟩, ⟨d1, e1⟩⟩
end Go.Proofs.Ytoedalocfepkoaa
