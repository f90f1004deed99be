/- Scopes: the iterator over all nodes, from its start. -/
import Derived.Test.YtmkhfonafcikdaaGreatDoorScWalkV
import Derived.Laws.EntriesVeiled
namespace Go.Proofs.YtmkhfonafcikdaaGreatDoor
open Go.RowKit Go.My Go.Nd

set_option maxRecDepth 100000 in
set_option maxHeartbeats 8000000 in
theorem walk1_t {w0 w : World} {g : Tags} {B : Nat} {tw : Bool} {l lb : Nat} {TB : List Nat} {J : List Nd → World → Tags → Prop} {Jx R : World → Prop} {a : Option Addr} {c : Nat} {xs : Ns}
    (h0 : J xs.flat w g) (stay : ∀ r W g W' g', J r W g → Turn W g W' g' [] → J r W' g') (below : ∀ r W g, J r W g → Below w0.heap.size w0 W)
    (yields : ∀ x r W g v, J (x :: r) W g → NV tw W B v x → YieldsTo Tryz.prog l #[v] W fun e W' => (e = .returned (.bool true) ∧ ∃ g', J r W' g' ∧ Turn W g W' g' TB) ∨ (e = .returned (.bool false) ∧ Jx W'))
    (hB : B ≤ w0.heap.size) (tb : 500 ∉ TB) (hlb : w.cell? ⟨lb, 0, none⟩ = some (.slice a xs.len c)) (hN : Nodes w (· < B) tw (.slice a xs.len c) xs) (hend : ∀ W g, J [] W g → R W) (hstop : ∀ W, Jx W → R W) :
    Calls Tryz.prog 148 #[.func (.yield l) #[] #[], .pointer (some ⟨lb, 0, none⟩)] w fun e w' => (∃ v, e = .returned v) ∧ R w' := by
  have H0 := Lib.hid h0
  have HH := Lib.hid (And.intro stay (And.intro below (And.intro yields (And.intro hB (And.intro tb (And.intro hend hstop))))))
  have HN := Lib.hid hN
  have hlt := World.block_lt_of_cell? _ _ hlb
  clear h0 stay below yields hend hstop hN tb hB
  go_enter Tryz.func148, Tryz.ntmps148
  go_wp2_with fail
  have T1 := Turn.alloc w g 500 (.cells #[.func (.yield l) #[] #[]] 196)
  have B1 := Blk.alloc w g 500 (.cells #[.func (.yield l) #[] #[]] 196 (0, 0))
  have J1 := HH.out.1 _ _ _ _ _ H0.out T1
  have z1 : (w.alloc (.cells #[.func (.yield l) #[] #[]] 196)).heap.size = w.heap.size + 1 := World.size_alloc _ _
  obtain ⟨w1, hw1⟩ : ∃ w1, w1 = w.alloc (.cells #[.func (.yield l) #[] #[]] 196) := ⟨_, rfl⟩
  obtain ⟨g1, hg1⟩ : ∃ g1, g1 = g.ext w.heap.size 500 := ⟨_, rfl⟩
  rw [← hw1, ← hg1] at J1 B1
  rw [← hw1] at z1 ⊢
  have T2 := Turn.alloc w1 g1 500 (.cells #[.func (.func 149) #[] #[.pointer (some ⟨w.heap.size, 0, none⟩), .pointer (some ⟨w.heap.size + 1, 0, none⟩)]] 200)
  have B2 := Blk.alloc w1 g1 500 (.cells #[.func (.func 149) #[] #[.pointer (some ⟨w.heap.size, 0, none⟩), .pointer (some ⟨w.heap.size + 1, 0, none⟩)]] 200 (0, 0))
  have J2 := HH.out.1 _ _ _ _ _ J1 T2
  have B1' := B1.turn T2 (by simp)
  rw [z1] at B2
  obtain ⟨w2, hw2⟩ : ∃ w2, w2 = w1.alloc (.cells #[.func (.func 149) #[] #[.pointer (some ⟨w.heap.size, 0, none⟩), .pointer (some ⟨w.heap.size + 1, 0, none⟩)]] 200) := ⟨_, rfl⟩
  obtain ⟨g2, hg2⟩ : ∃ g2, g2 = g1.ext w1.heap.size 500 := ⟨_, rfl⟩
  rw [z1] at hg2
  rw [z1] at J2 B1'
  rw [← hw2, ← hg2] at J2 B1' B2
  rw [← hw2]
  obtain ⟨yb, hyb⟩ : ∃ yb, yb = w.heap.size := ⟨_, rfl⟩
  rw [← hyb] at B1' B2 ⊢
  have hbw := HH.out.2.1 _ _ _ H0.out
  have hb2 := HH.out.2.1 _ _ _ J2
  have hN2 : Nodes w2 (· < B) tw (.slice a xs.len c) xs := HN.out.frame fun b hb _ => (hb2.block b (Nat.lt_of_lt_of_le hb HH.out.2.2.2.1)).trans (hbw.block b (Nat.lt_of_lt_of_le hb HH.out.2.2.2.1)).symm
  have I : ItW w0 B tw l yb (yb + 1) TB (fun r W g => J r W g ∧ Blk W g yb 500 (.cells #[.func (.yield l) #[] #[]] 196 (0, 0)) ∧ Blk W g (yb + 1) 500 (.cells #[.func (.func 149) #[] #[.pointer (some ⟨yb, 0, none⟩), .pointer (some ⟨yb + 1, 0, none⟩)]] 200 (0, 0))) Jx := {
    stay := fun r W g W' g' h T => ⟨HH.out.1 _ _ _ _ _ h.1 T, h.2.1.turn T (by simp), h.2.2.turn T (by simp)⟩
    below := fun r W g h => HH.out.2.1 _ _ _ h.1
    cyb := fun r W g h => cell_of_row _ _ 0 _ _ _ h.2.1.1
    cab := fun r W g h => cell_of_row _ _ 0 _ _ _ h.2.2.1
    yields := fun x r W g v h hv => by
      obtain ⟨fn, tmps, assign, body, hy, hR⟩ := HH.out.2.2.1 x r W g v h.1 hv
      refine ⟨fn, tmps, assign, body, hy, hR.mono ?_⟩
      rintro e W' (⟨rfl, g', hj, hT⟩ | h')
      · exact .inl ⟨rfl, g', ⟨hj, h.2.1.turn hT HH.out.2.2.2.2.1, h.2.2.turn hT HH.out.2.2.2.2.1⟩, hT⟩
      · exact .inr h'
    hB := HH.out.2.2.2.1
    tb := HH.out.2.2.2.2.1 }
  have hw := walk_all I xs [] w2 g2 _ ⟨by rw [List.append_nil]; exact J2, B1', B2⟩ hN2
  clear T1 T2 B1 B1' B2 J1 J2 hbw hb2 hN2 I hw1 hw2 hg1 hg2 hyb z1
  refine hw.mono ?_
  rintro e W' (⟨rfl, g', ⟨hj, _, _⟩, _⟩ | ⟨rfl, hx⟩)
  · have HR := Lib.hid (HH.out.2.2.2.2.2.1 W' g' hj)
    clear hj hw
    go_wp2_with fail
    go_end0
    exact ⟨⟨_, rfl⟩, HR.out⟩
  · have HR := Lib.hid (HH.out.2.2.2.2.2.2 W' hx)
    clear hx hw
    go_wp2_with fail
    go_end0
    exact ⟨⟨_, rfl⟩, HR.out⟩
end Go.Proofs.YtmkhfonafcikdaaGreatDoor
