/- Scopes: Library: with how many things what is built in is called. -/
import Derived.Test.YtmkhfonafcikdaaGreatDoorTrC3
import Derived.Test.YtmkhfonafcikdaaGreatDoorTrC1
import Derived.Test.YtmkhfonafcikdaaGreatDoorTrC2
namespace Go.Proofs.YtmkhfonafcikdaaGreatDoor
open Go.RowKit Go.Maps Go.My Go.Nd

def libMap (s : Tx) : Option Value := if s = [97, 100, 100] then some (.int .i64 2) else if s = [97, 116] then some (.int .i64 2) else if s = [108, 101, 110] then some (.int .i64 1) else if s = [115, 108, 111, 112, 101] then some (.int .i64 2) else if s = [100, 101, 103] then some (.int .i64 2) else if s = [98, 97, 115, 105, 115] then some (.int .i64 1) else if s = [102, 97, 99] then some (.int .i64 1) else if s = [115, 113, 102] then some (.int .i64 1) else if s = [114, 101, 115] then some (.int .i64 3) else if s = [103, 99, 100] then some (.int .i64 2) else none
theorem libMap_val (s : Tx) : libMap s = (libOf s).map fun n : Nat => Value.int .i64 (n : Int) := by
  unfold libMap libOf
  by_cases h0 : s = [103, 99, 100]
  · subst h0; rfl
  by_cases h1 : s = [114, 101, 115]
  · subst h1; rfl
  by_cases h2 : s = [115, 113, 102]
  · subst h2; rfl
  by_cases h3 : s = [102, 97, 99]
  · subst h3; rfl
  by_cases h4 : s = [98, 97, 115, 105, 115]
  · subst h4; rfl
  by_cases h5 : s = [100, 101, 103]
  · subst h5; rfl
  by_cases h6 : s = [115, 108, 111, 112, 101]
  · subst h6; rfl
  by_cases h7 : s = [108, 101, 110]
  · subst h7; rfl
  by_cases h8 : s = [97, 116]
  · subst h8; rfl
  by_cases h9 : s = [97, 100, 100]
  · subst h9; rfl
  simp only [h0, h1, h2, h3, h4, h5, h6, h7, h8, h9, if_false]
  rfl
theorem libMap_built (wA : World) : ∃ w1 w2 w3 w4 w5 w6 w7 w8 w9 w10,
    (Instr.mapUpdate 72 (.map (some wA.heap.size)) (.string ⟨#[103, 99, 100]⟩) (.int .i64 2)).run Tryz.prog (wA.alloc (.map #[] 0)) = .ok () w1 ∧
    (Instr.mapUpdate 72 (.map (some wA.heap.size)) (.string ⟨#[114, 101, 115]⟩) (.int .i64 3)).run Tryz.prog w1 = .ok () w2 ∧
    (Instr.mapUpdate 72 (.map (some wA.heap.size)) (.string ⟨#[115, 113, 102]⟩) (.int .i64 1)).run Tryz.prog w2 = .ok () w3 ∧
    (Instr.mapUpdate 72 (.map (some wA.heap.size)) (.string ⟨#[102, 97, 99]⟩) (.int .i64 1)).run Tryz.prog w3 = .ok () w4 ∧
    (Instr.mapUpdate 72 (.map (some wA.heap.size)) (.string ⟨#[98, 97, 115, 105, 115]⟩) (.int .i64 1)).run Tryz.prog w4 = .ok () w5 ∧
    (Instr.mapUpdate 72 (.map (some wA.heap.size)) (.string ⟨#[100, 101, 103]⟩) (.int .i64 2)).run Tryz.prog w5 = .ok () w6 ∧
    (Instr.mapUpdate 72 (.map (some wA.heap.size)) (.string ⟨#[115, 108, 111, 112, 101]⟩) (.int .i64 2)).run Tryz.prog w6 = .ok () w7 ∧
    (Instr.mapUpdate 72 (.map (some wA.heap.size)) (.string ⟨#[108, 101, 110]⟩) (.int .i64 1)).run Tryz.prog w7 = .ok () w8 ∧
    (Instr.mapUpdate 72 (.map (some wA.heap.size)) (.string ⟨#[97, 116]⟩) (.int .i64 2)).run Tryz.prog w8 = .ok () w9 ∧
    (Instr.mapUpdate 72 (.map (some wA.heap.size)) (.string ⟨#[97, 100, 100]⟩) (.int .i64 2)).run Tryz.prog w9 = .ok () w10 ∧
    MapS Tryz.prog 9 w10 wA.heap.size 10 libMap ∧ Below wA.heap.size wA w10 := by
  have m0 := MapS.made wA Tryz.prog 9
  have hA : Below wA.heap.size wA (wA.alloc (.map #[] 0)) := Below.alloc (Below.refl _ wA) (Nat.le_refl _) _
  have ht : Tryz.prog.underlying 72 = some (.map 9 3) := Tryz.underlying72
  have gb : ∀ {w w1 w2 : World} {b : Nat}, Below wA.heap.size wA w1 → w1.grownBy w2 (some b) → wA.heap.size ≤ b → Below wA.heap.size wA w2 := fun hb hg h =>
    Below.grown hb hg (Nat.le_trans (Nat.le_refl _) hb.size) (fun k e => by cases e; exact h)
  obtain ⟨w1, r1, m1, g1⟩ := m0.store Tryz.underlying9 ht (by decide) (s := [103, 99, 100]) (by decide) (.int .i64 2)
  obtain ⟨w2, r2, m2, g2⟩ := m1.store Tryz.underlying9 ht (by decide) (s := [114, 101, 115]) (by decide) (.int .i64 3)
  obtain ⟨w3, r3, m3, g3⟩ := m2.store Tryz.underlying9 ht (by decide) (s := [115, 113, 102]) (by decide) (.int .i64 1)
  obtain ⟨w4, r4, m4, g4⟩ := m3.store Tryz.underlying9 ht (by decide) (s := [102, 97, 99]) (by decide) (.int .i64 1)
  obtain ⟨w5, r5, m5, g5⟩ := m4.store Tryz.underlying9 ht (by decide) (s := [98, 97, 115, 105, 115]) (by decide) (.int .i64 1)
  obtain ⟨w6, r6, m6, g6⟩ := m5.store Tryz.underlying9 ht (by decide) (s := [100, 101, 103]) (by decide) (.int .i64 2)
  obtain ⟨w7, r7, m7, g7⟩ := m6.store Tryz.underlying9 ht (by decide) (s := [115, 108, 111, 112, 101]) (by decide) (.int .i64 2)
  obtain ⟨w8, r8, m8, g8⟩ := m7.store Tryz.underlying9 ht (by decide) (s := [108, 101, 110]) (by decide) (.int .i64 1)
  obtain ⟨w9, r9, m9, g9⟩ := m8.store Tryz.underlying9 ht (by decide) (s := [97, 116]) (by decide) (.int .i64 2)
  obtain ⟨w10, r10, m10, g10⟩ := m9.store Tryz.underlying9 ht (by decide) (s := [97, 100, 100]) (by decide) (.int .i64 2)
  refine ⟨w1, w2, w3, w4, w5, w6, w7, w8, w9, w10, r1, r2, r3, r4, r5, r6, r7, r8, r9, r10, m10.mono (by decide), ?_⟩
  have b1 := gb (w := wA) hA g1 (Nat.le_refl _)
  have b2 := gb (w := wA) b1 g2 (Nat.le_refl _)
  have b3 := gb (w := wA) b2 g3 (Nat.le_refl _)
  have b4 := gb (w := wA) b3 g4 (Nat.le_refl _)
  have b5 := gb (w := wA) b4 g5 (Nat.le_refl _)
  have b6 := gb (w := wA) b5 g6 (Nat.le_refl _)
  have b7 := gb (w := wA) b6 g7 (Nat.le_refl _)
  have b8 := gb (w := wA) b7 g8 (Nat.le_refl _)
  have b9 := gb (w := wA) b8 g9 (Nat.le_refl _)
  exact gb (w := wA) b9 g10 (Nat.le_refl _)

set_option maxRecDepth 100000 in
set_option maxHeartbeats 4000000 in
theorem lib_t {w : World} (s : Tx) (hs : s.length ≤ 140737488351232) :
    Calls Tryz.prog 16 #[.string (bs s)] w fun e w' => e = .returned (.tuple #[.int .i64 (((libOf s).getD 0 : Nat) : Int), .bool (libOf s).isSome]) ∧ Below w.heap.size w w' := by
  obtain ⟨w1, w2, w3, w4, w5, w6, w7, w8, w9, w10, r1, r2, r3, r4, r5, r6, r7, r8, r9, r10, hM, hb⟩ := libMap_built w
  obtain ⟨mb, hmb⟩ : ∃ mb, mb = w.heap.size := ⟨_, rfl⟩
  rw [← hmb] at r1 r2 r3 r4 r5 r6 r7 r8 r9 r10
  have hmk : (Instr.makeMap 72 none).run Tryz.prog w = .ok (.map (some mb)) (w.alloc (.map #[] 0)) := by rw [hmb]; rfl
  have hv := libMap_val s
  have X := Lib.hid hb
  cases hL : libOf s with
  | none =>
    have hlk : (Instr.lookup 72 (.map (some mb)) (.string (bs s)) true).run Tryz.prog w10 = .ok (.tuple #[.int .i64 0, .bool false]) w10 := by
      rw [hmb]
      exact hM.look_none Tryz.underlying9 Tryz.underlying72 (z := .int .i64 0) (by kernel_rfl) (by unfold maxLen; omega) (by rw [hv, hL]; rfl)
    clear hM hb hv hL hmb
    go_enter Tryz.func16, Tryz.ntmps16
    go_wp2_with fail
    go_ret2
    exact ⟨rfl, X.out⟩
  | some n =>
    have hlk : (Instr.lookup 72 (.map (some mb)) (.string (bs s)) true).run Tryz.prog w10 = .ok (.tuple #[.int .i64 (n : Int), .bool true]) w10 := by
      rw [hmb]
      exact hM.look_some Tryz.underlying9 Tryz.underlying72 (z := .int .i64 0) (by kernel_rfl) (by unfold maxLen; omega) (by rw [hv, hL]; rfl)
    clear hM hb hv hL hmb
    go_enter Tryz.func16, Tryz.ntmps16
    go_wp2_with fail
    go_ret2
    exact ⟨rfl, X.out⟩
end Go.Proofs.YtmkhfonafcikdaaGreatDoor
