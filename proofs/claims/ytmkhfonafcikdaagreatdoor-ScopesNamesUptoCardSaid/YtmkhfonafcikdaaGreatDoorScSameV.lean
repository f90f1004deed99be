/- Are two lists of texts the same. -/
import Derived.Test.YtmkhfonafcikdaaGreatDoorScTxV
import Derived.Test.YtmkhfonafcikdaaGreatDoorScRefV
import Derived.Test.YtmkhfonafcikdaaGreatDoorTrC2
import Derived.BigQuiet
namespace Go.Proofs.YtmkhfonafcikdaaGreatDoor
open Go.RowKit Go.My Go.Nd

theorem below_q {n : Nat} {w W : World} (h : Below n w W) (q : Nat) : Below n w (W.drewN q) :=
  ⟨(below_drewN' W q).os.trans h.os, (below_drewN' W q).tape.trans h.tape, (below_drewN' W q).output.trans h.output, Nat.le_trans h.size (below_drewN' W q).size, fun b hb => by rw [heap_drewN']; exact h.block b hb⟩

def StAt (w : World) (xs ys : List Tx) (gk : Nat) (v5 : Value) (wr : World) : Prop :=
  ∃ i, i ≤ xs.length ∧ gk = xs.length - i ∧ v5 = .int .i64 (i : Int) ∧ xs.take i = ys.take i ∧ ∃ q, wr = w.drewN q

set_option maxRecDepth 100000 in
set_option maxHeartbeats 4000000 in
theorem sameTexts_q {w : World} {S T : Nat → Prop} {tw1 tw2 : Bool} {v1 v2 : Value} {xs ys : List Tx} (h1 : TextsIn w S tw1 v1 xs) (h2 : TextsIn w T tw2 v2 ys) :
    Calls Tryz.prog 18 #[v1, v2] w fun e w' => e = .returned (.bool (xs == ys)) ∧ ∃ q, w' = w.drewN q := by
  obtain ⟨a1, c1, rfl, _, _, hr1, _, hc1⟩ := h1
  obtain ⟨a2, c2, rfl, _, _, hr2, _, hc2⟩ := h2
  have H1 := Lib.hid hc1
  have H2 := Lib.hid hc2
  have l0 : (0 : Int) ≤ (xs.length : Int) := by omega
  have l1 : (xs.length : Int) ≤ 140737488351232 := by omega
  have m0 : (0 : Int) ≤ (ys.length : Int) := by omega
  clear hc1 hc2 hr1 hr2
  go_enter Tryz.func18, Tryz.ntmps18
  by_cases hl : xs.length = ys.length
  · have hlI : (xs.length : Int) = (ys.length : Int) := by omega
    have HL := Lib.hid hl
    clear hl
    go_wp2_with fail
    clear hlI
    go_loopg [5] xs.length (fun gk v5 wr => StAt w xs ys gk v5 wr)
    case atStart => exact ⟨0, Nat.zero_le _, rfl, rfl, rfl, 0, rfl⟩
    case round =>
      obtain ⟨i, hi, rfl, rfl, he, qn, rfl⟩ := hrel
      have hb := below_drewN' w qn
      have i0 : (0 : Int) ≤ (i : Int) := by omega
      have K := Lib.hid (And.intro trivial he)
      by_cases hlt : i < xs.length
      · have i1 : (i : Int) < (xs.length : Int) := by omega
        have hl2 : i < ys.length := by have := HL.out; omega
        have i2 : (i : Int) < (ys.length : Int) := by omega
        obtain ⟨b, off, e1, hs1, hcell, hl3⟩ := H1.out i hlt
        obtain ⟨b', off', e2, hs2, hcell', hl4⟩ := H2.out i hl2
        cases e1
        cases e2
        have q1 := (World.cell?_of_block (hb.block b (World.block_lt_of_cell? _ _ hcell))).trans hcell
        have q2 := (World.cell?_of_block (hb.block b' (World.block_lt_of_cell? _ _ hcell'))).trans hcell'
        obtain ⟨x, hx⟩ : ∃ x, x = xs[i] := ⟨_, rfl⟩
        obtain ⟨y, hy⟩ : ∃ y, y = ys[i] := ⟨_, rfl⟩
        rw [← hx] at q1 hcell
        rw [← hy] at q2 hcell'
        have HXY := Lib.hid (show (∃ h : i < xs.length, x = xs[i]) ∧ ∃ h : i < ys.length, y = ys[i] from ⟨⟨hlt, hx⟩, ⟨hl2, hy⟩⟩)
        have hT1 : (tx x).toList = x := bsT x
        have hT2 : (tx y).toList = y := bsT y
        clear hb he hx hy hl3 hl4 hs1 hs2 hlt hl2 hi
        by_cases hxy : x = y
        · have HE := Lib.hid (show xs.take (i + 1) = ys.take (i + 1) from by
            obtain ⟨⟨h1, e1⟩, ⟨h2, e2⟩⟩ := HXY.out
            rw [List.take_succ_eq_append_getElem h1, List.take_succ_eq_append_getElem h2, K.out.2, ← e1, ← e2, hxy])
          subst hxy
          go_wp2_with fail
          go_quiet (fail)
          go_wp2_with fail
          go_roundg (xs.length - (i + 1))
          case measure => obtain ⟨⟨h1, _⟩, _⟩ := HXY.out; omega
          case rel => exact ⟨i + 1, HXY.out.1.1, rfl, by go_num, HE.out, _, rfl⟩
        · have HE := Lib.hid (show (xs == ys) = false from beq_eq_false_iff_ne.2 fun e => by
            obtain ⟨⟨h1, e1⟩, ⟨h2, e2⟩⟩ := HXY.out
            subst e
            exact hxy (e1.trans e2.symm))
          have hb2 : (x == y) = false := beq_eq_false_iff_ne.2 hxy
          have hb3 : ((tx x).toList == (tx y).toList) = false := by rw [hT1, hT2]; exact hb2
          clear hxy
          go_wp2_with fail
          go_quiet (fail)
          go_wp2_with fail
          go_ret
          exact ⟨by rw [HE.out]; rfl, _, World.drewN_drewN ..⟩
      · obtain rfl : i = xs.length := by omega
        clear hlt hi
        have HE := Lib.hid (show (xs == ys) = true from by
          rw [List.take_length] at he
          have := HL.out
          rw [this, List.take_length] at he
          rw [he]; exact beq_self_eq_true _)
        go_wp2_with fail
        go_ret
        exact ⟨by rw [HE.out]; rfl, _, rfl⟩
  · have hlI : ¬ (xs.length : Int) = (ys.length : Int) := by omega
    have HE := Lib.hid (show (xs == ys) = false from beq_eq_false_iff_ne.2 fun e => hl (by rw [e]))
    clear hl
    go_wp2_with fail
    go_ret
    exact ⟨by rw [HE.out]; rfl, 0, rfl⟩
theorem sameTexts_t {w : World} {S T : Nat → Prop} {tw1 tw2 : Bool} {v1 v2 : Value} {xs ys : List Tx} (h1 : TextsIn w S tw1 v1 xs) (h2 : TextsIn w T tw2 v2 ys) :
    Calls Tryz.prog 18 #[v1, v2] w fun e w' => e = .returned (.bool (xs == ys)) ∧ Below w.heap.size w w' :=
  (sameTexts_q h1 h2).mono fun _ _ ⟨h, q, e⟩ => ⟨h, by rw [e]; exact below_drewN' w q⟩
end Go.Proofs.YtmkhfonafcikdaaGreatDoor
