/- The document's scopes: is a name a letter's; is a text in a list. -/
import Derived.Test.YtmkhfonafcikdaaGreatDoorTrC1
import Derived.Test.YtmkhfonafcikdaaGreatDoorTrC2
import Derived.IntWalk
namespace Go.Proofs.YtmkhfonafcikdaaGreatDoor
open Go.RowKit Go.My Go.Nd

theorem bsT (l : Tx) : (bs l).toList = l := by rw [ByteArray.toList_eq]; simp [bs]
theorem beq_tx (s t : Tx) : ((bs s).toList == (bs t).toList) = (s == t) := by rw [bsT, bsT]

set_option maxRecDepth 100000 in
set_option maxHeartbeats 2000000 in
theorem rletter_t {w : World} (s : Tx) : Calls Tryz.prog 42 #[.string (bs s)] w fun e w' => e = .returned (.bool (Go.Nd.letters.contains s)) ∧ Below w.heap.size w w' := by
  have hT := bsT s
  go_enter Tryz.func42, Tryz.ntmps42
  by_cases h1 : s = [120]
  · subst h1
    go_wp2_with fail
    go_ret
    exact ⟨rfl, Below.refl _ _⟩
  · by_cases h2 : s = [121]
    · subst h2
      go_wp2_with fail
      go_ret
      exact ⟨rfl, Below.refl _ _⟩
    · by_cases h3 : s = [122]
      · subst h3
        go_wp2_with fail
        go_ret
        exact ⟨rfl, Below.refl _ _⟩
      · by_cases h4 : s = [116]
        · subst h4
          go_wp2_with fail
          go_ret
          exact ⟨rfl, Below.refl _ _⟩
        · have HL := Lib.hid (show Go.Nd.letters.contains s = false by unfold Go.Nd.letters; simp [h1, h2, h3, h4])
          go_wp2_with fail
          go_ret
          exact ⟨by rw [HL.out]; simp [h1, h2, h3, h4], Below.refl _ _⟩

def InAt (w : World) (ts : List Tx) (s : Tx) (gk : Nat) (v5 : Value) (wr : World) : Prop :=
  ∃ i, i ≤ ts.length ∧ gk = ts.length - i ∧ v5 = .int .i64 (i : Int) ∧ (∀ j (h : j < i) (h' : j < ts.length), ts[j] ≠ s) ∧ Below w.heap.size w wr

set_option maxRecDepth 100000 in
set_option maxHeartbeats 2000000 in
theorem rin_t {w : World} {S : Nat → Prop} {tw : Bool} {v : Value} {ts : List Tx} (h : TextsIn w S tw v ts) (s : Tx) : Calls Tryz.prog 43 #[v, .string (bs s)] w fun e w' => e = .returned (.bool (ts.contains s)) ∧ Below w.heap.size w w' := by
  obtain ⟨a, c, rfl, h1, h2, h3, _, hc⟩ := h
  have HC := Lib.hid hc
  have l0 : (0 : Int) ≤ (ts.length : Int) := by omega
  have l1 : (ts.length : Int) ≤ 140737488351232 := by omega
  clear hc h1 h2 h3
  go_enter Tryz.func43, Tryz.ntmps43
  go_wp2_with fail
  go_loopg [5] ts.length (fun gk v5 wr => InAt w ts s gk v5 wr)
  case atStart => exact ⟨0, Nat.zero_le _, rfl, rfl, fun j h => absurd h (Nat.not_lt_zero _), Below.refl _ _⟩
  case round =>
    obtain ⟨i, hi, rfl, rfl, hne, hb⟩ := hrel
    have i0 : (0 : Int) ≤ (i : Int) := by omega
    have K := Lib.hid hb
    by_cases hlt : i < ts.length
    · have i1 : (i : Int) < (ts.length : Int) := by omega
      obtain ⟨b, off, e, hS, hcell, _⟩ := HC.out i hlt
      cases e
      have hcell' := (World.cell?_of_block (hb.block b (World.block_lt_of_cell? _ _ hcell))).trans hcell
      obtain ⟨x, hx⟩ : ∃ x, x = ts[i] := ⟨_, rfl⟩
      rw [← hx] at hcell'
      have hq := beq_tx x s
      have HX := Lib.hid (And.intro hlt (And.intro hx hne))
      have HLT := Lib.hid hlt
      clear hb hcell hne
      by_cases he : x = s
      · have HE := Lib.hid he
        clear hx hq
        subst he
        have hT1 : (tx x).toList = x := bsT x
        have hT2 := bsT x
        go_wp2_with fail
        go_ret
        refine ⟨?_, K.out⟩
        have : ts.contains x = true := by simp only [List.contains_iff_mem]; rw [HX.out.2.1]; exact List.getElem_mem _
        have hm : x ∈ ts := by simpa using this
        simp [hm]
      · have HE := Lib.hid he
        have hT1 : (tx x).toList = x := bsT x
        have hT2 := bsT s
        have hb2 : (x == s) = false := beq_eq_false_iff_ne.2 he
        have hb3 : ((tx x).toList == s) = false := by rw [hT1]; exact hb2
        clear hx hq
        go_wp2_with fail
        go_roundg (ts.length - (i + 1))
        case measure => have := HX.out.1; omega
        case rel => exact ⟨i + 1, HX.out.1, rfl, by go_num, fun j h h' => by
          by_cases hj : j = i
          · subst hj; rw [← HX.out.2.1]; exact HE.out
          · exact HX.out.2.2 j (by omega) h', K.out⟩
    · obtain rfl : i = ts.length := by omega
      have HN := Lib.hid hne
      clear hb hne hlt hi
      go_wp2_with fail
      go_ret
      refine ⟨?_, K.out⟩
      have : ts.contains s = false := by
        cases hc : ts.contains s with
        | false => rfl
        | true =>
          simp only [List.contains_iff_mem] at hc
          obtain ⟨j, hj, e⟩ := List.getElem_of_mem hc
          exact absurd e (HN.out j hj hj)
      have hm : ¬ s ∈ ts := fun h => by rw [List.contains_iff_mem.2 h] at this; cases this
      simp [hm]
end Go.Proofs.YtmkhfonafcikdaaGreatDoor
