/- A book of lists of the kind Token alone: one more list; none has anything in common with another one. -/
import Derived.Test.YtcldcigopkfmmaaGreatDoorGkTokenB
import Derived.Test.YtcldcigopkfmmaaGreatDoorBkNil
namespace Go.Proofs.YtcldcigopkfmmaaGreatDoor
open Go.RowKit Go.My

def Away (w : World) (g : Tags) (w' : World) (g' : Tags) : Prop := ∃ T, Turn w g w' g' T ∧ 0 ∉ T
theorem Away.refl (w : World) (g : Tags) : Away w g w g := ⟨[], Turn.refl _ _ _, by simp⟩
theorem Away.step {w w1 w2 : World} {g g1 g2 : Tags} {T : List Nat} (h : Away w g w1 g1) (k : Turn w1 g1 w2 g2 T) (h0 : 0 ∉ T) : Away w g w2 g2 := by
  obtain ⟨V, h1, h2⟩ := h
  exact ⟨V ++ T, h1.trans k (V := V ++ T) (fun _ h => List.mem_append_left _ h) (fun _ h => List.mem_append_right _ h), fun h => (List.mem_append.1 h).elim h2 h0⟩
theorem Away.below {w0 w w' : World} {g g' : Tags} (h : Away w g w' g') (hs : Since w0 w g) : Since w0 w' g' := by
  obtain ⟨T, h1, h2⟩ := h
  exact hs.turn h1 h2
theorem zero_arr (κ : Kd) (m : Nat) : 0 ∉ arrTag κ :: entTags κ m := by
  intro h
  rcases List.mem_cons.1 h with h | h
  · unfold arrTag at h; omega
  · exact not_low _ _ _ (by decide) h

/-- The book holds these lists, and no others; all of them the call's own. -/
structure Bk1 (w : World) (g : Tags) (bp tot : Nat) (cs : Array Value) (hs : List Ent) : Prop where
  b : Book kToken w g bp cs hs
  num : cs[0]? = some (.int .i64 (tot : Int))
  none_ : ∀ i, i ≠ 0 → i ≠ 4 → i ≤ 12 → cs[i]? = some (.slice none 0 0)
  len : hs.length ≤ tot
  own : Filled kToken w g hs 0
theorem Bk1.cell {w : World} {g : Tags} {bp : Nat} {cs : Array Value} {hs : List Ent} (hN : ∀ i, i ≠ 0 → i ≠ 4 → i ≤ 12 → cs[i]? = some (.slice none 0 0)) (h : Book kToken w g bp cs hs) (i : Nat) (h0 : i ≠ 0) (h1 : i ≠ 4) (h2 : i ≤ 12) : w.cell? ⟨bp, i, none⟩ = some (.slice none 0 0) := (h.box.cell i).1.trans (hN i h0 h1 h2)
theorem Bk1.turn {w w' : World} {g g' : Tags} {T : List Nat} {bp tot : Nat} {cs : Array Value} {hs : List Ent} (h : Bk1 w g bp tot cs hs) (k : Turn w g w' g' T) (h0 : 0 ∉ T) (h1 : 801 ∉ T) (h2 : arrTag kToken ∉ T) (h3 : ∀ j, entTag kToken j ∉ T) : Bk1 w' g' bp tot cs hs :=
  ⟨h.b.turn k h0 h1 h2, h.num, h.none_, h.len, h.own.turn k h3⟩
theorem filled_snoc {κ : Kd} {w : World} {g : Tags} {hs : List Ent} (h : Filled κ w g hs 0) {x : Ent} {xs : List Value} (hx : Owns w g (entTag κ hs.length) κ.et κ.size x.v x.n xs) : Filled κ w g (hs ++ [x]) 0 := by
  intro j hj
  rw [if_neg (Nat.not_lt_zero _)]
  by_cases hlt : j < hs.length
  · have := h j hlt
    rw [if_neg (Nat.not_lt_zero _)] at this
    rw [List.getElem_append_left hlt]
    exact this
  · have hj' : j = hs.length := by rw [List.length_append] at hj; simp at hj; omega
    subst hj'
    rw [List.getElem_append_right (Nat.le_refl _)]
    simp only [Nat.sub_self, List.getElem_singleton]
    exact ⟨xs, hx⟩

/-- A list is told. -/
theorem list_add {w : World} {g : Tags} {bp tot : Nat} {cs : Array Value} {hs : List Ent} (hB : Bk1 w g bp tot cs hs) (ht : tot < 1000000000) (va : Option Addr) (n vc : Nat) (hn : n ≤ 1000000000) {xs : List Value} (hO : Owns w g (entTag kToken hs.length) kToken.et kToken.size (.slice va n vc) n xs) {Q : Ending → World → Prop}
    (h : ∀ w' g' cs', Turn w g w' g' [801, arrTag kToken] → Bk1 w' g' bp (tot + 1) cs' (hs ++ [⟨va, n, vc, none, 0, 0, tot + 1⟩]) → Q (.returned (.tuple #[])) w') :
    Calls Tryz.prog 8 #[.pointer (some ⟨bp, 0, none⟩), .slice va n vc] w Q := by
  have H := Lib.hid h
  have X := Lib.hid (And.intro hB (And.intro ht (And.intro hn hO)))
  clear h hB ht hn hO
  go_enter Tryz.func8, Tryz.ntmps8
  go_wp2_with fail
  refine keep_Token X.out.1.b X.out.1.num X.out.2.1 (by have := X.out.1.len; have := X.out.2.1; omega) va n vc X.out.2.2.1 fun w' g' cs' T B c0 N => ?_
  have hE : ∀ j, entTag kToken j ∉ [801, arrTag kToken] := fun j => by unfold entTag arrTag; simp [kToken]; omega
  have X2 := Lib.hid (And.intro T (show Bk1 w' g' bp (tot + 1) cs' (hs ++ [⟨va, n, vc, none, 0, 0, tot + 1⟩]) from
    ⟨B, c0, (fun i i0 i3 i12 => (N i i0 i3).trans (X.out.1.none_ i i0 i3 i12)), by have := X.out.1.len; rw [List.length_append, List.length_singleton]; omega, filled_snoc (X.out.1.own.turn T hE) (X.out.2.2.2.turn T (hE _))⟩))
  clear T B c0 N hE
  go_wp2_with fail
  go_end0
  exact H.out w' g' cs' X2.out.1 X2.out.2

theorem bk1_new (w : World) (g : Tags) (hT : Tab w g) : Bk1 (w.alloc (.cells #[.int .i64 0, .slice none 0 0, .slice none 0 0, .slice none 0 0, .slice none 0 0, .slice none 0 0, .slice none 0 0, .slice none 0 0, .slice none 0 0, .slice none 0 0, .slice none 0 0, .slice none 0 0, .slice none 0 0] 40)) (g.ext w.heap.size 801) w.heap.size 0 #[.int .i64 0, .slice none 0 0, .slice none 0 0, .slice none 0 0, .slice none 0 0, .slice none 0 0, .slice none 0 0, .slice none 0 0, .slice none 0 0, .slice none 0 0, .slice none 0 0, .slice none 0 0, .slice none 0 0] [] := by
  have b := Bx.alloc w g 40 801 #[.int .i64 0, .slice none 0 0, .slice none 0 0, .slice none 0 0, .slice none 0 0, .slice none 0 0, .slice none 0 0, .slice none 0 0, .slice none 0 0, .slice none 0 0, .slice none 0 0, .slice none 0 0, .slice none 0 0]
  have t := hT.turn (Turn.alloc w g 801 (.cells #[.int .i64 0, .slice none 0 0, .slice none 0 0, .slice none 0 0, .slice none 0 0, .slice none 0 0, .slice none 0 0, .slice none 0 0, .slice none 0 0, .slice none 0 0, .slice none 0 0, .slice none 0 0, .slice none 0 0] 40)) (by simp)
  refine ⟨⟨b, ⟨_, rfl, Owns.nil _ _ _ _ _⟩, Nat.zero_le _, (fun x hx => by cases hx), t⟩, rfl, fun i h0 h1 h2 => ?_, Nat.le_refl _, fun j hj => absurd hj (Nat.not_lt_zero _)⟩
  obtain rfl | rfl | rfl | rfl | rfl | rfl | rfl | rfl | rfl | rfl | rfl : i = 1 ∨ i = 2 ∨ i = 3 ∨ i = 5 ∨ i = 6 ∨ i = 7 ∨ i = 8 ∨ i = 9 ∨ i = 10 ∨ i = 11 ∨ i = 12 := by omega
  all_goals rfl

set_option maxRecDepth 100000 in
set_option maxHeartbeats 4000000 in
theorem apart1_t {w : World} {g : Tags} {bp tot : Nat} {cs : Array Value} {hs : List Ent} (hB : Bk1 w g bp tot cs hs) {Q : Ending → World → Prop} (h : ∀ w' g', Away w g w' g' → Q (.returned (.bool true)) w') :
    Calls Tryz.prog 9 #[.pointer (some ⟨bp, 0, none⟩)] w Q := by
  have H := Lib.hid h
  have A0 := Lib.hid (Away.refl w g)
  have B0 := Lib.hid hB.b
  have F0 := Lib.hid hB.own
  have HO := Lib.hid hB.none_
  clear h hB
  go_enter Tryz.func9, Tryz.ntmps9
  go_wp2_with fail
  refine fillByte_nil rfl (Bk1.cell HO.out B0.out 1 (by decide) (by decide) (by decide)) ?_
  go_wp2_with fail
  refine fillLimb_nil rfl (Bk1.cell HO.out B0.out 2 (by decide) (by decide) (by decide)) ?_
  go_wp2_with fail
  refine fillText_nil rfl (Bk1.cell HO.out B0.out 3 (by decide) (by decide) (by decide)) ?_
  go_wp2_with fail
  refine fill_Token B0.out F0.out fun w1 g1 T B F => ?_
  have A1 := Lib.hid (A0.out.step T (not_low _ _ _ (by decide)))
  have B1 := Lib.hid B
  have F1 := Lib.hid F
  clear T B F A0 B0 F0
  go_wp2_with fail
  refine fillNum_nil rfl (Bk1.cell HO.out B1.out 5 (by decide) (by decide) (by decide)) ?_
  go_wp2_with fail
  refine fillTerm_nil rfl (Bk1.cell HO.out B1.out 6 (by decide) (by decide) (by decide)) ?_
  go_wp2_with fail
  refine fillFactor_nil rfl (Bk1.cell HO.out B1.out 7 (by decide) (by decide) (by decide)) ?_
  go_wp2_with fail
  refine fillNode_nil rfl (Bk1.cell HO.out B1.out 8 (by decide) (by decide) (by decide)) ?_
  go_wp2_with fail
  refine fillFunc_nil rfl (Bk1.cell HO.out B1.out 9 (by decide) (by decide) (by decide)) ?_
  go_wp2_with fail
  refine fillValue_nil rfl (Bk1.cell HO.out B1.out 10 (by decide) (by decide) (by decide)) ?_
  go_wp2_with fail
  refine fillInstr_nil rfl (Bk1.cell HO.out B1.out 11 (by decide) (by decide) (by decide)) ?_
  go_wp2_with fail
  refine fillChunk_nil rfl (Bk1.cell HO.out B1.out 12 (by decide) (by decide) (by decide)) ?_
  go_wp2_with fail
  refine growByte_nil rfl (Bk1.cell HO.out B1.out 1 (by decide) (by decide) (by decide)) ?_
  go_wp2_with fail
  refine growLimb_nil rfl (Bk1.cell HO.out B1.out 2 (by decide) (by decide) (by decide)) ?_
  go_wp2_with fail
  refine growText_nil rfl (Bk1.cell HO.out B1.out 3 (by decide) (by decide) (by decide)) ?_
  go_wp2_with fail
  refine grow_Token B1.out F1.out.grown fun w2 g2 hs' T B L F => ?_
  have A2 := Lib.hid (A1.out.step T (zero_arr _ _))
  have B2 := Lib.hid B
  have F2 := Lib.hid F
  clear T B F L A1 B1 F1
  go_wp2_with fail
  refine growNum_nil rfl (Bk1.cell HO.out B2.out 5 (by decide) (by decide) (by decide)) ?_
  go_wp2_with fail
  refine growTerm_nil rfl (Bk1.cell HO.out B2.out 6 (by decide) (by decide) (by decide)) ?_
  go_wp2_with fail
  refine growFactor_nil rfl (Bk1.cell HO.out B2.out 7 (by decide) (by decide) (by decide)) ?_
  go_wp2_with fail
  refine growNode_nil rfl (Bk1.cell HO.out B2.out 8 (by decide) (by decide) (by decide)) ?_
  go_wp2_with fail
  refine growFunc_nil rfl (Bk1.cell HO.out B2.out 9 (by decide) (by decide) (by decide)) ?_
  go_wp2_with fail
  refine growValue_nil rfl (Bk1.cell HO.out B2.out 10 (by decide) (by decide) (by decide)) ?_
  go_wp2_with fail
  refine growInstr_nil rfl (Bk1.cell HO.out B2.out 11 (by decide) (by decide) (by decide)) ?_
  go_wp2_with fail
  refine growChunk_nil rfl (Bk1.cell HO.out B2.out 12 (by decide) (by decide) (by decide)) ?_
  go_wp2_with fail
  refine (lookByte_nil rfl (Bk1.cell HO.out B2.out 1 (by decide) (by decide) (by decide))).mono ?_
  rintro e w' ⟨rfl, hw⟩
  obtain rfl : w2 = w' := hw.symm
  go_wp2_with fail
  refine (lookLimb_nil rfl (Bk1.cell HO.out B2.out 2 (by decide) (by decide) (by decide))).mono ?_
  rintro e w' ⟨rfl, hw⟩
  obtain rfl : w2 = w' := hw.symm
  go_wp2_with fail
  refine (lookText_nil rfl (Bk1.cell HO.out B2.out 3 (by decide) (by decide) (by decide))).mono ?_
  rintro e w' ⟨rfl, hw⟩
  obtain rfl : w2 = w' := hw.symm
  go_wp2_with fail
  refine look_Token B2.out F2.out fun w3 g3 T B => ?_
  have A3 := Lib.hid (A2.out.step T (by simp))
  have B3 := Lib.hid B
  have F3 := Lib.hid (F2.out.turn T (fun _ => by simp))
  clear T B A2 B2 F2
  go_wp2_with fail
  refine (lookNum_nil rfl (Bk1.cell HO.out B3.out 5 (by decide) (by decide) (by decide))).mono ?_
  rintro e w' ⟨rfl, hw⟩
  obtain rfl : w3 = w' := hw.symm
  go_wp2_with fail
  refine (lookTerm_nil rfl (Bk1.cell HO.out B3.out 6 (by decide) (by decide) (by decide))).mono ?_
  rintro e w' ⟨rfl, hw⟩
  obtain rfl : w3 = w' := hw.symm
  go_wp2_with fail
  refine (lookFactor_nil rfl (Bk1.cell HO.out B3.out 7 (by decide) (by decide) (by decide))).mono ?_
  rintro e w' ⟨rfl, hw⟩
  obtain rfl : w3 = w' := hw.symm
  go_wp2_with fail
  refine (lookNode_nil rfl (Bk1.cell HO.out B3.out 8 (by decide) (by decide) (by decide))).mono ?_
  rintro e w' ⟨rfl, hw⟩
  obtain rfl : w3 = w' := hw.symm
  go_wp2_with fail
  refine (lookFunc_nil rfl (Bk1.cell HO.out B3.out 9 (by decide) (by decide) (by decide))).mono ?_
  rintro e w' ⟨rfl, hw⟩
  obtain rfl : w3 = w' := hw.symm
  go_wp2_with fail
  refine (lookValue_nil rfl (Bk1.cell HO.out B3.out 10 (by decide) (by decide) (by decide))).mono ?_
  rintro e w' ⟨rfl, hw⟩
  obtain rfl : w3 = w' := hw.symm
  go_wp2_with fail
  refine (lookInstr_nil rfl (Bk1.cell HO.out B3.out 11 (by decide) (by decide) (by decide))).mono ?_
  rintro e w' ⟨rfl, hw⟩
  obtain rfl : w3 = w' := hw.symm
  go_wp2_with fail
  refine (lookChunk_nil rfl (Bk1.cell HO.out B3.out 12 (by decide) (by decide) (by decide))).mono ?_
  rintro e w' ⟨rfl, hw⟩
  obtain rfl : w3 = w' := hw.symm
  go_wp2_with fail
  exact H.out _ _ A3.out
end Go.Proofs.YtcldcigopkfmmaaGreatDoor
