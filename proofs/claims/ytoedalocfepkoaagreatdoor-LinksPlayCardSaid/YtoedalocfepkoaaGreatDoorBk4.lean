/- A book of lists of bytes: none of them has anything in common with another one. -/
import Derived.Test.YtoedalocfepkoaaGreatDoorBk3
namespace Go.Proofs.YtoedalocfepkoaaGreatDoor
open Go.RowKit Go.My

/-- The kinds of lists that the book does not hold. -/
def NoOther (cs : Array Value) : Prop := ∀ i, 2 ≤ i → i ≤ 12 → cs[i]? = some (.slice none 0 0)

theorem NoOther.cell {cs : Array Value} (h : NoOther cs) {w : World} {g : Tags} {bp : Nat} {hs : List Ent} (hB : Book w g bp cs hs) (i : Nat) (h1 : 2 ≤ i) (h2 : i ≤ 12) : w.cell? ⟨bp, i, none⟩ = some (.slice none 0 0) := (hB.box.cell i).1.trans (h i h1 h2)

theorem filled_grown {w : World} {g : Tags} {hs : List Ent} (h : Filled w g hs hs.length) : GrownTo w g hs 0 := by
  intro j hj
  have := h j hj
  rw [if_pos hj] at this
  rw [if_neg (Nat.not_lt_zero _)]
  exact this

set_option maxRecDepth 100000 in
set_option maxHeartbeats 4000000 in
theorem apart_t {w : World} {g : Tags} {bp : Nat} {cs : Array Value} {hs : List Ent} (hB : Book w g bp cs hs) (hN : NoOther cs) (hF : Filled w g hs 0) {Q : Ending → World → Prop}
    (h : ∀ w' g', Turn w g w' g' (802 :: entTags hs.length) → Q (.returned (.bool true)) w') :
    Calls Tryz.prog 20 #[.pointer (some ⟨bp, 0, none⟩)] w Q := by
  have H := Lib.hid h
  have X0 := Lib.hid (And.intro hB hF)
  have HN := Lib.hid hN
  clear h hB hF hN
  go_enter Tryz.func20, Tryz.ntmps20
  go_wp2_with fail
  refine fill_t X0.out.1 X0.out.2 fun w1 g1 T1 B1 F1 => ?_
  have X1 := Lib.hid (And.intro T1 (And.intro B1 F1))
  clear T1 B1 F1 X0
  go_wp2_with fail
  refine fillLimb_nil rfl (HN.out.cell X1.out.2.1 2 (by decide) (by decide)) ?_
  go_wp2_with fail
  refine fillText_nil rfl (HN.out.cell X1.out.2.1 3 (by decide) (by decide)) ?_
  go_wp2_with fail
  refine fillToken_nil rfl (HN.out.cell X1.out.2.1 4 (by decide) (by decide)) ?_
  go_wp2_with fail
  refine fillNum_nil rfl (HN.out.cell X1.out.2.1 5 (by decide) (by decide)) ?_
  go_wp2_with fail
  refine fillTerm_nil rfl (HN.out.cell X1.out.2.1 6 (by decide) (by decide)) ?_
  go_wp2_with fail
  refine fillFactor_nil rfl (HN.out.cell X1.out.2.1 7 (by decide) (by decide)) ?_
  go_wp2_with fail
  refine fillNode_nil rfl (HN.out.cell X1.out.2.1 8 (by decide) (by decide)) ?_
  go_wp2_with fail
  refine fillFunc_nil rfl (HN.out.cell X1.out.2.1 9 (by decide) (by decide)) ?_
  go_wp2_with fail
  refine fillValue_nil rfl (HN.out.cell X1.out.2.1 10 (by decide) (by decide)) ?_
  go_wp2_with fail
  refine fillInstr_nil rfl (HN.out.cell X1.out.2.1 11 (by decide) (by decide)) ?_
  go_wp2_with fail
  refine fillChunk_nil rfl (HN.out.cell X1.out.2.1 12 (by decide) (by decide)) ?_
  go_wp2_with fail
  refine grow_t X1.out.2.1 (filled_grown X1.out.2.2) fun w2 g2 hs2 T2 B2 L2 G2 => ?_
  have X2 := Lib.hid (And.intro (X1.out.1.trans T2 (V := 802 :: entTags hs.length) (fun _ h => List.mem_cons_of_mem _ h) (fun _ h => h)) (And.intro B2 G2))
  clear T2 B2 G2 L2 X1
  go_wp2_with fail
  refine growLimb_nil rfl (HN.out.cell X2.out.2.1 2 (by decide) (by decide)) ?_
  go_wp2_with fail
  refine growText_nil rfl (HN.out.cell X2.out.2.1 3 (by decide) (by decide)) ?_
  go_wp2_with fail
  refine growToken_nil rfl (HN.out.cell X2.out.2.1 4 (by decide) (by decide)) ?_
  go_wp2_with fail
  refine growNum_nil rfl (HN.out.cell X2.out.2.1 5 (by decide) (by decide)) ?_
  go_wp2_with fail
  refine growTerm_nil rfl (HN.out.cell X2.out.2.1 6 (by decide) (by decide)) ?_
  go_wp2_with fail
  refine growFactor_nil rfl (HN.out.cell X2.out.2.1 7 (by decide) (by decide)) ?_
  go_wp2_with fail
  refine growNode_nil rfl (HN.out.cell X2.out.2.1 8 (by decide) (by decide)) ?_
  go_wp2_with fail
  refine growFunc_nil rfl (HN.out.cell X2.out.2.1 9 (by decide) (by decide)) ?_
  go_wp2_with fail
  refine growValue_nil rfl (HN.out.cell X2.out.2.1 10 (by decide) (by decide)) ?_
  go_wp2_with fail
  refine growInstr_nil rfl (HN.out.cell X2.out.2.1 11 (by decide) (by decide)) ?_
  go_wp2_with fail
  refine growChunk_nil rfl (HN.out.cell X2.out.2.1 12 (by decide) (by decide)) ?_
  go_wp2_with fail
  refine look_t' X2.out.2.1 X2.out.2.2 fun w3 g3 T3 B3 => ?_
  have X3 := Lib.hid (And.intro (X2.out.1.trans T3 (V := 802 :: entTags hs.length) (fun _ h => h) (by simp)) B3)
  clear T3 B3 X2
  go_wp2_with fail
  refine (lookLimb_nil rfl (HN.out.cell X3.out.2 2 (by decide) (by decide))).mono ?_
  rintro e w' ⟨rfl, hw⟩
  obtain rfl : w3 = w' := hw.symm
  go_wp2_with fail
  refine (lookText_nil rfl (HN.out.cell X3.out.2 3 (by decide) (by decide))).mono ?_
  rintro e w' ⟨rfl, hw⟩
  obtain rfl : w3 = w' := hw.symm
  go_wp2_with fail
  refine (lookToken_nil rfl (HN.out.cell X3.out.2 4 (by decide) (by decide))).mono ?_
  rintro e w' ⟨rfl, hw⟩
  obtain rfl : w3 = w' := hw.symm
  go_wp2_with fail
  refine (lookNum_nil rfl (HN.out.cell X3.out.2 5 (by decide) (by decide))).mono ?_
  rintro e w' ⟨rfl, hw⟩
  obtain rfl : w3 = w' := hw.symm
  go_wp2_with fail
  refine (lookTerm_nil rfl (HN.out.cell X3.out.2 6 (by decide) (by decide))).mono ?_
  rintro e w' ⟨rfl, hw⟩
  obtain rfl : w3 = w' := hw.symm
  go_wp2_with fail
  refine (lookFactor_nil rfl (HN.out.cell X3.out.2 7 (by decide) (by decide))).mono ?_
  rintro e w' ⟨rfl, hw⟩
  obtain rfl : w3 = w' := hw.symm
  go_wp2_with fail
  refine (lookNode_nil rfl (HN.out.cell X3.out.2 8 (by decide) (by decide))).mono ?_
  rintro e w' ⟨rfl, hw⟩
  obtain rfl : w3 = w' := hw.symm
  go_wp2_with fail
  refine (lookFunc_nil rfl (HN.out.cell X3.out.2 9 (by decide) (by decide))).mono ?_
  rintro e w' ⟨rfl, hw⟩
  obtain rfl : w3 = w' := hw.symm
  go_wp2_with fail
  refine (lookValue_nil rfl (HN.out.cell X3.out.2 10 (by decide) (by decide))).mono ?_
  rintro e w' ⟨rfl, hw⟩
  obtain rfl : w3 = w' := hw.symm
  go_wp2_with fail
  refine (lookInstr_nil rfl (HN.out.cell X3.out.2 11 (by decide) (by decide))).mono ?_
  rintro e w' ⟨rfl, hw⟩
  obtain rfl : w3 = w' := hw.symm
  go_wp2_with fail
  refine (lookChunk_nil rfl (HN.out.cell X3.out.2 12 (by decide) (by decide))).mono ?_
  rintro e w' ⟨rfl, hw⟩
  obtain rfl : w3 = w' := hw.symm
  go_wp2_with fail
  exact H.out _ g3 X3.out.1
end Go.Proofs.YtoedalocfepkoaaGreatDoor