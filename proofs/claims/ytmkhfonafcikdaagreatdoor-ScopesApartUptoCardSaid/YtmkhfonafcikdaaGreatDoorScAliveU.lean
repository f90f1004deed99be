/- Scopes: the laws' fixed answers. -/
import Derived.Test.YtmkhfonafcikdaaGreatDoorScAlU
namespace Go.Proofs.YtmkhfonafcikdaaGreatDoor
open Go.RowKit Go.My Go.Nd

/-- A list of texts, written as a literal. -/
theorem texts_lit {w : World} (o : Array Value) (T : TypeId) (L : List Tx) (ho : o = (L.map fun s => Value.string (tx s)).toArray) (hl : ∀ s ∈ L, s.length ≤ 140737488351232) (hn : L.length ≤ 1000000) :
    TextsIn (w.alloc (.cells o T)) (· < w.heap.size + 1) false (.slice (some ⟨w.heap.size, 0, none⟩) L.length L.length) L := by
  refine ⟨_, _, rfl, Nat.le_refl _, by unfold maxLen; omega, by omega, (fun e => by cases e), fun i hi => ⟨w.heap.size, 0, rfl, Nat.lt_succ_self _, ?_, hl _ (List.getElem_mem hi)⟩⟩
  rw [cell_of_row _ _ _ _ _ _ (heap_alloc_new w _), ho]
  simp [hi]

def txA : Tx := [102, 110, 32, 102, 40, 98, 44, 32, 97, 41, 32, 123, 32, 99, 32, 61, 32, 97, 59, 32, 98, 32, 61, 32, 49, 59, 32, 125, 32, 100, 32, 61, 32, 49, 59]
structure AliveA (p : Pr) : Prop where
  l0 : locals wrapI p 0 = [[98], [97], [99]]
  l1 : locals wrapI p (-1) = [[100]]
  l2 : locals wrapI p 1 = []
theorem aliveA : (parse wrapI txA).2.2 = 0 ∧ AliveA (parse wrapI txA).1 := ⟨by kernel_rfl, by kernel_rfl, by kernel_rfl, by kernel_rfl⟩
theorem chk0 : Chk [97, 32, 61, 32, 49, 59, 32, 116, 101, 108, 108, 32, 97, 32, 43, 32, 120, 59] 0 := ⟨by kernel_rfl, by kernel_rfl, by decide⟩
theorem chk1 : Chk [116, 101, 108, 108, 32, 97, 59] 7 := ⟨by kernel_rfl, by kernel_rfl, by decide⟩
theorem chk2 : Chk [105, 102, 32, 48, 32, 123, 32, 97, 32, 61, 32, 49, 59, 32, 125, 32, 116, 101, 108, 108, 32, 97, 59] 0 := ⟨by kernel_rfl, by kernel_rfl, by decide⟩
theorem chk3 : Chk [102, 110, 32, 102, 40, 97, 41, 32, 123, 32, 114, 101, 116, 117, 114, 110, 32, 97, 59, 32, 125, 32, 116, 101, 108, 108, 32, 102, 40, 49, 44, 32, 50, 41, 59] 7 := ⟨by kernel_rfl, by kernel_rfl, by decide⟩
theorem chk4 : Chk [102, 110, 32, 120, 40, 41, 32, 123, 32, 125] 7 := ⟨by kernel_rfl, by kernel_rfl, by decide⟩
theorem chk5 : Chk [102, 110, 32, 102, 40, 97, 44, 32, 97, 41, 32, 123, 32, 125] 7 := ⟨by kernel_rfl, by kernel_rfl, by decide⟩
theorem chk6 : Chk [116, 101, 108, 108, 32, 103, 99, 100, 40, 120, 41, 59] 7 := ⟨by kernel_rfl, by kernel_rfl, by decide⟩

set_option maxRecDepth 100000 in
set_option maxHeartbeats 8000000 in
theorem alive11_t {w : World} : Calls Tryz.prog 23 #[] w fun e w' => e = .returned (.bool true) ∧ Below w.heap.size w w' := by
  go_enter Tryz.func23, Tryz.ntmps23
  go_wp2_with fail
  refine (parse_t (w := w) txA).mono ?_
  rintro e w1 ⟨hb1, pv, rfl, hP⟩
  rw [aliveA.1]
  obtain ⟨pl, hpl⟩ : ∃ pl : Nat, pl = (parse wrapI txA).2.1 := ⟨_, rfl⟩
  rw [← hpl]
  clear hpl
  have hbk := parse_bulk wrapI txA
  have his := aliveA.2
  obtain ⟨p, hp⟩ : ∃ p, p = (parse wrapI txA).1 := ⟨_, rfl⟩
  rw [← hp] at hP hbk his
  clear hp
  obtain ⟨a1, d1, a2, d2, rfl, X⟩ := PB.of (Below.refl _ w) hb1 hP
  obtain ⟨b4, hb4⟩ : ∃ b4, b4 = w1.heap.size := ⟨_, rfl⟩
  obtain ⟨w2, hw2⟩ : ∃ w2, w2 = w1.alloc (.cells #[.slice a1 p.funcs.length d1, .slice a2 p.body.len d2] 25) := ⟨_, rfl⟩
  rw [← hw2, ← hb4] at X
  have HX := Lib.hid X
  have HI := Lib.hid (And.intro his (small_of_psz (p := p) (by have : txA.length = 35 := rfl; omega)))
  clear hb1 hP X his hbk
  go_upto_region 2 with fail
  rw [← hw2, ← hb4]
  clear hw2 hb4
  have UP := Lib.hid (fun (W : World) (h : Below w2.heap.size w2 W) => show W.cell? ⟨b4, 0, none⟩ = some (.slice a1 p.funcs.length d1) ∧ W.cell? ⟨b4, 1, none⟩ = some (.slice a2 p.body.len d2) ∧ w2.heap.size ≤ W.heap.size ∧ FuncsIn W (· < w2.heap.size) false (.slice a1 p.funcs.length d1) p.funcs ∧ Nodes W (· < w2.heap.size) false (.slice a2 p.body.len d2) p.body from
    ⟨(World.cell?_of_block (h.block _ (World.block_lt_of_cell? _ _ HX.out.cells.1))).trans HX.out.cells.1, (World.cell?_of_block (h.block _ (World.block_lt_of_cell? _ _ HX.out.cells.2))).trans HX.out.cells.2, h.size,
      FuncsIn.below (FuncsIn.mono HX.out.funcs fun b hb _ => hb) h, Nodes.below (Nodes.mono HX.out.nodes fun b hb _ => hb) h⟩)
  go_wp2_with fail
  refine (lib_t [114, 101, 115] (by decide)).mono ?_
  rintro e w3 ⟨rfl, hb3⟩
  have B3 := Lib.hid hb3
  clear hb3
  rw [show libOf [114, 101, 115] = some 3 from rfl]
  go_wp2_with fail
  refine (lib_t [102] (by decide)).mono ?_
  rintro e w4 ⟨rfl, hb4⟩
  have B4 := Lib.hid (B3.out.trans (hb4.mono B3.out.size))
  clear hb4 B3
  rw [show libOf [102] = none from rfl]
  simp only [Option.isSome_none, Option.getD_none]
  obtain ⟨p0, p1, _⟩ := UP.out w4 B4.out

  go_wp2_with fail
  refine slocals_t (UP.out _ B4.out).2.2.1 (UP.out _ B4.out).2.2.2.1 (UP.out _ B4.out).2.2.2.2 HI.out.2 0 fun v5 w5 g5 S5 O5 L5 => ?_
  rw [HI.out.1.l0] at O5 L5
  obtain ⟨a5, c5, rfl⟩ := O5.form
  have B5 := Lib.hid (B4.out.trans (S5.below.mono B4.out.size))
  have TA5 := Turn.alloc w5 g5 9 (.cells #[.string ⟨#[98]⟩, .string ⟨#[97]⟩, .string ⟨#[99]⟩] 9)
  have X5 := Lib.hid (And.intro (texts_of_owns (O5.turn TA5 (by simp)) L5 (by decide)) (texts_lit (w := w5) #[.string ⟨#[98]⟩, .string ⟨#[97]⟩, .string ⟨#[99]⟩] 9 [[98], [97], [99]] rfl (by decide) (by decide)))
  have hbA5 := Below.alloc (Below.refl w5.heap.size w5) (Nat.le_refl _) (.cells #[.string ⟨#[98]⟩, .string ⟨#[97]⟩, .string ⟨#[99]⟩] 9)
  have B6 := Lib.hid (B5.out.trans (hbA5.mono B5.out.size))
  clear S5 O5 L5 TA5 hbA5 p0 p1
  go_wp2_with fail
  refine (sameTexts_t X5.out.1 X5.out.2).mono ?_
  rintro e w7 ⟨rfl, hb7⟩
  have B7 := Lib.hid (B6.out.trans (hb7.mono B6.out.size))
  clear hb7
  rw [show (([[98], [97], [99]] : List Tx) == [[98], [97], [99]]) = true from by decide]
  obtain ⟨p0, p1, _⟩ := UP.out w7 B7.out
  go_wp2_with fail
  refine slocals_t (UP.out _ B7.out).2.2.1 (UP.out _ B7.out).2.2.2.1 (UP.out _ B7.out).2.2.2.2 HI.out.2 (-1) fun v8 w8 g8 S8 O8 L8 => ?_
  rw [HI.out.1.l1] at O8 L8
  obtain ⟨a8, c8, rfl⟩ := O8.form
  have B8 := Lib.hid (B7.out.trans (S8.below.mono B7.out.size))
  have TA8 := Turn.alloc w8 g8 9 (.cells #[.string ⟨#[100]⟩] 9)
  have X8 := Lib.hid (And.intro (texts_of_owns (O8.turn TA8 (by simp)) L8 (by decide)) (texts_lit (w := w8) #[.string ⟨#[100]⟩] 9 [[100]] rfl (by decide) (by decide)))
  have hbA8 := Below.alloc (Below.refl w8.heap.size w8) (Nat.le_refl _) (.cells #[.string ⟨#[100]⟩] 9)
  have B9 := Lib.hid (B8.out.trans (hbA8.mono B8.out.size))
  clear S8 O8 L8 TA8 hbA8 p0 p1
  go_wp2_with fail
  refine (sameTexts_t X8.out.1 X8.out.2).mono ?_
  rintro e w10 ⟨rfl, hb10⟩
  have B10 := Lib.hid (B9.out.trans (hb10.mono B9.out.size))
  clear hb10
  rw [show (([[100]] : List Tx) == [[100]]) = true from by decide]
  obtain ⟨p0, p1, _⟩ := UP.out w10 B10.out
  go_wp2_with fail
  refine slocals_t (UP.out _ B10.out).2.2.1 (UP.out _ B10.out).2.2.2.1 (UP.out _ B10.out).2.2.2.2 HI.out.2 1 fun v11 w11 g11 S11 O11 L11 => ?_
  rw [HI.out.1.l2] at O11 L11
  obtain ⟨a11, c11, rfl⟩ := O11.form
  have B11 := Lib.hid (B10.out.trans (S11.below.mono B10.out.size))
  clear S11 O11 L11 p0 p1
  go_wp2_with fail
  refine (chk_t (w := w11) chk0).mono ?_
  rintro e w12 ⟨rfl, hb12⟩
  have B12 := Lib.hid (B11.out.trans (hb12.mono B11.out.size))
  clear hb12
  go_wp2_with fail
  refine (chk_t (w := w12) chk1).mono ?_
  rintro e w13 ⟨rfl, hb13⟩
  have B13 := Lib.hid (B12.out.trans (hb13.mono B12.out.size))
  clear hb13
  go_wp2_with fail
  refine (chk_t (w := w13) chk2).mono ?_
  rintro e w14 ⟨rfl, hb14⟩
  have B14 := Lib.hid (B13.out.trans (hb14.mono B13.out.size))
  clear hb14
  go_wp2_with fail
  refine (chk_t (w := w14) chk3).mono ?_
  rintro e w15 ⟨rfl, hb15⟩
  have B15 := Lib.hid (B14.out.trans (hb15.mono B14.out.size))
  clear hb15
  go_wp2_with fail
  refine (chk_t (w := w15) chk4).mono ?_
  rintro e w16 ⟨rfl, hb16⟩
  have B16 := Lib.hid (B15.out.trans (hb16.mono B15.out.size))
  clear hb16
  go_wp2_with fail
  refine (chk_t (w := w16) chk5).mono ?_
  rintro e w17 ⟨rfl, hb17⟩
  have B17 := Lib.hid (B16.out.trans (hb17.mono B16.out.size))
  clear hb17
  go_wp2_with fail
  refine (chk_t (w := w17) chk6).mono ?_
  rintro e w18 ⟨rfl, hb18⟩
  have B18 := Lib.hid (B17.out.trans (hb18.mono B17.out.size))
  clear hb18
  go_wp2_with fail
  go_ret
  exact ⟨by simp, HX.out.below.trans (B18.out.mono HX.out.below.size)⟩
end Go.Proofs.YtmkhfonafcikdaaGreatDoor
