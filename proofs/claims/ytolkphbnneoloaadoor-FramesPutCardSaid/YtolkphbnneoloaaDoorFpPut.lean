/- Frames: the walk of FramesPut. -/
import Derived.Test.YtolkphbnneoloaaDoorFpRef
import Derived.Test.YtolkphbnneoloaaDoorBk5
namespace Go.Proofs.YtolkphbnneoloaaDoor
open Go.RowKit Go.My


set_option maxRecDepth 100000 in
set_option maxHeartbeats 8000000 in
theorem fput_t {w : World} {v : Value} {l : List UInt8} (hv : Bytes w (fun _ => 0) 0 v l) {Q : Ending → World → Prop} (h : ∀ w', Below w.heap.size w w' → Q (.returned (.bool true)) w') :
    Calls Tryd.prog 3 #[v] w Q := by
  obtain ⟨ao, cp, rfl, h1, h2, _, _⟩ := BytesIn.open_ hv
  have H := Lib.hid h
  have HV := Lib.hid hv
  have l0 : (0 : Int) ≤ (l.length : Int) := by omega
  have l9 : (l.length : Int) ≤ 9223372036854775807 := by unfold maxLen at h2; omega
  clear h hv h1 h2
  by_cases hg : 70000 < l.length
  · have l1 : (70000 : Int) < (l.length : Int) := by omega
    clear hg
    go_enter Tryd.func3, Tryd.ntmps3
    go_wp2_with fail
    exact H.out _ (Below.refl _ _)
  · have l1 : (l.length : Int) ≤ 70000 := by omega
    have hl7 : l.length ≤ 70000 := by omega
    have HL := Lib.hid hl7
    clear hg hl7
    by_cases hs : 65536 < l.length
    · have HS := Lib.hid hs
      clear hs
      go_enter Tryd.func3, Tryd.ntmps3
      go_wp2_with fail
      refine twin_t (g := fun _ => 0) 1000 HV.out (by have := HL.out; omega) (by decide) (by decide) fun b1 o1 c1 w1 g1 T1 O1 => ?_
      have X1 := Lib.hid (And.intro ((Since.start w).turn T1 (by decide)) (And.intro (HV.out.turn T1 (by decide)) O1))
      clear T1 O1
      go_wp2_with fail
      refine (put_great w1 _ _ _ HS.out (by have := HL.out; omega)).mono ?_
      rintro e w' ⟨rfl, hw⟩
      obtain rfl : w1 = w' := hw.symm
      go_wp2_with fail
      refine (put_great w1 _ _ _ HS.out (by have := HL.out; omega)).mono ?_
      rintro e w' ⟨rfl, hw⟩
      obtain rfl : w1 = w' := hw.symm
      go_wp2_with fail
      refine refPut_great HS.out (by have := HL.out; omega) ?_
      go_wp2_with fail
      refine (sameBytes_eq w1 (fun _ => True) (fun _ => True) _ _ [] (BytesIn.nil _ _) (BytesIn.nil _ _)).mono ?_
      rintro e w2 ⟨rfl, n2, hw2⟩
      have T2 := Turn.drewN w1 g1 n2
      rw [← hw2] at T2
      have X2 := Lib.hid (And.intro (X1.out.1.turn T2 (by simp)) (And.intro (X1.out.2.1.turn T2 (by simp)) (X1.out.2.2.turn T2 (by simp))))
      clear T2 hw2 X1
      go_wp2_with fail
      refine (sameBytes_eq w2 (fun _ => True) (fun _ => True) _ _ [] (BytesIn.nil _ _) (BytesIn.nil _ _)).mono ?_
      rintro e w3 ⟨rfl, n3, hw3⟩
      have T3 := Turn.drewN w2 g1 n3
      rw [← hw3] at T3
      have X3 := Lib.hid (And.intro (X2.out.1.turn T3 (by simp)) (And.intro (X2.out.2.1.turn T3 (by simp)) (X2.out.2.2.turn T3 (by simp))))
      clear T3 hw3 X2
      go_wp2_with fail
      refine left_t X3.out.2.2 X3.out.2.1 (by have := HL.out; omega) fun n4 => ?_
      have T4 := Turn.drewN w3 g1 n4
      have X9 := Lib.hid (show Since w (w3.drewN n4) g1 ∧ Owns (w3.drewN n4) g1 (entTag 0) bytesU8 1 (.slice (some ⟨b1, o1, none⟩) l.length c1) l.length (l.map byteCell) ∧ Owns (w3.drewN n4) g1 (entTag 1) bytesU8 1 (.slice none 0 0) 0 [] ∧ Owns (w3.drewN n4) g1 (entTag 2) bytesU8 1 (.slice none 0 0) 0 [] from ⟨X3.out.1.turn T4 (by simp), (X3.out.2.2.turn T4 (by simp)).owns, Owns.nil _ _ _ _ _, Owns.nil _ _ _ _ _⟩)
      clear T4 X3
      generalize w3.drewN n4 = w9 at X9 ⊢
      obtain ⟨g9, rfl⟩ : ∃ g9 : Tags, g9 = g1 := ⟨_, rfl⟩
      have NB := book_new w9 g9
      have TB := Turn.alloc w9 g9 801 (.cells #[.int .i64 0, .slice none 0 0, .slice none 0 0, .slice none 0 0, .slice none 0 0, .slice none 0 0, .slice none 0 0, .slice none 0 0, .slice none 0 0, .slice none 0 0, .slice none 0 0, .slice none 0 0, .slice none 0 0] 41)
      have Y0 := Lib.hid (And.intro (X9.out.1.turn TB (by simp)) (And.intro NB (And.intro (X9.out.2.1.turn TB (by simp)) (And.intro (X9.out.2.2.1.turn TB (by simp)) (X9.out.2.2.2.turn TB (by simp))))))
      clear NB TB X9
      go_upto_region 10 with fail
      generalize w9.alloc (.cells #[.int .i64 0, .slice none 0 0, .slice none 0 0, .slice none 0 0, .slice none 0 0, .slice none 0 0, .slice none 0 0, .slice none 0 0, .slice none 0 0, .slice none 0 0, .slice none 0 0, .slice none 0 0, .slice none 0 0] 41) = w10 at Y0 ⊢
      generalize g9.ext w9.heap.size 801 = g10 at Y0
      generalize w9.heap.size = bp at Y0 ⊢
      go_wp2_with fail
      refine add_t Y0.out.2.1 rfl (by decide) (by decide) _ _ _ (by omega) fun w11 g11 cs1 T B c0 N => ?_
      have Y1 := Lib.hid (And.intro (Y0.out.1.turn T (by decide)) (And.intro B (And.intro c0 (And.intro (N noOther_new) (And.intro (Y0.out.2.2.1.turn T (by decide)) (And.intro (Y0.out.2.2.2.1.turn T (by decide)) (Y0.out.2.2.2.2.turn T (by decide))))))))
      clear T B c0 N Y0
      go_wp2_with fail
      refine add_t Y1.out.2.1 Y1.out.2.2.1 (by decide) (by simp) _ _ _ (by omega) fun w12 g12 cs2 T B c0 N => ?_
      have Y2 := Lib.hid (And.intro (Y1.out.1.turn T (by decide)) (And.intro B (And.intro c0 (And.intro (N Y1.out.2.2.2.1) (And.intro (Y1.out.2.2.2.2.1.turn T (by decide)) (And.intro (Y1.out.2.2.2.2.2.1.turn T (by decide)) (Y1.out.2.2.2.2.2.2.turn T (by decide))))))))
      clear T B c0 N Y1
      go_wp2_with fail
      refine add_t Y2.out.2.1 Y2.out.2.2.1 (by decide) (by simp) _ _ _ (by omega) fun w13 g13 cs3 T B c0 N => ?_
      have Y3 := Lib.hid (And.intro (Y2.out.1.turn T (by decide)) (And.intro B (And.intro (N Y2.out.2.2.2.1) (And.intro (Y2.out.2.2.2.2.1.turn T (by decide)) (And.intro (Y2.out.2.2.2.2.2.1.turn T (by decide)) (Y2.out.2.2.2.2.2.2.turn T (by decide)))))))
      clear T B c0 N Y2
      go_wp2_with fail
      refine apart_t Y3.out.2.1 Y3.out.2.2.1 (Filled.snoc (Filled.snoc (Filled.snoc (Filled.nil _ _) Y3.out.2.2.2.1) Y3.out.2.2.2.2.1) Y3.out.2.2.2.2.2) fun w14 g14 T => ?_
      have Y4 := Lib.hid (Y3.out.1.turn T (by simp [entTags]))
      clear T Y3
      go_wp2_with fail
      exact H.out _ Y4.out.below
    · have hs2 : l.length ≤ 65536 := by omega
      have HS := Lib.hid hs2
      clear hs hs2
      go_enter Tryd.func3, Tryd.ntmps3
      go_wp2_with fail
      refine twin_t (g := fun _ => 0) 1000 HV.out (by have := HL.out; omega) (by decide) (by decide) fun b1 o1 c1 w1 g1 T1 O1 => ?_
      have X1 := Lib.hid (And.intro ((Since.start w).turn T1 (by decide)) (And.intro (HV.out.turn T1 (by decide)) O1))
      clear T1 O1
      go_wp2_with fail
      refine put_own (g := g1) 1001 X1.out.2.2.bytes HS.out fun b2 w2 g2 T2 O2 => ?_
      have X2 := Lib.hid (And.intro (X1.out.1.turn T2 (by simp)) (And.intro (X1.out.2.1.turn T2 (by simp)) (And.intro (X1.out.2.2.turn T2 (by simp)) O2)))
      clear T2 O2 X1
      go_wp2_with fail
      refine put_own (g := g2) 1002 X2.out.2.2.1.bytes HS.out fun b3 w3 g3 T3 O3 => ?_
      have X3 := Lib.hid (And.intro (X2.out.1.turn T3 (by simp)) (And.intro (X2.out.2.1.turn T3 (by simp)) (And.intro (X2.out.2.2.1.turn T3 (by simp)) (And.intro (X2.out.2.2.2.turn T3 (by simp)) O3))))
      clear T3 O3 X2
      go_wp2_with fail
      refine refPut_t (g := g3) 710 X3.out.2.1 HS.out fun a4 c4 w4 g4 T4 O4 => ?_
      have X4 := Lib.hid (And.intro (X3.out.1.turn T4 (by decide)) (And.intro (X3.out.2.1.turn T4 (by decide)) (And.intro (X3.out.2.2.1.turn T4 (by decide)) (And.intro (X3.out.2.2.2.1.turn T4 (by decide)) (And.intro (X3.out.2.2.2.2.turn T4 (by decide)) O4)))))
      clear T4 O4 X3
      go_wp2_with fail
      refine (sameBytes_eq w4 _ _ _ _ (Fr.frame l) X4.out.2.2.2.1.bytes X4.out.2.2.2.2.2.bytes).mono ?_
      rintro e w5 ⟨rfl, n5, hw5⟩
      have T5 := Turn.drewN w4 g4 n5
      rw [← hw5] at T5
      have X5 := Lib.hid (And.intro (X4.out.1.turn T5 (by simp)) (And.intro (X4.out.2.1.turn T5 (by simp)) (And.intro (X4.out.2.2.1.turn T5 (by simp)) (And.intro (X4.out.2.2.2.1.turn T5 (by simp)) (And.intro (X4.out.2.2.2.2.1.turn T5 (by simp)) (X4.out.2.2.2.2.2.turn T5 (by simp)))))))
      clear T5 hw5 X4
      go_wp2_with fail
      refine (sameBytes_eq w5 _ _ _ _ (Fr.frame l) X5.out.2.2.2.2.1.bytes X5.out.2.2.2.2.2.bytes).mono ?_
      rintro e w6 ⟨rfl, n6, hw6⟩
      have T6 := Turn.drewN w5 g4 n6
      rw [← hw6] at T6
      have X6 := Lib.hid (And.intro (X5.out.1.turn T6 (by simp)) (And.intro (X5.out.2.1.turn T6 (by simp)) (And.intro (X5.out.2.2.1.turn T6 (by simp)) (And.intro (X5.out.2.2.2.1.turn T6 (by simp)) (X5.out.2.2.2.2.1.turn T6 (by simp))))))
      clear T6 hw6 X5
      go_wp2_with fail
      refine left_t X6.out.2.2.1 X6.out.2.1 (by have := HL.out; omega) fun n7 => ?_
      have T7 := Turn.drewN w6 g4 n7
      have X9 := Lib.hid (show Since w (w6.drewN n7) g4 ∧ Owns (w6.drewN n7) g4 (entTag 0) bytesU8 1 (.slice (some ⟨b1, o1, none⟩) l.length c1) l.length (l.map byteCell) ∧ Owns (w6.drewN n7) g4 (entTag 1) bytesU8 1 (.slice (some ⟨b2, 0, none⟩) (l.length + 4) (l.length + 4)) (l.length + 4) ((Fr.frame l).map byteCell) ∧ Owns (w6.drewN n7) g4 (entTag 2) bytesU8 1 (.slice (some ⟨b3, 0, none⟩) (l.length + 4) (l.length + 4)) (l.length + 4) ((Fr.frame l).map byteCell) from ⟨X6.out.1.turn T7 (by simp), (X6.out.2.2.1.turn T7 (by simp)).owns, X6.out.2.2.2.1.turn T7 (by simp), X6.out.2.2.2.2.turn T7 (by simp)⟩)
      clear T7 X6
      generalize w6.drewN n7 = w9 at X9 ⊢
      obtain ⟨g9, rfl⟩ : ∃ g9 : Tags, g9 = g4 := ⟨_, rfl⟩
      have NB := book_new w9 g9
      have TB := Turn.alloc w9 g9 801 (.cells #[.int .i64 0, .slice none 0 0, .slice none 0 0, .slice none 0 0, .slice none 0 0, .slice none 0 0, .slice none 0 0, .slice none 0 0, .slice none 0 0, .slice none 0 0, .slice none 0 0, .slice none 0 0, .slice none 0 0] 41)
      have Y0 := Lib.hid (And.intro (X9.out.1.turn TB (by simp)) (And.intro NB (And.intro (X9.out.2.1.turn TB (by simp)) (And.intro (X9.out.2.2.1.turn TB (by simp)) (X9.out.2.2.2.turn TB (by simp))))))
      clear NB TB X9
      go_upto_region 10 with fail
      generalize w9.alloc (.cells #[.int .i64 0, .slice none 0 0, .slice none 0 0, .slice none 0 0, .slice none 0 0, .slice none 0 0, .slice none 0 0, .slice none 0 0, .slice none 0 0, .slice none 0 0, .slice none 0 0, .slice none 0 0, .slice none 0 0] 41) = w10 at Y0 ⊢
      generalize g9.ext w9.heap.size 801 = g10 at Y0
      generalize w9.heap.size = bp at Y0 ⊢
      go_wp2_with fail
      refine add_t Y0.out.2.1 rfl (by decide) (by decide) _ _ _ (by omega) fun w11 g11 cs1 T B c0 N => ?_
      have Y1 := Lib.hid (And.intro (Y0.out.1.turn T (by decide)) (And.intro B (And.intro c0 (And.intro (N noOther_new) (And.intro (Y0.out.2.2.1.turn T (by decide)) (And.intro (Y0.out.2.2.2.1.turn T (by decide)) (Y0.out.2.2.2.2.turn T (by decide))))))))
      clear T B c0 N Y0
      go_wp2_with fail
      refine add_t Y1.out.2.1 Y1.out.2.2.1 (by decide) (by simp) _ _ _ (by omega) fun w12 g12 cs2 T B c0 N => ?_
      have Y2 := Lib.hid (And.intro (Y1.out.1.turn T (by decide)) (And.intro B (And.intro c0 (And.intro (N Y1.out.2.2.2.1) (And.intro (Y1.out.2.2.2.2.1.turn T (by decide)) (And.intro (Y1.out.2.2.2.2.2.1.turn T (by decide)) (Y1.out.2.2.2.2.2.2.turn T (by decide))))))))
      clear T B c0 N Y1
      go_wp2_with fail
      refine add_t Y2.out.2.1 Y2.out.2.2.1 (by decide) (by simp) _ _ _ (by omega) fun w13 g13 cs3 T B c0 N => ?_
      have Y3 := Lib.hid (And.intro (Y2.out.1.turn T (by decide)) (And.intro B (And.intro (N Y2.out.2.2.2.1) (And.intro (Y2.out.2.2.2.2.1.turn T (by decide)) (And.intro (Y2.out.2.2.2.2.2.1.turn T (by decide)) (Y2.out.2.2.2.2.2.2.turn T (by decide)))))))
      clear T B c0 N Y2
      go_wp2_with fail
      refine apart_t Y3.out.2.1 Y3.out.2.2.1 (Filled.snoc (Filled.snoc (Filled.snoc (Filled.nil _ _) Y3.out.2.2.2.1) Y3.out.2.2.2.2.1) Y3.out.2.2.2.2.2) fun w14 g14 T => ?_
      have Y4 := Lib.hid (Y3.out.1.turn T (by simp [entTags]))
      clear T Y3
      go_wp2_with fail
      exact H.out _ Y4.out.below

theorem fput_any (w : World) (v : Value) (l : List UInt8) (hv : BytesIn w (fun b => b < w.heap.size) v l) : Calls Tryd.prog 3 #[v] w fun e w' => e = .returned (.bool true) ∧ Below w.heap.size w w' :=
  fput_t (BytesIn.mono hv fun _ _ _ => rfl) fun w' hB => ⟨rfl, hB⟩
end Go.Proofs.YtolkphbnneoloaaDoor
