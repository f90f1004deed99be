/- Tokens: what the document fixes (alive). -/
import Derived.Test.YtmohejemgpnclaaDoorToToks
namespace Go.Proofs.YtmohejemgpnclaaDoor
open Go.RowKit Go.My

/-- Read, with what is read as a list. -/
theorem read_k {w : World} (g : Tags) (t : Nat) (s : List UInt8) {Q : Ending → World → Prop}
    (h : ∀ ao cap w' g', Turn w g w' g' [] → Toks w' g' t (.slice ao (To.read s).1.length cap) (To.read s).1 → Q (.returned (.tuple #[.slice ao (To.read s).1.length cap, .int .i64 ((To.read s).2.1 : Int), .int .i64 ((To.read s).2.2 : Int)])) w') :
    Calls Tryd.prog 11 #[.string (bs s)] w Q :=
  read_t g t s fun v w' g' hT hO => by
    have hk := toks_of_owns hO
    obtain ⟨ao, cap, rfl⟩ := hO.form
    exact h ao cap w' g' hT hk

def lit0 : List To.T := [⟨1, [97, 49], 0⟩, ⟨3, [60, 61], 3⟩, ⟨2, [50, 48], 6⟩, ⟨1, [120], 8⟩]
theorem lit_read0 : To.read [97, 49, 32, 60, 61, 32, 50, 48, 120, 32, 35, 32, 121] = (lit0, 0, 0) := by decide +kernel
theorem lit_read1 : To.read [97, 32, 62, 32, 98] = ([], 2, 4) := by decide +kernel
theorem lit_read2 : To.read [120, 33] = ([], 1, 4) := by decide +kernel
theorem lit_read3 : To.read [61, 61, 33, 61, 60] = ([⟨3, [61, 61], 0⟩, ⟨3, [33, 61], 2⟩, ⟨3, [60], 4⟩], 0, 0) := by decide +kernel

set_option maxRecDepth 100000 in
set_option maxHeartbeats 4000000 in
theorem alive_t {w : World} (g : Tags) {Q : Ending → World → Prop} (h : ∀ w' g', Turn w g w' g' [] → Q (.returned (.bool true)) w') :
    Calls Tryd.prog 12 #[] w Q := by
  have H := Lib.hid h
  clear h
  go_enter Tryd.func12, Tryd.ntmps12
  go_wp2_with fail
  refine read_k g 601 [97, 49, 32, 60, 61, 32, 50, 48, 120, 32, 35, 32, 121] fun a1 c1 w1 g1 T1 K1 => ?_
  rw [lit_read0] at K1 ⊢
  have X1 := Lib.hid (And.intro T1 K1)
  clear T1 K1
  go_wp2_with fail
  refine read_k g1 602 [97, 32, 62, 32, 98] fun a2 c2 w2 g2 T2 _ => ?_
  rw [lit_read1]
  have X2 := Lib.hid (And.intro (X1.out.1.trans T2 (V := []) (by simp) (by simp)) (X1.out.2.turn T2 (by simp)))
  clear T2 X1
  go_wp2_with fail
  refine read_k g2 602 [120, 33] fun a3 c3 w3 g3 T3 _ => ?_
  rw [lit_read2]
  have X3 := Lib.hid (And.intro (X2.out.1.trans T3 (V := []) (by simp) (by simp)) (X2.out.2.turn T3 (by simp)))
  clear T3 X2
  go_wp2_with fail
  refine read_k g3 602 [61, 61, 33, 61, 60] fun a4 c4 w4 g4 T4 _ => ?_
  rw [lit_read3]
  have X4 := Lib.hid (And.intro (X3.out.1.trans T4 (V := []) (by simp) (by simp)) (X3.out.2.turn T4 (by simp)))
  clear T4 X3
  have n1 : To.name [120] = true := by decide +kernel
  have n2 : To.name [116, 101, 108, 108] = false := by decide +kernel
  have n3 : To.name [84, 101, 108, 108] = true := by decide +kernel
  have n4 : To.name [49, 97] = false := by decide +kernel
  have n5 : To.name [97, 32, 98] = false := by decide +kernel
  have HN := Lib.hid (And.intro n1 (And.intro n2 (And.intro n3 (And.intro n4 n5))))
  clear n1 n2 n3 n4 n5
  go_wp2_with fail
  have T5 := Turn.alloc w4 g4 602 (.cells #[.int .u8 1, .string ⟨#[97, 49]⟩, .int .i64 0, .int .u8 3, .string ⟨#[60, 61]⟩, .int .i64 3, .int .u8 2, .string ⟨#[50, 48]⟩, .int .i64 6, .int .u8 1, .string ⟨#[120]⟩, .int .i64 8] 30)
  have K5 : Toks (w4.alloc (.cells #[.int .u8 1, .string ⟨#[97, 49]⟩, .int .i64 0, .int .u8 3, .string ⟨#[60, 61]⟩, .int .i64 3, .int .u8 2, .string ⟨#[50, 48]⟩, .int .i64 6, .int .u8 1, .string ⟨#[120]⟩, .int .i64 8] 30)) (g4.ext w4.heap.size 602) 602 (.slice (some ⟨w4.heap.size, 0, none⟩) 4 4) lit0 := toks_of_cells (cur := #[.int .u8 1, .string ⟨#[97, 49]⟩, .int .i64 0, .int .u8 3, .string ⟨#[60, 61]⟩, .int .i64 3, .int .u8 2, .string ⟨#[50, 48]⟩, .int .i64 6, .int .u8 1, .string ⟨#[120]⟩, .int .i64 8]) (heap_alloc_new w4 (.cells #[.int .u8 1, .string ⟨#[97, 49]⟩, .int .i64 0, .int .u8 3, .string ⟨#[60, 61]⟩, .int .i64 3, .int .u8 2, .string ⟨#[50, 48]⟩, .int .i64 6, .int .u8 1, .string ⟨#[120]⟩, .int .i64 8] 30)) (Tags.ext_new _ _ _ _ (Nat.le_refl _)) (show lit0.length ≤ 4 from Nat.le_refl _) (by decide) rfl
  have X5 := Lib.hid (And.intro (X4.out.1.trans T5 (V := []) (by simp) (by simp)) (And.intro (X4.out.2.turn T5 (by simp)) K5))
  clear T5 K5 X4
  generalize g4.ext w4.heap.size 602 = g5 at X5
  generalize w4.alloc (.cells #[.int .u8 1, .string ⟨#[97, 49]⟩, .int .i64 0, .int .u8 3, .string ⟨#[60, 61]⟩, .int .i64 3, .int .u8 2, .string ⟨#[50, 48]⟩, .int .i64 6, .int .u8 1, .string ⟨#[120]⟩, .int .i64 8] 30) = w5 at X5 ⊢
  refine (sameToks_eq w5 g5 lit0 X5.out.2.1 X5.out.2.2).mono ?_
  rintro e w6 ⟨rfl, n, rfl⟩
  have X6 := Lib.hid (X5.out.1.trans (Turn.drewN w5 g5 n) (V := []) (by simp) (by simp))
  generalize w5.drewN n = w6 at X6 ⊢
  clear X5
  go_wp2_with fail
  refine name_t [120] (by decide) fun w7 B => ?_
  rw [HN.out.1]
  have X7 := Lib.hid (X6.out.trans (Turn.of_below B g5 602) (V := []) (by simp) (by simp))
  clear X6 B
  go_wp2_with fail
  refine name_t [116, 101, 108, 108] (by decide) fun w8 B => ?_
  rw [HN.out.2.1]
  have X8 := Lib.hid (X7.out.trans (Turn.of_below B _ 602) (V := []) (by simp) (by simp))
  clear X7 B
  go_wp2_with fail
  refine name_t [84, 101, 108, 108] (by decide) fun w9 B => ?_
  rw [HN.out.2.2.1]
  have X9 := Lib.hid (X8.out.trans (Turn.of_below B _ 602) (V := []) (by simp) (by simp))
  clear X8 B
  go_wp2_with fail
  refine name_t [49, 97] (by decide) fun w10 B => ?_
  rw [HN.out.2.2.2.1]
  have X10 := Lib.hid (X9.out.trans (Turn.of_below B _ 602) (V := []) (by simp) (by simp))
  clear X9 B
  go_wp2_with fail
  refine name_t [97, 32, 98] (by decide) fun w11 B => ?_
  rw [HN.out.2.2.2.2]
  have X11 := Lib.hid (X10.out.trans (Turn.of_below B _ 602) (V := []) (by simp) (by simp))
  clear X10 B
  go_wp2_with fail
  exact H.out w11 _ X11.out
end Go.Proofs.YtmohejemgpnclaaDoor
