/- Frames: the walk of FramesCame. -/
import Derived.Test.YtolkphbnneoloaaDoorFcAdd
import Derived.Test.YtolkphbnneoloaaDoorSize
import Derived.Test.YtolkphbnneoloaaDoorTwin
namespace Go.Proofs.YtolkphbnneoloaaDoor
open Go.RowKit Go.My

theorem frames_none {w : World} {g : Tags} {bp m : Nat} (hK : Kept w g bp m) (hm : m < 1000000000) {Q : Ending → World → Prop}
    (h : ∀ w' g', Turn w g w' g' [801, 802] → Kept w' g' bp m → Q (.returned (.tuple #[])) w') : Calls Tryd.prog 20 #[.pointer (some ⟨bp, 0, none⟩), .slice none 0 0] w Q :=
  frames_add (fs := []) (gs := []) (ao := none) (cap := 0) hK ⟨rfl, Owns.nil _ _ _ _ _, fun j h => absurd h (Nat.not_lt_zero _)⟩ hm (fun f hf => by cases hf) h

/-- A cell of an owner. -/
def CellOf (w : World) (g : Tags) (t b o : Nat) (u : Value) : Prop := w.cell? ⟨b, o, none⟩ = some u ∧ g b = t
theorem CellOf.turn {w w' : World} {g g' : Tags} {T : List Nat} {t b o : Nat} {u : Value} (h : CellOf w g t b o u) (k : Turn w g w' g' T) (ht : t ∉ T) : CellOf w' g' t b o u := by
  have hlt := World.block_lt_of_cell? w _ h.1
  exact ⟨(World.cell?_of_block (k.block b hlt (by rw [h.2]; exact ht))).trans h.1, (k.old b hlt).trans h.2⟩

/-- At the head of a round. -/
structure CaAt (w : World) (lv : Value) (ls : List (List UInt8)) (rb mb bp i : Nat) (wr : World) (g : Tags) (buf : List UInt8) (br : Bool) (m : Nat) : Prop where
  since : Since w wr g
  args : Frames wr g 0 lv ls
  rd : Reader wr g 700 rb buf br
  rf : RefRd wr g mb buf br
  kept : Kept wr g bp m
  few : 4 * m + buf.length ≤ 4 * i + ((ls.take i).map List.length).sum

theorem CaAt.turn {w : World} {lv : Value} {ls : List (List UInt8)} {rb mb bp i : Nat} {wr w' : World} {g g' : Tags} {buf : List UInt8} {br : Bool} {m : Nat} (h : CaAt w lv ls rb mb bp i wr g buf br m) {T : List Nat} (k : Turn wr g w' g' T) (hT : ∀ t ∈ T, t = 903 ∨ t = 720 ∨ entTag m ≤ t) : CaAt w lv ls rb mb bp i w' g' buf br m := by
  have n : ∀ t, t < 1000 → t ≠ 903 → t ≠ 720 → t ∉ T := fun t h1 h2 h3 hm => by rcases hT t hm with e | e | e; exact h2 e; exact h3 e; unfold entTag at e; omega
  exact ⟨h.since.turn k (n 0 (by decide) (by decide) (by decide)), h.args.turn k (n 0 (by decide) (by decide) (by decide)), h.rd.turn k (n 700 (by decide) (by decide) (by decide)), h.rf.turn k (n 730 (by decide) (by decide) (by decide)) (n 731 (by decide) (by decide) (by decide)),
    h.kept.turn k (n 801 (by decide) (by decide) (by decide)) (n 802 (by decide) (by decide) (by decide)) (fun j hj hm => by rcases hT _ hm with e | e | e <;> (unfold entTag at e; omega)), h.few⟩

def LawAt (w : World) (lv : Value) (ls : List (List UInt8)) (rb mb bp : Nat) (gk : Nat) (v6 : Value) (wr : World) : Prop :=
  ∃ (i : Nat) (g : Tags) (buf : List UInt8) (br : Bool) (m : Nat), i ≤ ls.length ∧ gk = ls.length - i ∧ v6 = .int .i64 (i : Int) ∧ CaAt w lv ls rb mb bp i wr g buf br m

theorem few_step {ls : List (List UInt8)} {i m a b c r f : Nat} (hi : i < ls.length) (h : 4 * m + b ≤ 4 * i + ((ls.take i).map List.length).sum) (hc : c = (ls[i]).length) (hr : 4 * f + r ≤ b + c) (ha : a = m + 1 + f) : 4 * a + r ≤ 4 * (i + 1) + ((ls.take (i + 1)).map List.length).sum := by
  rw [sum_take ls i hi, ← hc]; omega

theorem sum_small {ls : List (List UInt8)} {n : Nat} (h : total ls ≤ n) (i : Nat) : ((ls.take i).map List.length).sum ≤ n := by
  have := sum_take_le ls i
  unfold total at h; omega
theorem one_small {ls : List (List UInt8)} {n : Nat} (h : total ls ≤ n) (i : Nat) (hi : i < ls.length) : (ls[i]).length ≤ n := by
  have h1 := sum_take ls i hi
  have h2 := sum_small h (i + 1)
  omega
theorem room_one : ∀ (n : Nat) (b : List UInt8), b.length ≤ n → 4 * (Fr.all b).1.length + (Fr.all b).2.1.length ≤ b.length ∧ ∀ f ∈ (Fr.all b).1, f.length ≤ b.length := by
  intro n
  induction n with
  | zero => intro b hb; rw [Fr.all_short b (by omega)]; exact ⟨by simp, fun f hf => by cases hf⟩
  | succ n ih =>
    intro b hb
    by_cases h1 : b.length < 4
    · rw [Fr.all_short b h1]; exact ⟨by simp, fun f hf => by cases hf⟩
    by_cases h2 : Fr.most < Fr.num4 b
    · rw [Fr.all_great b (by omega) h2]; exact ⟨by simp, fun f hf => by cases hf⟩
    by_cases h3 : b.length < 4 + Fr.num4 b
    · rw [Fr.all_part b (by omega) (by omega) h3]; exact ⟨by simp, fun f hf => by cases hf⟩
    · rw [Fr.all_whole b (by omega) (by omega) (by omega)]
      have h := ih (b.drop (4 + Fr.num4 b)) (by rw [List.length_drop]; omega)
      have hp := Fr.length_piece b (by omega)
      rw [List.length_drop] at h
      generalize Fr.all (b.drop (4 + Fr.num4 b)) = r at h
      obtain ⟨r1, r2, r3⟩ := r
      simp only [List.length_cons] at h ⊢
      generalize (b.drop 4).take (Fr.num4 b) = pc at *
      generalize Fr.num4 b = m at *
      refine ⟨by omega, fun f hf => ?_⟩
      rcases List.mem_cons.1 hf with rfl | hf
      · omega
      · have := h.2 f hf; omega
theorem room_all {buf c rest : List UInt8} {fs : List (List UInt8)} {k : Bool} (h : Fr.all (buf ++ c) = (fs, rest, k)) : 4 * fs.length + rest.length ≤ buf.length + c.length ∧ ∀ f ∈ fs, f.length ≤ buf.length + c.length := by
  have := room_one _ (buf ++ c) (Nat.le_refl _)
  rw [h, List.length_append] at this
  exact this

set_option maxRecDepth 100000 in
set_option maxHeartbeats 8000000 in
theorem fcame_t {w : World} {lv : Value} {ls : List (List UInt8)} (hv : Frames w (fun _ => 0) 0 lv ls) (hr : ∀ l ∈ ls, l.length ≤ 140737488351232) {Q : Ending → World → Prop} (h : ∀ w', Below w.heap.size w w' → Q (.returned (.bool true)) w') :
    Calls Tryd.prog 4 #[lv] w Q := by
  obtain ⟨ao, cp, rfl, h1, h2, _, _⟩ := FramesIn.open_ hv
  have H := Lib.hid h
  have HV := Lib.hid hv
  have HR := Lib.hid hr
  have l0 : (0 : Int) ≤ (ls.length : Int) := by omega
  have l9 : (ls.length : Int) ≤ 9223372036854775807 := by unfold maxLen at h2; omega
  clear h hv h1 h2 hr
  by_cases hg : 100 < ls.length
  · have l1 : (100 : Int) < (ls.length : Int) := by omega
    clear hg
    go_enter Tryd.func4, Tryd.ntmps4
    go_wp2_with fail
    exact H.out _ (Below.refl _ _)
  · have l1 : (ls.length : Int) ≤ 100 := by omega
    have HL := Lib.hid (show ls.length ≤ 100 by omega)
    clear hg
    go_enter Tryd.func4, Tryd.ntmps4
    go_wp2_with fail
    refine (size_said w _ _ ls HV.out HR.out (by have := HL.out; omega)).mono ?_
    rintro e w' ⟨n, rfl, hn1, hn2, hw⟩
    obtain rfl : w = w' := hw
    have n0 : (0 : Int) ≤ (n : Int) := by omega
    by_cases hb : 150000 < n
    · have n1 : (150000 : Int) < (n : Int) := by omega
      clear hb hn1 hn2
      go_wp2_with fail
      exact H.out _ (Below.refl _ _)
    · have n1 : (n : Int) ≤ 150000 := by omega
      have HT := Lib.hid (show total ls ≤ 150000 by have := hn1 (by omega); omega)
      clear hb hn1 hn2
      go_wp2_with fail
      refine new_t w (fun _ => 0) 700 fun rb w1 g1 T1 R1 => ?_
      have X1 := Lib.hid (And.intro ((Since.start w).turn T1 (by simp)) (And.intro (HV.out.turn T1 (by simp)) R1))
      clear T1 R1
      go_wp2_with fail
      refine rnew_t w1 g1 fun mb w2 g2 T2 R2 => ?_
      have X2 := Lib.hid (And.intro (X1.out.1.turn T2 (by simp)) (And.intro (X1.out.2.1.turn T2 (by simp)) (And.intro (X1.out.2.2.turn T2 (by simp)) R2)))
      clear T2 R2 X1
      have TB := Turn.alloc w2 g2 801 (.cells #[.int .i64 0, .slice none 0 0, .slice none 0 0, .slice none 0 0, .slice none 0 0, .slice none 0 0, .slice none 0 0, .slice none 0 0, .slice none 0 0, .slice none 0 0, .slice none 0 0, .slice none 0 0, .slice none 0 0] 41)
      have Y0 := Lib.hid (show CaAt w (.slice ao ls.length cp) ls rb mb w2.heap.size 0 _ _ [] false 0 from ⟨X2.out.1.turn TB (by simp), X2.out.2.1.turn TB (by simp), X2.out.2.2.1.turn TB (by simp), X2.out.2.2.2.turn TB (by simp) (by simp), kept_new w2 g2, by simp⟩)
      clear TB X2
      go_upto_region 8 with fail
      generalize w2.alloc (.cells #[.int .i64 0, .slice none 0 0, .slice none 0 0, .slice none 0 0, .slice none 0 0, .slice none 0 0, .slice none 0 0, .slice none 0 0, .slice none 0 0, .slice none 0 0, .slice none 0 0, .slice none 0 0, .slice none 0 0] 41) = w3 at Y0 ⊢
      generalize g2.ext w2.heap.size 801 = g3 at Y0
      generalize w2.heap.size = bp at Y0 ⊢
      go_wp2_with fail
      go_loopg [6] ls.length (fun gk v6 wr => LawAt w (.slice ao ls.length cp) ls rb mb bp gk v6 wr)
      case atStart => exact ⟨0, g3, [], false, 0, Nat.zero_le _, rfl, rfl, Y0.out⟩
      case round =>
        obtain ⟨i, g, buf, br, m, hi, rfl, rfl, hC⟩ := hrel
        have X := Lib.hid hC
        have i0 : (0 : Int) ≤ (i : Int) := by omega
        clear Y0
        by_cases hlt : i < ls.length
        · have i1 : (i : Int) < (ls.length : Int) := by omega
          obtain ⟨_, _, ev, _, _, _, hcell⟩ := FramesIn.open_ hC.args
          cases ev
          obtain ⟨b, off, rfl, hgb, hc⟩ := hcell (by omega)
          obtain ⟨u, cu, hu⟩ := hc i hlt
          obtain ⟨ua, uc, rfl⟩ : ∃ ua uc, u = .slice ua (ls[i]).length uc := by obtain ⟨x, y, e, _⟩ := BytesIn.open_ hu; exact ⟨x, y, e⟩
          have hcs := one_small HT.out i hlt
          have hss := sum_small HT.out i
          obtain ⟨c, hcc⟩ : ∃ c, c = ls[i] := ⟨_, rfl⟩
          rw [← hcc] at cu hu hcs
          have CU0 : CellOf wr g 0 b (off + i) (.slice ua c.length uc) := ⟨cu, hgb⟩
          have CU := Lib.hid CU0
          clear CU0 hgb
          have hm1 : 4 * m + buf.length ≤ 150400 := by have := X.out.few; have := HL.out; omega
          have Y := Lib.hid (And.intro hu (And.intro hlt (And.intro hcc (And.intro hcs hm1))))
          clear hcell hc hC hi hu hcs hss hcc hm1
          go_wp2_with fail
          refine twin_t (g := g) (entTag m) Y.out.1 (by have := Y.out.2.2.2.1; omega) (by unfold entTag; omega) (by decide) fun b1 o1 c1 w1 g1 T1 O1 => ?_
          have X1 := Lib.hid (And.intro (X.out.turn T1 (by intro t ht; simp at ht; rcases ht with e | e <;> omega)) (And.intro (Bytes.turn Y.out.1 T1 (by unfold entTag; simp; omega)) O1))
          have CU1 := Lib.hid (CU.out.turn T1 (by unfold entTag; simp; omega))
          clear T1 O1 X CU cu
          have cu1 := CU1.out.1
          go_wp2_with fail
          cases br with
          | true =>
            refine broken_t X1.out.1.rd _ ?_
            go_wp2_with fail
            refine rbroken X1.out.1.rf ?_
            go_wp2_with fail
            refine (sameFrames_eq w1 (fun _ => True) (fun _ => True) _ _ [] (FramesIn.nil _ _) (FramesIn.nil _ _)).mono ?_
            rintro e w2 ⟨rfl, n2, hw2⟩
            have T2 := Turn.drewN w1 g1 n2
            rw [← hw2] at T2
            have X2 := Lib.hid (And.intro (X1.out.1.turn T2 (by simp)) (And.intro (Bytes.turn X1.out.2.1 T2 (by simp)) (X1.out.2.2.turn T2 (by simp))))
            have cu2 := (CU1.out.turn T2 (by simp)).1
            clear T2 hw2 X1 CU1 cu1
            go_wp2_with fail
            refine rleft_t X2.out.1.rd ?_
            go_wp2_with fail
            refine rleft X2.out.1.rf ?_
            go_wp2_with fail
            refine left_t X2.out.2.2 X2.out.2.1 (by have := Y.out.2.2.2.1; omega) fun n3 => ?_
            have T3 := Turn.drewN w2 g1 n3
            have X3 := Lib.hid (And.intro (X2.out.1.turn T3 (by simp)) (X2.out.2.2.turn T3 (by simp)))
            clear T3 X2
            generalize w2.drewN n3 = w3 at X3 ⊢
            go_wp2_with fail
            refine kept_add X3.out.1.kept (by have := Y.out.2.2.2.2; omega) X3.out.2.owns (by have := Y.out.2.2.2.1; omega) fun w4 g4 T4 K4 => ?_
            have X4 := Lib.hid (show CaAt w (.slice (some ⟨b, off, none⟩) ls.length cp) ls rb mb bp (i + 1) w4 g4 buf true (m + 1) from ⟨X3.out.1.since.turn T4 (by simp), X3.out.1.args.turn T4 (by simp), X3.out.1.rd.turn T4 (by simp), X3.out.1.rf.turn T4 (by simp) (by simp), K4, few_step Y.out.2.1 X3.out.1.few (c := c.length) (r := buf.length) (f := 0) (congrArg List.length Y.out.2.2.1) (by omega) rfl⟩)
            clear T4 K4 X3
            go_wp2_with fail
            refine frames_none X4.out.kept (by have := Y.out.2.2.2.2; omega) fun w5 g5 T5 K5 => ?_
            have X5 := Lib.hid (show CaAt w (.slice (some ⟨b, off, none⟩) ls.length cp) ls rb mb bp (i + 1) w5 g5 buf true (m + 1) from ⟨X4.out.since.turn T5 (by simp), X4.out.args.turn T5 (by simp), X4.out.rd.turn T5 (by simp), X4.out.rf.turn T5 (by simp) (by simp), K5, X4.out.few⟩)
            clear T5 K5 X4
            go_wp2_with fail
            go_roundg (ls.length - (i + 1))
            case measure => have := Y.out.2.1; omega
            case rel => exact ⟨i + 1, g5, buf, true, m + 1, Y.out.2.1, rfl, by go_num, X5.out⟩
          | false =>
            obtain ⟨r, hr⟩ : ∃ r, r = Fr.all (buf ++ c) := ⟨_, rfl⟩
            obtain ⟨fs, rest, k⟩ := r
            obtain ⟨hra, hrb⟩ := room_all hr.symm
            obtain ⟨e, he⟩ : ∃ e : Int, (if k then 3 else 0) = e := ⟨_, rfl⟩
            have Z := Lib.hid (And.intro hr.symm (And.intro he (And.intro hra hrb)))
            have hf0 : fs.length ≤ 1000000000 := by have := Y.out.2.2.2; omega
            have HF0 := Lib.hid hf0
            clear hr he hra hrb hf0
            refine came_o (g := g1) 720 (m + 1) X1.out.1.rd X1.out.2.2.bytes (by have := Y.out.2.2.2; omega) Z.out.1 Z.out.2.1 fun a2 c2 gs w2 g2 T2 D2 R2 => ?_
            have X2 := Lib.hid (And.intro (X1.out.1.since.turn T2 (by simp)) (And.intro (X1.out.1.args.turn T2 (by simp)) (And.intro R2 (And.intro (X1.out.1.rf.turn T2 (by simp) (by simp)) (And.intro (X1.out.1.kept.turn T2 (by simp) (by simp) (fun j _ => by unfold entTag; simp; omega)) (And.intro D2 (And.intro (Bytes.turn X1.out.2.1 T2 (by simp)) (And.intro (X1.out.2.2.turn T2 (by unfold entTag; simp; omega)) X1.out.1.few))))))))
            have CU2 := Lib.hid (CU1.out.turn T2 (by simp))
            clear T2 D2 R2 X1 CU1 cu1
            have cu2 := CU2.out.1
            go_wp2_with fail
            refine rcame X2.out.2.2.2.1 X2.out.2.2.2.2.2.2.1 (by have := Y.out.2.2.2; omega) (by decide) Z.out.1 Z.out.2.1 fun a3 c3 w3 g3 T3 L3 R3 => ?_
            have X3 := Lib.hid (And.intro (X2.out.1.turn T3 (by simp)) (And.intro (X2.out.2.1.turn T3 (by simp)) (And.intro (X2.out.2.2.1.turn T3 (by simp)) (And.intro R3 (And.intro (X2.out.2.2.2.2.1.turn T3 (by simp) (by simp) (fun j _ => by unfold entTag; simp; omega)) (And.intro (X2.out.2.2.2.2.2.1.turn T3 (by simp) (fun j _ => by unfold entTag; simp; omega)) (And.intro (Bytes.turn X2.out.2.2.2.2.2.2.1 T3 (by simp)) (And.intro (X2.out.2.2.2.2.2.2.2.1.turn T3 (by unfold entTag; simp; omega)) (And.intro X2.out.2.2.2.2.2.2.2.2 L3)))))))))
            have CU3 := Lib.hid (CU2.out.turn T3 (by simp))
            clear T3 L3 R3 X2 CU2 cu2
            go_wp2_with fail
            refine (sameFrames_eq w3 _ _ _ _ fs X3.out.2.2.2.2.2.1.reads X3.out.2.2.2.2.2.2.2.2.2.frames).mono ?_
            rintro e' w4 ⟨rfl, n4, hw4⟩
            have T4 := Turn.drewN w3 g3 n4
            rw [← hw4] at T4
            have X5 := Lib.hid (And.intro (X3.out.1.turn T4 (by simp)) (And.intro (X3.out.2.1.turn T4 (by simp)) (And.intro (X3.out.2.2.1.turn T4 (by simp)) (And.intro (X3.out.2.2.2.1.turn T4 (by simp) (by simp)) (And.intro (X3.out.2.2.2.2.1.turn T4 (by simp) (by simp) (fun j _ => by simp)) (And.intro (X3.out.2.2.2.2.2.1.turn T4 (by simp) (fun j _ => by simp)) (And.intro (Bytes.turn X3.out.2.2.2.2.2.2.1 T4 (by simp)) (And.intro (X3.out.2.2.2.2.2.2.2.1.turn T4 (by simp)) X3.out.2.2.2.2.2.2.2.2.1))))))))
            have cu4 := (CU3.out.turn T4 (by simp)).1
            clear T4 hw4 X3 CU3
            go_wp2_with fail
            refine rleft_t X5.out.2.2.1 ?_
            go_wp2_with fail
            refine rleft X5.out.2.2.2.1 ?_
            go_wp2_with fail
            refine left_t X5.out.2.2.2.2.2.2.2.1 X5.out.2.2.2.2.2.2.1 (by have := Y.out.2.2.2.1; omega) fun n5 => ?_
            have T5 := Turn.drewN w4 g3 n5
            have X6 := Lib.hid (And.intro (X5.out.1.turn T5 (by simp)) (And.intro (X5.out.2.1.turn T5 (by simp)) (And.intro (X5.out.2.2.1.turn T5 (by simp)) (And.intro (X5.out.2.2.2.1.turn T5 (by simp) (by simp)) (And.intro (X5.out.2.2.2.2.1.turn T5 (by simp) (by simp) (fun j _ => by simp)) (And.intro (X5.out.2.2.2.2.2.1.turn T5 (by simp) (fun j _ => by simp)) (And.intro (X5.out.2.2.2.2.2.2.2.1.turn T5 (by simp)) X5.out.2.2.2.2.2.2.2.2)))))))
            clear T5 X5
            generalize w4.drewN n5 = w5 at X6 ⊢
            go_wp2_with fail
            refine kept_add X6.out.2.2.2.2.1 (by have := Y.out.2.2.2.2; omega) X6.out.2.2.2.2.2.2.1.owns (by have := Y.out.2.2.2.1; omega) fun w6 g6 T6 K6 => ?_
            have X7 := Lib.hid (And.intro (X6.out.1.turn T6 (by simp)) (And.intro (X6.out.2.1.turn T6 (by simp)) (And.intro (X6.out.2.2.1.turn T6 (by simp)) (And.intro (X6.out.2.2.2.1.turn T6 (by simp) (by simp)) (And.intro K6 (And.intro (X6.out.2.2.2.2.2.1.turn T6 (by simp) (fun j _ => by unfold entTag; simp; omega)) X6.out.2.2.2.2.2.2.2))))))
            clear T6 K6 X6
            go_wp2_with fail
            refine frames_add X7.out.2.2.2.2.1 X7.out.2.2.2.2.2.1 (by have := Y.out.2.2.2; have := Z.out.2.2.1; omega) (fun f hf => by have := Z.out.2.2.2 f hf; have := Y.out.2.2.2; omega) fun w7 g7 T7 K7 => ?_
            have X8 := Lib.hid (show CaAt w (.slice (some ⟨b, off, none⟩) ls.length cp) ls rb mb bp (i + 1) w7 g7 rest k (m + 1 + fs.length) from ⟨X7.out.1.turn T7 (by simp), X7.out.2.1.turn T7 (by simp), X7.out.2.2.1.turn T7 (by simp), X7.out.2.2.2.1.turn T7 (by simp) (by simp), K7, few_step Y.out.2.1 X7.out.2.2.2.2.2.2 (c := c.length) (congrArg List.length Y.out.2.2.1) Z.out.2.2.1 rfl⟩)
            clear T7 K7 X7
            go_wp2_with fail
            go_roundg (ls.length - (i + 1))
            case measure => have := Y.out.2.1; omega
            case rel => exact ⟨i + 1, g7, rest, k, m + 1 + fs.length, Y.out.2.1, rfl, by go_num, X8.out⟩
        · obtain rfl : i = ls.length := by omega
          clear hlt hi hC
          go_wp2_with fail
          refine kept_apart X.out.kept fun w' g' T => ?_
          have X2 := Lib.hid (X.out.since.turn T (by simp [entTags]))
          clear T X
          go_wp2_with fail
          exact H.out _ X2.out.below

theorem fcame_any (w : World) (v : Value) (ls : List (List UInt8)) (hv : FramesIn w (fun b => b < w.heap.size) v ls ∧ ∀ l ∈ ls, l.length ≤ 140737488351232) : Calls Tryd.prog 4 #[v] w fun e w' => e = .returned (.bool true) ∧ Below w.heap.size w w' :=
  fcame_t (FramesIn.mono hv.1 fun _ _ _ => rfl) hv.2 fun _ hB => ⟨rfl, hB⟩
end Go.Proofs.YtolkphbnneoloaaDoor
