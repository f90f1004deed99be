/- A book of lists of the kind Node: marks, how it fills and grows. -/
import Derived.Test.YtcldcigopkfmmaaGreatDoorTrD4
import Derived.Deep.RegionLaw
namespace Go.Proofs.YtcldcigopkfmmaaGreatDoor
open Go.RowKit Go.My

def kNode : Kd := ⟨2, 8, 127, 74, 5, fun c => [.int .u8 0, .string (wordOf c), .slice none 0 0, .slice none 0 0, .slice none 0 0]⟩
theorem kNode_good : kNode.Good := ⟨by decide, by decide, by decide, fun _ => rfl⟩
theorem elNode : Elem Tryz.prog 45 74 5 96 (.agg #[.int .u8 0, .string ⟨#[]⟩, .slice none 0 0, .slice none 0 0, .slice none 0 0]) := Elem.mk' Tryz.underlying45 (by kernel_rfl) rfl (by decide)
theorem mark_Node (c : Nat) (hc : c ≤ 1000000000) {w : World} {g : Tags} (hT : Tab w g) : Calls Tryz.prog 79 #[.int .i64 (c : Int)] w fun e w' => e = .returned (.agg #[.int .u8 0, .string (wordOf c), .slice none 0 0, .slice none 0 0, .slice none 0 0]) ∧ Below w.heap.size w w' := by
  obtain ⟨hb0, hr0, hz0⟩ := Put.new w #[.int .u8 0, .string ⟨#[]⟩, .slice none 0 0, .slice none 0 0, .slice none 0 0] 74
  have HT := Lib.hid (hT.turn (Turn.alloc w g 1 (.cells #[.int .u8 0, .string ⟨#[]⟩, .slice none 0 0, .slice none 0 0, .slice none 0 0] 74)) (by simp))
  clear hT
  go_enter Tryz.func79, Tryz.ntmps79
  obtain ⟨bx, hbx⟩ : ∃ bx, bx = w.heap.size := ⟨_, rfl⟩
  obtain ⟨w0, hw0⟩ : ∃ w0, w0 = w.alloc (.cells #[.int .u8 0, .string ⟨#[]⟩, .slice none 0 0, .slice none 0 0, .slice none 0 0] 74) := ⟨_, rfl⟩
  rw [← hw0, ← hbx] at hr0
  rw [← hw0] at hb0 hz0
  rw [← hw0] at HT
  have X0 := Lib.hid (And.intro hb0 hr0)
  go_upto_region 1 with fail
  rw [← hw0, ← hbx]
  have hle : w.heap.size ≤ bx := by omega
  clear hw0 hbx hb0 hz0 hr0
  go_wp2_with fail
  refine (bkWord_t c hc HT.out).mono ?_
  rintro e w1 ⟨rfl, hb1⟩
  have hr1 : w1.heap[bx]? = some (.cells #[.int .u8 0, .string ⟨#[]⟩, .slice none 0 0, .slice none 0 0, .slice none 0 0] 74 (0, 0)) := (hb1.block _ (Array.getElem?_eq_some_iff.1 X0.out.2).1).trans X0.out.2
  have HB := Lib.hid (X0.out.1.trans (hb1.mono X0.out.1.size))
  clear hb1
  have f0 := frozen_of_row w1 bx 0 _ _ hr1
  have q0 := cell_of_row w1 bx 0 _ _ _ hr1
  have r0 := heap_setCell_same w1 bx 0 _ _ (.int .u8 0) hr1
  have f1 := frozen_of_row (w1.setCell ⟨bx, 0, none⟩ (.int .u8 0)) bx 1 _ _ r0
  have q1 := cell_of_row (w1.setCell ⟨bx, 0, none⟩ (.int .u8 0)) bx 1 _ _ _ r0
  have r1 := heap_setCell_same (w1.setCell ⟨bx, 0, none⟩ (.int .u8 0)) bx 1 _ _ (.string (wordOf c)) r0
  have f2 := frozen_of_row ((w1.setCell ⟨bx, 0, none⟩ (.int .u8 0)).setCell ⟨bx, 1, none⟩ (.string (wordOf c))) bx 2 _ _ r1
  have q2 := cell_of_row ((w1.setCell ⟨bx, 0, none⟩ (.int .u8 0)).setCell ⟨bx, 1, none⟩ (.string (wordOf c))) bx 2 _ _ _ r1
  have r2 := heap_setCell_same ((w1.setCell ⟨bx, 0, none⟩ (.int .u8 0)).setCell ⟨bx, 1, none⟩ (.string (wordOf c))) bx 2 _ _ (.slice none 0 0) r1
  have f3 := frozen_of_row (((w1.setCell ⟨bx, 0, none⟩ (.int .u8 0)).setCell ⟨bx, 1, none⟩ (.string (wordOf c))).setCell ⟨bx, 2, none⟩ (.slice none 0 0)) bx 3 _ _ r2
  have q3 := cell_of_row (((w1.setCell ⟨bx, 0, none⟩ (.int .u8 0)).setCell ⟨bx, 1, none⟩ (.string (wordOf c))).setCell ⟨bx, 2, none⟩ (.slice none 0 0)) bx 3 _ _ _ r2
  have r3 := heap_setCell_same (((w1.setCell ⟨bx, 0, none⟩ (.int .u8 0)).setCell ⟨bx, 1, none⟩ (.string (wordOf c))).setCell ⟨bx, 2, none⟩ (.slice none 0 0)) bx 3 _ _ (.slice none 0 0) r2
  have f4 := frozen_of_row ((((w1.setCell ⟨bx, 0, none⟩ (.int .u8 0)).setCell ⟨bx, 1, none⟩ (.string (wordOf c))).setCell ⟨bx, 2, none⟩ (.slice none 0 0)).setCell ⟨bx, 3, none⟩ (.slice none 0 0)) bx 4 _ _ r3
  have q4 := cell_of_row ((((w1.setCell ⟨bx, 0, none⟩ (.int .u8 0)).setCell ⟨bx, 1, none⟩ (.string (wordOf c))).setCell ⟨bx, 2, none⟩ (.slice none 0 0)).setCell ⟨bx, 3, none⟩ (.slice none 0 0)) bx 4 _ _ _ r3
  have r4 := heap_setCell_same ((((w1.setCell ⟨bx, 0, none⟩ (.int .u8 0)).setCell ⟨bx, 1, none⟩ (.string (wordOf c))).setCell ⟨bx, 2, none⟩ (.slice none 0 0)).setCell ⟨bx, 3, none⟩ (.slice none 0 0)) bx 4 _ _ (.slice none 0 0) r3
  have P := put5 hr1 (.int .u8 0) (.string (wordOf c)) (.slice none 0 0) (.slice none 0 0) (.slice none 0 0)
  have HP := Lib.hid (P.below HB.out hle)
  have hrow := P.row
  have c0 := cell_of_row _ bx 0 _ _ _ hrow
  have c1 := cell_of_row _ bx 1 _ _ _ hrow
  have c2 := cell_of_row _ bx 2 _ _ _ hrow
  have c3 := cell_of_row _ bx 3 _ _ _ hrow
  have c4 := cell_of_row _ bx 4 _ _ _ hrow
  simp at q0 q1 q2 q3 q4
  clear P hr1 r0 r1 r2 r3 r4
  clear hrow
  go_wp2_with fail
  exact bodyPost_ret (v := .agg #[.int .u8 0, .string (wordOf c), .slice none 0 0, .slice none 0 0, .slice none 0 0]) (by simp [results, Tryz.results79, go_sem, c0, c1, c2, c3, c4]) rfl ⟨rfl, HP.out⟩

theorem is_Node (c : Nat) (hc : c ≤ 1000000000) {w : World} {g : Tags} (hT : Tab w g) : Calls Tryz.prog 91 #[.agg #[.int .u8 0, .string (wordOf c), .slice none 0 0, .slice none 0 0, .slice none 0 0], .int .i64 (c : Int)] w fun e w' => e = .returned (.bool true) ∧ Below w.heap.size w w' := by
  obtain ⟨hb0, hr0, hz0⟩ := Put.new w #[.int .u8 0, .string (wordOf c), .slice none 0 0, .slice none 0 0, .slice none 0 0] 74
  have HT := Lib.hid ((hT.turn (Turn.alloc w g 1 (.cells #[.int .u8 0, .string (wordOf c), .slice none 0 0, .slice none 0 0, .slice none 0 0] 74)) (by simp)).turn (Turn.drew _ _) (by simp))
  clear hT
  go_enter Tryz.func91, Tryz.ntmps91
  obtain ⟨bx, hbx⟩ : ∃ bx, bx = w.heap.size := ⟨_, rfl⟩
  obtain ⟨w0, hw0⟩ : ∃ w0, w0 = w.alloc (.cells #[.int .u8 0, .string (wordOf c), .slice none 0 0, .slice none 0 0, .slice none 0 0] 74) := ⟨_, rfl⟩
  rw [← hw0, ← hbx] at hr0
  rw [← hw0] at hb0 hz0
  rw [← hw0] at HT
  have HB := Lib.hid hb0.drew
  have e1 : w0.drew.cell? ⟨bx, 1, none⟩ = some (.string (wordOf c)) := cell_of_row w0 bx 1 _ _ _ hr0
  have E2 := Lib.hid (fun w1 (hb : Below w0.heap.size w0.drew w1) => show w1.cell? ⟨bx, 1, none⟩ = some (.string (wordOf c)) from (World.cell?_of_block (hb.block _ (Array.getElem?_eq_some_iff.1 hr0).1)).trans e1)
  go_upto_region 1 with fail
  rw [← hw0, ← hbx]
  clear hw0 hbx hb0 hz0 hr0
  go_region_law (go_simp; go_at_call 126; refine (bkWord_t c hc HT.out).mono ?_; rintro e w1 ⟨rfl, hb1⟩; have e2 := E2.out w1 hb1; have HB1 := Lib.hid hb1; clear hb1)
  all_goals
    go_wp2_with fail
    go_ret
    exact ⟨by first | rfl | simp [Act.put], HB.out.trans (HB1.out.mono HB.out.size)⟩

set_option maxRecDepth 100000 in
set_option maxHeartbeats 4000000 in
theorem fill_Node {w : World} {g : Tags} {bp : Nat} {cs : Array Value} {hs : List Ent} (hB : Book kNode w g bp cs hs) (hF : Filled kNode w g hs 0) {Q : Ending → World → Prop}
    (h : ∀ w' g', Turn w g w' g' (entTags kNode hs.length) → Book kNode w' g' bp cs hs → Filled kNode w' g' hs hs.length → Q (.returned (.tuple #[])) w') :
    Calls Tryz.prog 27 #[.pointer (some ⟨bp, 0, none⟩)] w Q := by
  have H := Lib.hid h
  have X0 := Lib.hid (And.intro hB hF)
  clear h hB hF
  go_enter Tryz.func27, Tryz.ntmps27
  go_wp2_with fail
  go_loopg [2] hs.length (fun gk v2 wr => FillAt kNode w g bp cs hs gk v2 wr)
  case atStart => exact ⟨0, g, Nat.zero_le _, rfl, rfl, Turn.refl _ _ _, X0.out.1, X0.out.2⟩
  case round =>
    obtain ⟨i, g1, hi, rfl, rfl, hT, hB, hF⟩ := hrel
    obtain ⟨vb, hvb, hA⟩ := hB.arr
    obtain ⟨ao, cap, hform⟩ := hA.form
    subst hform
    have c1 : wr.cell? ⟨bp, 8, none⟩ = some (.slice ao hs.length cap) := (hB.box.cell 8).1.trans hvb
    have i0 : (0 : Int) ≤ (i : Int) := by omega
    have hm : (hs.length : Int) ≤ 1000000000 := by have := hB.few; omega
    have X := Lib.hid (And.intro hT (And.intro hB hF))
    clear hT hF X0
    by_cases hlt : i < hs.length
    · have i1 : (i : Int) < (hs.length : Int) := by omega
      obtain ⟨b, off, cap', hv, _, _, _, _, hc⟩ := hA.cell (by omega)
      cases hv
      obtain ⟨r0, r1, r2⟩ := rows_at hs i hlt
      have d0 : wr.cell? ⟨b, off + i * 3, none⟩ = some hs[i].v := (hc (i * 3) (by omega)).1.trans r0
      have d1 : wr.cell? ⟨b, off + i * 3 + 1, none⟩ = some hs[i].long := (hc (i * 3 + 1) (by omega)).1.trans r1
      have d2 : wr.cell? ⟨b, off + i * 3 + 2, none⟩ = some (.int .i64 (hs[i].num : Int)) := (hc (i * 3 + 2) (by omega)).1.trans r2
      have hok := hB.ok _ (List.getElem_mem hlt)
      obtain ⟨xs, hx⟩ : ∃ xs, Owns wr g1 (entTag kNode i) 74 5 hs[i].v hs[i].n xs := by have := X.out.2.2 i hlt; rw [if_neg (by omega)] at this; exact this
      obtain ⟨x, hxx⟩ : ∃ x, x = hs[i] := ⟨_, rfl⟩
      rw [← hxx] at d0 d1 d2 hok hx
      obtain ⟨va, n, vc, la, ll, lc, num⟩ := x
      simp only [Ent.v, Ent.long] at d0 d1 d2 hok hx
      have T2 := Turn.alloc wr g1 900 (.cells #[.slice va n vc, .slice la ll lc, .int .i64 (num : Int)] 127)
      have B2 := Bx.alloc wr g1 127 900 #[.slice va n vc, .slice la ll lc, .int .i64 (num : Int)]
      have X2 := Lib.hid (And.intro T2 (And.intro B2 (And.intro (hx.turn T2 (by simp)) (hB.tab.turn T2 (by simp)))))
      have HX := Lib.hid (And.intro hxx (And.intro hlt hok))
      have hn1 : (n : Int) ≤ 1000000000 := by have := hok.1; omega
      have hnum : (num : Int) ≤ 1000000000 := by have := hok.2.2; omega
      clear T2 B2 hx hok hxx hvb hA hB hc r0 r1 r2 hi
      go_upto_region 4 with fail
      generalize hw2 : wr.alloc (.cells #[.slice va n vc, .slice la ll lc, .int .i64 (num : Int)] 127) = w2 at X2 ⊢
      generalize wr.heap.size = bx at X2 ⊢
      generalize g1.ext bx 900 = g2 at X2
      clear hw2 d0 d1 d2
      go_wp2_with fail
      go_loopg [4] n (fun gk v4 wr => Fill1 kNode w2 g2 bx ⟨va, n, vc, la, ll, lc, num⟩ (entTag kNode i) gk v4 wr)
      case atStart => exact ⟨0, xs, g2, Nat.zero_le _, rfl, rfl, Turn.refl _ _ _, X2.out.2.1, X2.out.2.2.1⟩
      case round =>
        obtain ⟨k, ys, g3, hk, rfl, rfl, hT3, hB3, hO3⟩ := hrel
        simp only [Ent.v] at hO3 hB3
        have hk : k ≤ n := hk
        have e0 := (hB3.cell 0).1
        have e2 := (hB3.cell 2).1
        simp at e0 e2
        have k0 : (0 : Int) ≤ (k : Int) := by omega
        by_cases hkn : k < n
        · have k1 : (k : Int) < (n : Int) := by omega
          obtain ⟨b1, off1, cap1, hv, _, _, _, hb1, hc⟩ := hO3.cell (by omega)
          cases hv
          have hE : 0 ∉ [entTag kNode i] := low_ent _ _ (by decide)
          have D3 := Turn.drew wr g3
          have X3 := Lib.hid (And.intro (hT3.trans D3 (V := [entTag kNode i]) (by simp) (by simp)) (And.intro (hB3.turn D3 (by simp)) (And.intro (hO3.turn D3 (by simp)) ((X2.out.2.2.2.turn hT3 hE).turn D3 (by simp)))))
          have F3 := Lib.hid (fun (w5 : World) (hb : Below wr.drew.heap.size wr.drew w5) => show w5.cell? ⟨bx, 0, none⟩ = some (.slice (some ⟨b1, off1, none⟩) n vc) ∧ w5.cell? ⟨bx, 2, none⟩ = some (.int .i64 (num : Int)) from
            ⟨(World.cell?_of_block (hb.block _ X3.out.2.1.lt)).trans e0, (World.cell?_of_block (hb.block _ X3.out.2.1.lt)).trans e2⟩)
          have q0 : wr.drew.cell? ⟨bx, 0, none⟩ = some (.slice (some ⟨b1, off1, none⟩) n vc) := e0
          have q2 : wr.drew.cell? ⟨bx, 2, none⟩ = some (.int .i64 (num : Int)) := e2
          clear hT3 hB3 hO3 D3 hc hE
          go_upto_region 7 with fail
          go_region_law (go_simp; go_at_call 79; refine (mark_Node num (by omega) X3.out.2.2.2).mono ?_; rintro e w6 ⟨rfl, hb6⟩; obtain ⟨p0, p2⟩ := F3.out w6 hb6; have T6 := Turn.of_below hb6 g3 901; have X5 := Lib.hid (And.intro (X3.out.1.trans T6 (V := [entTag kNode i]) (by simp) (by simp)) (And.intro (X3.out.2.1.turn T6 (by simp)) (X3.out.2.2.1.turn T6 (by simp)))); clear T6 hb6; obtain ⟨hm0, hm1, hm2, hm3, hm4⟩ := may5 X5.out.2.2 (k * 5) (by show k * 5 + 5 ≤ n * 5; omega) (.int .u8 0) (.string (wordOf num)) (.slice none 0 0) (.slice none 0 0); obtain ⟨⟨z0, mz0⟩, mf0⟩ := hm0; obtain ⟨⟨z1, mz1⟩, mf1⟩ := hm1; obtain ⟨⟨z2, mz2⟩, mf2⟩ := hm2; obtain ⟨⟨z3, mz3⟩, mf3⟩ := hm3; obtain ⟨⟨z4, mz4⟩, mf4⟩ := hm4)
          all_goals
            obtain ⟨ys', S1, S2⟩ := owns_mark kNode_good X5.out.2.2 hkn
            have X4 := Lib.hid (And.intro (X5.out.1.trans S2 (V := [entTag kNode i]) (by simp) (by simp)) (And.intro (X5.out.2.1.turn S2 (low_ent _ _ (by decide))) S1))
            clear S1 S2
            go_wp2_with fail
            go_roundg (n - (k + 1))
            case measure => omega
            case rel => exact ⟨k + 1, ys', _, (show k + 1 ≤ n by omega), rfl, by go_num, X4.out.1, X4.out.2.1, X4.out.2.2⟩
        · obtain rfl : k = n := by omega
          have hys : ys = [] := by
            obtain ⟨_, ho, _⟩ := hO3
            have := ho.1
            rw [List.length_append, marks_len kNode_good] at this
            exact List.eq_nil_of_length_eq_zero (by omega)
          subst hys
          rw [List.append_nil] at hO3
          have T4 := X2.out.1.trans hT3 (V := [entTag kNode i]) (by simp) (by simp)
          have X5 := Lib.hid (And.intro (X.out.1.trans T4 (V := entTags kNode hs.length) (fun _ h => h) (entTag_mem HX.out.2.1)) (And.intro (X.out.2.1.turn T4 (low_ent _ _ (by decide)) (low_ent _ _ (by decide)) (low_ent _ _ (by decide))) (X.out.2.2.other HX.out.2.1 T4 (by rw [← HX.out.1]; exact hO3))))
          clear hT3 hB3 hO3 T4
          go_wp2_with fail
          go_roundg (hs.length - (i + 1))
          case measure => omega
          case rel => exact ⟨i + 1, g3, HX.out.2.1, rfl, by go_num, X5.out.1, X5.out.2.1, X5.out.2.2⟩
    · obtain rfl : i = hs.length := by omega
      clear hlt hvb hA hB
      go_wp2_with fail
      go_end0
      exact H.out _ g1 X.out.1 X.out.2.1 X.out.2.2

set_option maxRecDepth 100000 in
set_option maxHeartbeats 4000000 in
theorem grow_Node {w : World} {g : Tags} {bp : Nat} {cs : Array Value} {hs0 : List Ent} (hB : Book kNode w g bp cs hs0) (hF : GrownTo kNode w g hs0 0) {Q : Ending → World → Prop}
    (h : ∀ w' g' hs, Turn w g w' g' (arrTag kNode :: entTags kNode hs0.length) → Book kNode w' g' bp cs hs → hs.length = hs0.length → GrownTo kNode w' g' hs hs.length → Q (.returned (.tuple #[])) w') :
    Calls Tryz.prog 39 #[.pointer (some ⟨bp, 0, none⟩)] w Q := by
  have H := Lib.hid h
  have X0 := Lib.hid (And.intro hB hF)
  obtain ⟨m, hmm⟩ : ∃ m, m = hs0.length := ⟨_, rfl⟩
  have HM := Lib.hid hmm
  clear h hB hF hmm
  go_enter Tryz.func39, Tryz.ntmps39
  go_wp2_with fail
  go_loopg [2] m (fun gk v2 wr => GrowAt kNode w g bp cs m gk v2 wr)
  case atStart => exact ⟨0, hs0, g, HM.out.symm, Nat.zero_le _, rfl, rfl, Turn.refl _ _ _, X0.out.1, X0.out.2⟩
  case round =>
    obtain ⟨i, hs, g1, hml, hi, rfl, rfl, hT, hB, hF⟩ := hrel
    subst hml
    obtain ⟨vb, hvb, hA⟩ := hB.arr
    obtain ⟨ao, cap, hform⟩ := hA.form
    subst hform
    have c1 : wr.cell? ⟨bp, 8, none⟩ = some (.slice ao hs.length cap) := (hB.box.cell 8).1.trans hvb
    have i0 : (0 : Int) ≤ (i : Int) := by omega
    have hm : (hs.length : Int) ≤ 1000000000 := by have := hB.few; omega
    have X := Lib.hid (And.intro hT (And.intro hB hF))
    clear hT hF X0
    by_cases hlt : i < hs.length
    · have i1 : (i : Int) < (hs.length : Int) := by omega
      obtain ⟨b, off, cap', hv, hgb, _, _, hbl, hc⟩ := hA.cell (by omega)
      cases hv
      obtain ⟨r0, r1, r2⟩ := rows_at hs i hlt
      have d0 : wr.cell? ⟨b, off + i * 3, none⟩ = some hs[i].v := (hc (i * 3) (by omega)).1.trans r0
      have d1 : wr.cell? ⟨b, off + i * 3 + 1, none⟩ = some hs[i].long := (hc (i * 3 + 1) (by omega)).1.trans r1
      have d2 : wr.cell? ⟨b, off + i * 3 + 2, none⟩ = some (.int .i64 (hs[i].num : Int)) := (hc (i * 3 + 2) (by omega)).1.trans r2
      have hok := hB.ok _ (List.getElem_mem hlt)
      have hx : Owns wr g1 (entTag kNode i) 74 5 hs[i].v hs[i].n (marks kNode hs[i].num hs[i].n) := by have := X.out.2.2 i hlt; rw [if_neg (by omega)] at this; exact this
      obtain ⟨x, hxx⟩ : ∃ x, x = hs[i] := ⟨_, rfl⟩
      rw [← hxx] at d0 d1 d2 hok hx
      obtain ⟨va, n, vc, la, ll, lc, num⟩ := x
      simp only [Ent.v, Ent.long] at d0 d1 d2 hok hx
      have T2 := Turn.alloc wr g1 900 (.cells #[.slice va n vc, .slice la ll lc, .int .i64 (num : Int)] 127)
      have B2 := Bx.alloc wr g1 127 900 #[.slice va n vc, .slice la ll lc, .int .i64 (num : Int)]
      have X2 := Lib.hid (And.intro T2 (And.intro B2 (And.intro (hx.turn T2 (by simp)).grown (hB.tab.turn T2 (by simp)))))
      have HX := Lib.hid (And.intro hxx (And.intro hlt hok))
      have HV := Lib.hid hvb
      have hn1 : (n : Int) ≤ 1000000000 := by have := hok.1; omega
      have hnum : (num : Int) ≤ 1000000000 := by have := hok.2.2; omega
      clear T2 B2 hx hok hxx hvb hA hB hc r0 r1 r2 hi
      go_upto_region 4 with fail
      obtain ⟨bx, hbx⟩ : ∃ bx, bx = wr.heap.size := ⟨_, rfl⟩
      rw [← hbx] at X2 ⊢
      generalize hw2 : wr.alloc (.cells #[.slice va n vc, .slice la ll lc, .int .i64 (num : Int)] 127) = w2 at X2 ⊢
      generalize g1.ext bx 900 = g2 at X2
      clear hw2 d0 d1 d2 hbx
      have e0 : w2.cell? ⟨bx, 0, none⟩ = some (.slice va n vc) := (X2.out.2.1.cell 0).1
      go_wp2_with fail
      clear e0
      go_loopg [4, 5] 40 (fun gk v4 v5 wr => Grow1 kNode w2 g2 bx ⟨va, n, vc, la, ll, lc, num⟩ (entTag kNode i) gk v4 v5 wr)
      case atStart => exact ⟨0, va, vc, g2, by decide, rfl, rfl, rfl, Turn.refl _ _ _, X2.out.2.1, X2.out.2.2.1⟩
      case round =>
        obtain ⟨k, ua, uc, g3, hk, rfl, rfl, rfl, hT3, hB3, hG3⟩ := hrel
        simp only [Ent.v] at hG3 hB3
        have k0 : (0 : Int) ≤ (k : Int) := by omega
        by_cases hkn : k < 40
        · have k1 : (k : Int) < 40 := by omega
          have e2 := (hB3.cell 2).1
          simp at e2
          have hE : 0 ∉ [entTag kNode i] := low_ent _ _ (by decide)
          have HX3 := Lib.hid (And.intro hT3 (And.intro hB3 (And.intro hG3 (X2.out.2.2.2.turn hT3 hE))))
          clear hT3 hB3 hG3 hE
          go_wp2_with fail
          refine (mark_Node num (by omega) HX3.out.2.2.2).mono ?_
          rintro e w5 ⟨rfl, hb5⟩
          have T5 := Turn.of_below hb5 g3 901
          generalize g3.ext wr.heap.size 901 = g5 at T5
          have T4 := Turn.alloc w5 g5 901 (.cells #[.int .u8 0, .string (wordOf num), .slice none 0 0, .slice none 0 0, .slice none 0 0] 74)
          have S4 : ∀ j q, [Value.int .u8 0, .string (wordOf num), .slice none 0 0, .slice none 0 0, .slice none 0 0][j]? = some q → (w5.alloc (.cells #[.int .u8 0, .string (wordOf num), .slice none 0 0, .slice none 0 0, .slice none 0 0] 74)).cell? ((⟨w5.heap.size, 0, none⟩ : Addr).add j) = some q := by
            intro j q hj
            rw [add_none, cell_of_row _ w5.heap.size (0 + j) _ _ _ (heap_alloc_new w5 _), ← hj]
            simp
          have X4 := Lib.hid (And.intro ((HX3.out.1.trans T5 (V := [entTag kNode i]) (by simp) (by simp)).trans T4 (V := [entTag kNode i]) (by simp) (by simp)) (And.intro ((HX3.out.2.1.turn T5 (by simp)).turn T4 (by simp)) (And.intro ((HX3.out.2.2.1.turn T5 (by simp)).turn T4 (by simp)) S4)))
          clear T4 S4 T5 hb5 e2
          go_wp2_with (refine wpList_append_grown _ rfl (.tmp 28) (.tmp 32) rfl elNode (u := .slice ua (n + k) uc) (y := .slice (some ⟨w5.heap.size, 0, none⟩) 1 1) (ad := ⟨w5.heap.size, 0, none⟩) (c := 1) (news := [.int .u8 0, .string (wordOf num), .slice none 0 0, .slice none 0 0, .slice none 0 0]) rfl X4.out.2.2.1 rfl rfl rfl X4.out.2.2.2 (by simp [Value.oneCell']) (by unfold maxLen; omega) (by omega) ?_; intro ua' uc' w6 g6 hG6 hT6; have X6 := Lib.hid (And.intro hG6 hT6); clear hG6 hT6)
          have e5 : marks kNode num k ++ [Value.int .u8 0, .string (wordOf num), .slice none 0 0, .slice none 0 0, .slice none 0 0] = marks kNode num (k + 1) := (marks_succ kNode num k).symm
          have X7 := Lib.hid (And.intro (X4.out.1.trans X6.out.2 (V := [entTag kNode i]) (by simp) (by simp)) (And.intro (X4.out.2.1.turn X6.out.2 (low_ent _ _ (by decide))) (e5 ▸ X6.out.1)))
          clear X4 X6 e5
          go_roundg (40 - (k + 1))
          case measure => omega
          case rel => exact ⟨k + 1, ua', uc', g6, by omega, rfl, rfl, by go_num, X7.out.1, X7.out.2.1, X7.out.2.2⟩
        · obtain rfl : k = 40 := by omega
          have T4 := X2.out.1.trans hT3 (V := [entTag kNode i]) (by simp) (by simp)
          have B5 := X.out.2.1.turn T4 (low_ent _ _ (by decide)) (low_ent _ _ (by decide)) (low_ent _ _ (by decide))
          obtain ⟨vb, hvb, hA⟩ := B5.arr
          have hvb' : vb = .slice (some ⟨b, off, none⟩) hs.length cap := by
            have := HV.out; rw [hvb] at this; exact Option.some.inj this
          subst hvb'
          have q1 : wr.cell? ⟨bp, 8, none⟩ = some (.slice (some ⟨b, off, none⟩) hs.length cap) := (B5.box.cell 8).1.trans hvb
          obtain ⟨_, _, _, hv, _, _, _, _, hc⟩ := hA.cell (by omega)
          cases hv
          obtain ⟨_, r1, _⟩ := rows_at hs i hlt
          obtain ⟨z0, z1⟩ := hc (i * 3 + 1) (by omega)
          have q2 : wr.cell? ⟨b, off + i * 3 + 1, none⟩ = some (hs[i]).long := z0.trans r1
          have q3 : wr.frozen? ⟨b, off + i * 3 + 1, none⟩ = false := z1
          have S := hA.set (i * 3 + 1) (by omega) (.slice ua (n + 40) uc)
          rw [← Nat.add_assoc] at S
          have hgr := X.out.2.2.next HX.out.2.1 T4 (la := ua) (lc := uc) (by rw [← HX.out.1]; exact hG3)
          have hlen : (hs.set i (hs[i].with_ ua (hs[i].n + 40) uc)).length = hs.length := by simp
          have hnn : hs[i].n = n := by rw [← HX.out.1]
          have B6 : Book kNode (wr.setCell ⟨b, off + i * 3 + 1, none⟩ (.slice ua (n + 40) uc)) g3 bp cs (hs.set i (hs[i].with_ ua (hs[i].n + 40) uc)) := by
            refine ⟨B5.box.turn S.2 (by decide), ⟨_, hvb, ?_⟩, by rw [hlen]; exact B5.few, fun x hx => ?_, B5.tab.turn S.2 (by decide)⟩
            · have h9 := S.1
              have e9 := rows_set hs i hlt ua (hs[i].n + 40) uc
              have e10 : rows (hs.set i (hs[i].with_ ua (hs[i].n + 40) uc)) = (rows hs).set (i * 3 + 1) (.slice ua (n + 40) uc) := by rw [e9, hnn]
              rw [hlen, e10]
              exact h9
            · rcases List.mem_or_eq_of_mem_set hx with h | h
              · exact B5.ok _ h
              · subst h; have := B5.ok _ (List.getElem_mem hlt); exact this
          have X8 := Lib.hid (And.intro (X.out.1.trans (T4.trans S.2 (V := [entTag kNode i, arrTag kNode]) (by simp) (by simp)) (V := arrTag kNode :: entTags kNode hs.length) (fun _ h => h) (fun t ht => by
            rcases List.mem_cons.1 ht with h | h
            · exact List.mem_cons_of_mem _ (entTag_mem hlt t (List.mem_singleton.2 h))
            · rw [List.mem_singleton.1 h]; exact List.mem_cons_self ..)) (And.intro B6 (hgr.turn S.2 (fun j => by simp [entTag, arrTag]; omega))))
          clear hT3 hB3 hG3 T4 B5 hA hvb hc r1 z0 z1 S hgr B6 hnn
          generalize hs.set i (hs[i].with_ ua (hs[i].n + 40) uc) = hs' at *
          generalize hs[i] = y at *
          obtain ⟨yva, yn, yvc, yla, yll, ylc, ynum⟩ := y
          simp only [Ent.long] at q2
          go_wp2_with fail
          go_roundg (hs.length - (i + 1))
          case measure => omega
          case rel => exact ⟨i + 1, _, g3, hlen, hlt, rfl, by go_num, X8.out.1, X8.out.2.1, X8.out.2.2⟩
    · obtain rfl : i = hs.length := by omega
      clear hlt hvb hA hB
      go_wp2_with fail
      go_end0
      exact H.out _ g1 hs (HM.out ▸ X.out.1) X.out.2.1 HM.out X.out.2.2

end Go.Proofs.YtcldcigopkfmmaaGreatDoor
