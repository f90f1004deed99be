/- A book of lists of the kind Node: it looks; one more list. -/
import Derived.Test.YtcldcigopkfmmaaGreatDoorGkNodeAQ
import Derived.Deep.RegionLaw
namespace Go.Proofs.YtcldcigopkfmmaaGreatDoor
open Go.RowKit Go.My

theorem is_Node' (c : Nat) (hc : c ≤ 1000000000) {w : World} (hT : ∃ g, Tab w g) : Calls Tryz.prog 91 #[.agg #[.int .u8 0, .string (wordOf c), .slice none 0 0, .slice none 0 0, .slice none 0 0], .int .i64 (c : Int)] w fun e w' => e = .returned (.bool true) ∧ Below w.heap.size w w' := by
  obtain ⟨g, hT⟩ := hT
  exact is_Node c hc hT
theorem heldNodeElem : Elem Tryz.prog 34 127 3 56 (.agg #[.slice none 0 0, .slice none 0 0, .int .i64 0]) := Elem.mk' Tryz.underlying34 (by kernel_rfl) rfl (by decide)

def longNode (W : World) (b1 off1 k num : Nat) : Prop := W.cell? ⟨b1, off1 + k * 5, none⟩ = some (.int .u8 0) ∧ W.cell? ⟨b1, off1 + k * 5 + 1, none⟩ = some (.string (wordOf num)) ∧ W.cell? ⟨b1, off1 + k * 5 + 2, none⟩ = some (.slice none 0 0) ∧ W.cell? ⟨b1, off1 + k * 5 + 3, none⟩ = some (.slice none 0 0) ∧ W.cell? ⟨b1, off1 + k * 5 + 4, none⟩ = some (.slice none 0 0)
theorem longNode_of {W : World} {b1 off1 k num : Nat} (h : ∀ j, j < kNode.size → W.cell? ⟨b1, off1 + (k * kNode.size + j), none⟩ = (kNode.mark num)[j]?) : longNode W b1 off1 k num := by
  have h0 := h 0 (by decide)
  have h1 := h 1 (by decide)
  have h2 := h 2 (by decide)
  have h3 := h 3 (by decide)
  have h4 := h 4 (by decide)
  rw [← Nat.add_assoc] at h0
  rw [← Nat.add_assoc] at h1
  rw [← Nat.add_assoc] at h2
  rw [← Nat.add_assoc] at h3
  rw [← Nat.add_assoc] at h4
  exact ⟨h0, h1, h2, h3, h4⟩

set_option maxRecDepth 100000 in
set_option maxHeartbeats 8000000 in
theorem look_Node {w : World} {g : Tags} {bp : Nat} {cs : Array Value} {hs : List Ent} (hB : Book kNode w g bp cs hs) (hF : GrownTo kNode w g hs hs.length) {Q : Ending → World → Prop}
    (h : ∀ w' g', Turn w g w' g' [] → Book kNode w' g' bp cs hs → Q (.returned (.bool true)) w') :
    Calls Tryz.prog 51 #[.pointer (some ⟨bp, 0, none⟩)] w Q := by
  have H := Lib.hid h
  have X0 := Lib.hid (And.intro hB hF)
  clear h hB hF
  go_enter Tryz.func51, Tryz.ntmps51
  go_wp2_with fail
  go_loopg [3] hs.length (fun gk v3 wr => LookAt kNode w g bp cs hs gk v3 wr)
  case atStart => exact ⟨0, g, Nat.zero_le _, rfl, rfl, Turn.refl _ _ _, X0.out.1, X0.out.2⟩
  case round =>
    obtain ⟨i, g1, hi, rfl, rfl, hT, hB, hF⟩ := hrel
    obtain ⟨vb, hvb, hA⟩ := hB.arr
    obtain ⟨ao, cap, hform⟩ := hA.form
    subst hform
    have c1 : wr.cell? ⟨bp, 8, none⟩ = some (.slice ao hs.length cap) := (hB.box.cell 8).1.trans hvb
    have i0 : (0 : Int) ≤ (i : Int) := by omega
    have hm : (hs.length : Int) ≤ 1000000000 := by have := hB.few; omega
    have X := Lib.hid (And.intro hT (And.intro hB hF))
    clear hT hF X0
    by_cases hlt : i < hs.length
    · have i1 : (i : Int) < (hs.length : Int) := by omega
      obtain ⟨b, off, cap', hv, hgb, _, _, hbl, hc⟩ := hA.cell (by omega)
      cases hv
      obtain ⟨r0, r1, r2⟩ := rows_at hs i hlt
      have d0 : wr.cell? ⟨b, off + i * 3, none⟩ = some hs[i].v := (hc (i * 3) (by omega)).1.trans r0
      have d1 : wr.cell? ⟨b, off + i * 3 + 1, none⟩ = some hs[i].long := (hc (i * 3 + 1) (by omega)).1.trans r1
      have d2 : wr.cell? ⟨b, off + i * 3 + 2, none⟩ = some (.int .i64 (hs[i].num : Int)) := (hc (i * 3 + 2) (by omega)).1.trans r2
      have hok := hB.ok _ (List.getElem_mem hlt)
      have hx := X.out.2.2 i hlt
      rw [if_pos hlt] at hx
      obtain ⟨x, hxx⟩ : ∃ x, x = hs[i] := ⟨_, rfl⟩
      rw [← hxx] at d0 d1 d2 hok hx
      clear hxx
      obtain ⟨va, n, vc, la, ll, lc, num⟩ := x
      simp only [Ent.v, Ent.long] at d0 d1 d2 hok hx
      obtain ⟨rfl, hx⟩ := hx
      have T2 := Turn.alloc wr g1 900 (.cells #[.slice va n vc, .slice la (n + 40) lc, .int .i64 (num : Int)] 127)
      have B2 := Bx.alloc wr g1 127 900 #[.slice va n vc, .slice la (n + 40) lc, .int .i64 (num : Int)]
      have X2 := Lib.hid (And.intro T2 (And.intro B2 (And.intro (hx.turn T2 (by simp)) (hB.tab.turn T2 (by simp)))))
      have hn1 : (n : Int) ≤ 1000000000 := by have := hok.1; omega
      have hnum : (num : Int) ≤ 1000000000 := by have := hok.2.2; omega
      have HL := Lib.hid hlt
      clear T2 B2 hx hok hvb hA hB hc r0 r1 r2 hi
      go_upto_region 5 with fail
      obtain ⟨bx, hbx⟩ : ∃ bx, bx = wr.heap.size := ⟨_, rfl⟩
      rw [← hbx] at X2 ⊢
      generalize hw2 : wr.alloc (.cells #[.slice va n vc, .slice la (n + 40) lc, .int .i64 (num : Int)] 127) = w2 at X2 ⊢
      generalize g1.ext bx 900 = g2 at X2
      clear hw2 d0 d1 d2 hbx c1
      have e0 : w2.cell? ⟨bx, 0, none⟩ = some (.slice va n vc) := (X2.out.2.1.cell 0).1
      have e1 : w2.cell? ⟨bx, 1, none⟩ = some (.slice la (n + 40) lc) := (X2.out.2.1.cell 1).1
      have HE := Lib.hid (fun (W : World) (hW : Still w2 g2 W) => show W.cell? ⟨bx, 0, none⟩ = some (.slice va n vc) ∧ W.cell? ⟨bx, 1, none⟩ = some (.slice la (n + 40) lc) ∧ W.cell? ⟨bx, 2, none⟩ = some (.int .i64 (num : Int)) from by
        obtain ⟨g', T⟩ := hW
        have hb := X2.out.2.1.turn T (by simp)
        exact ⟨(hb.cell 0).1, (hb.cell 1).1, (hb.cell 2).1⟩)
      go_wp2_with fail
      clear e0 e1
      go_loopg [5] (n + 40) (fun gk v5 wr => Look1 w2 g2 (n + 40) gk v5 wr)
      case atStart => exact ⟨0, Nat.zero_le _, rfl, rfl, Still.refl _ _⟩
      case round =>
        obtain ⟨k, hk, rfl, rfl, hS⟩ := hrel
        have k0 : (0 : Int) ≤ (k : Int) := by omega
        obtain ⟨e0, e1, e2⟩ := HE.out wr hS
        by_cases hkn : k < n + 40
        · have k1 : (k : Int) < (n : Int) + 40 := by omega
          obtain ⟨b1, off1, rfl, hc1⟩ := look_long kNode_good X2.out.2.2.1 hkn
          have HC := Lib.hid (fun W (hW : Still w2 g2 W) => longNode_of (hc1 W hW))
          clear hc1
          by_cases hk2 : k < n
          · have k2 : decide (k < n) = true := by simp [hk2]
            have k3 : (k : Int) < (n : Int) := by omega
            obtain ⟨b2, off2, rfl, hc2⟩ := look_short kNode_good X2.out.2.2.1 hk2
            have HD := Lib.hid (fun W (hW : Still w2 g2 W) => longNode_of (hc2 W hW))
            clear hc2 hk
            go_wp2_with fail
            have hS0 := still_drew hS
            obtain ⟨c0, c1, c2, c3, c4⟩ := HC.out _ hS
            obtain ⟨d0, d1, d2, d3, d4⟩ := HD.out _ hS
            clear hS
            have KS := Lib.hid (fun (W : World) (hW : Still w2 g2 W) => show ((W.cell? ⟨bx, 0, none⟩ = some (.slice (some ⟨b2, off2, none⟩) n vc) ∧ W.cell? ⟨bx, 1, none⟩ = some (.slice (some ⟨b1, off1, none⟩) (n + 40) lc) ∧ W.cell? ⟨bx, 2, none⟩ = some (.int .i64 (num : Int))) ∧ (W.cell? ⟨b1, off1 + k * 5, none⟩ = some (.int .u8 0) ∧ W.cell? ⟨b1, off1 + k * 5 + 1, none⟩ = some (.string (wordOf num)) ∧ W.cell? ⟨b1, off1 + k * 5 + 2, none⟩ = some (.slice none 0 0) ∧ W.cell? ⟨b1, off1 + k * 5 + 3, none⟩ = some (.slice none 0 0) ∧ W.cell? ⟨b1, off1 + k * 5 + 4, none⟩ = some (.slice none 0 0)) ∧ (W.cell? ⟨b2, off2 + k * 5, none⟩ = some (.int .u8 0) ∧ W.cell? ⟨b2, off2 + k * 5 + 1, none⟩ = some (.string (wordOf num)) ∧ W.cell? ⟨b2, off2 + k * 5 + 2, none⟩ = some (.slice none 0 0) ∧ W.cell? ⟨b2, off2 + k * 5 + 3, none⟩ = some (.slice none 0 0) ∧ W.cell? ⟨b2, off2 + k * 5 + 4, none⟩ = some (.slice none 0 0))) ∧ Still w2 g2 W from ⟨⟨HE.out W hW, HC.out W hW, HD.out W hW⟩, hW⟩)
            go_region_held3 (fun W => ((W.cell? ⟨bx, 0, none⟩ = some (.slice (some ⟨b2, off2, none⟩) n vc) ∧ W.cell? ⟨bx, 1, none⟩ = some (.slice (some ⟨b1, off1, none⟩) (n + 40) lc) ∧ W.cell? ⟨bx, 2, none⟩ = some (.int .i64 (num : Int))) ∧ (W.cell? ⟨b1, off1 + k * 5, none⟩ = some (.int .u8 0) ∧ W.cell? ⟨b1, off1 + k * 5 + 1, none⟩ = some (.string (wordOf num)) ∧ W.cell? ⟨b1, off1 + k * 5 + 2, none⟩ = some (.slice none 0 0) ∧ W.cell? ⟨b1, off1 + k * 5 + 3, none⟩ = some (.slice none 0 0) ∧ W.cell? ⟨b1, off1 + k * 5 + 4, none⟩ = some (.slice none 0 0)) ∧ (W.cell? ⟨b2, off2 + k * 5, none⟩ = some (.int .u8 0) ∧ W.cell? ⟨b2, off2 + k * 5 + 1, none⟩ = some (.string (wordOf num)) ∧ W.cell? ⟨b2, off2 + k * 5 + 2, none⟩ = some (.slice none 0 0) ∧ W.cell? ⟨b2, off2 + k * 5 + 3, none⟩ = some (.slice none 0 0) ∧ W.cell? ⟨b2, off2 + k * 5 + 4, none⟩ = some (.slice none 0 0))) ∧ Still w2 g2 W)
              (first | assumption | exact KS.out _ hS0 | exact keepL KS (by assumption) (by assumption))
              ((go_at_call 91; refine (is_Node' num (by omega) (still_tab X2.out.2.2.2 (And.right (by assumption)))).mono ?_; rintro e w5 ⟨rfl, hb5⟩))
            all_goals
              go_wp2_with fail
              go_roundg (n + 40 - (k + 1))
              case measure => omega
              case rel => exact ⟨k + 1, by omega, rfl, by go_num, And.right (by assumption)⟩
          · have k2 : decide (k < n) = false := by simp [hk2]
            have k3 : (n : Int) ≤ (k : Int) := by omega
            clear hk
            go_wp2_with fail
            have hS0 := still_drew hS
            obtain ⟨c0, c1, c2, c3, c4⟩ := HC.out _ hS
            clear hS
            have KS := Lib.hid (fun (W : World) (hW : Still w2 g2 W) => show ((W.cell? ⟨bx, 0, none⟩ = some (.slice va n vc) ∧ W.cell? ⟨bx, 1, none⟩ = some (.slice (some ⟨b1, off1, none⟩) (n + 40) lc) ∧ W.cell? ⟨bx, 2, none⟩ = some (.int .i64 (num : Int))) ∧ (W.cell? ⟨b1, off1 + k * 5, none⟩ = some (.int .u8 0) ∧ W.cell? ⟨b1, off1 + k * 5 + 1, none⟩ = some (.string (wordOf num)) ∧ W.cell? ⟨b1, off1 + k * 5 + 2, none⟩ = some (.slice none 0 0) ∧ W.cell? ⟨b1, off1 + k * 5 + 3, none⟩ = some (.slice none 0 0) ∧ W.cell? ⟨b1, off1 + k * 5 + 4, none⟩ = some (.slice none 0 0))) ∧ Still w2 g2 W from ⟨⟨HE.out W hW, HC.out W hW⟩, hW⟩)
            refine wp_region_held_drew (S := fun W => ((W.cell? ⟨bx, 0, none⟩ = some (.slice va n vc) ∧ W.cell? ⟨bx, 1, none⟩ = some (.slice (some ⟨b1, off1, none⟩) (n + 40) lc) ∧ W.cell? ⟨bx, 2, none⟩ = some (.int .i64 (num : Int))) ∧ (W.cell? ⟨b1, off1 + k * 5, none⟩ = some (.int .u8 0) ∧ W.cell? ⟨b1, off1 + k * 5 + 1, none⟩ = some (.string (wordOf num)) ∧ W.cell? ⟨b1, off1 + k * 5 + 2, none⟩ = some (.slice none 0 0) ∧ W.cell? ⟨b1, off1 + k * 5 + 3, none⟩ = some (.slice none 0 0) ∧ W.cell? ⟨b1, off1 + k * 5 + 4, none⟩ = some (.slice none 0 0))) ∧ Still w2 g2 W) (by kernel_rfl) (KS.out _ hS0) (fun hHeld => ?_)
            refine wpAnyH_take (i := 0) (oi := { dst := some 37, op := _, type := _, pos := _, after := _, guard := none }) (v := ?_) rfl (by kernel_rfl) (by kernel_rfl) (by kernel_rfl) (fun _ _ _ h => h) (Or.inl ⟨by rfl, ?gy0⟩) (by assumption) ?_
            case gy0 => (intro w hSw; (try dsimp only at hSw); go_simp; try with_reducible rfl)
            try simp only [Act.put, List.setIfInBounds_toArray, List.set_cons_zero, List.set_cons_succ]
            refine wpAnyH_take (i := 1) (oi := { dst := some 38, op := _, type := _, pos := _, after := _, guard := none }) (v := ?_) rfl (by kernel_rfl) (by kernel_rfl) (by kernel_rfl) (fun _ _ _ h => h) (Or.inl ⟨by rfl, ?gy1⟩) (by assumption) ?_
            case gy1 => (intro w hSw; (try dsimp only at hSw); go_simp; try with_reducible rfl)
            try simp only [Act.put, List.setIfInBounds_toArray, List.set_cons_zero, List.set_cons_succ]
            refine wpAnyH_take (i := 2) (oi := { dst := some 39, op := _, type := _, pos := _, after := _, guard := none }) (v := ?_) rfl (by kernel_rfl) (by kernel_rfl) (by kernel_rfl) (fun _ _ _ h => h) (Or.inl ⟨by rfl, ?gy2⟩) (by assumption) ?_
            case gy2 => (intro w hSw; (try dsimp only at hSw); go_simp; try with_reducible rfl)
            try simp only [Act.put, List.setIfInBounds_toArray, List.set_cons_zero, List.set_cons_succ]
            refine wpAnyH_take (i := 3) (oi := { dst := some 40, op := _, type := _, pos := _, after := _, guard := none }) (v := ?_) rfl (by kernel_rfl) (by kernel_rfl) (by kernel_rfl) (fun _ _ _ h => h) (Or.inl ⟨by rfl, ?gy3⟩) (by assumption) ?_
            case gy3 => (intro w hSw; (try dsimp only at hSw); go_simp; try with_reducible rfl)
            try simp only [Act.put, List.setIfInBounds_toArray, List.set_cons_zero, List.set_cons_succ]
            refine wpAnyH_take (i := 4) (oi := { dst := some 41, op := _, type := _, pos := _, after := _, guard := none }) (v := ?_) rfl (by kernel_rfl) (by kernel_rfl) (by kernel_rfl) (fun _ _ _ h => h) (Or.inl ⟨by rfl, ?gy4⟩) (by assumption) ?_
            case gy4 => (intro w hSw; (try dsimp only at hSw); go_simp; try with_reducible rfl)
            try simp only [Act.put, List.setIfInBounds_toArray, List.set_cons_zero, List.set_cons_succ]
            refine wpAnyH_take (i := 5) (oi := { dst := some 42, op := _, type := _, pos := _, after := _, guard := none }) (v := ?_) rfl (by kernel_rfl) (by kernel_rfl) (by kernel_rfl) (fun _ _ _ h => h) (Or.inl ⟨by rfl, ?gy5⟩) (by assumption) ?_
            case gy5 => (intro w hSw; (try dsimp only at hSw); go_simp; try with_reducible rfl)
            try simp only [Act.put, List.setIfInBounds_toArray, List.set_cons_zero, List.set_cons_succ]
            refine wpAnyH_take (i := 6) (oi := { dst := some 43, op := _, type := _, pos := _, after := _, guard := none }) (v := ?_) rfl (by kernel_rfl) (by kernel_rfl) (by kernel_rfl) (fun _ _ _ h => h) (Or.inl ⟨by rfl, ?gy6⟩) (by assumption) ?_
            case gy6 => (intro w hSw; (try dsimp only at hSw); go_simp; try with_reducible rfl)
            try simp only [Act.put, List.setIfInBounds_toArray, List.set_cons_zero, List.set_cons_succ]
            refine wpAnyH_ready (rs := [7]) (by kernel_rfl) (by simp) ?_
            refine AllReadyH.cons (o := { dst := some 44, op := _, type := _, pos := _, after := _, guard := none }) rfl (fun K hK => ?_) AllReadyH.nil
            go_simp
            go_at_call 91
            refine (is_Node' num (by omega) (still_tab X2.out.2.2.2 hS0)).mono ?_
            rintro e w5 ⟨rfl, hb5⟩
            have hS5 := still_below hb5 hS0
            clear hb5
            go_wp2_with fail
            refine hK.out _ _ (KS.out _ hS5) (fun hHeld5 => ?_)
            clear hK K hHeld
            try simp only [Act.put, List.setIfInBounds_toArray, List.set_cons_zero, List.set_cons_succ]
            refine wpAnyH_take (i := 8) (oi := { dst := some 45, op := _, type := _, pos := _, after := _, guard := none }) (v := ?_) rfl (by kernel_rfl) (by kernel_rfl) (by kernel_rfl) (fun _ _ _ h => h) (Or.inl ⟨by rfl, ?gy8⟩) (by assumption) ?_
            case gy8 => (intro w hSw; (try dsimp only at hSw); go_simp; try with_reducible rfl)
            try simp only [Act.put, List.setIfInBounds_toArray, List.set_cons_zero, List.set_cons_succ]
            refine wpAnyH_take (i := 9) (oi := { dst := some 46, op := _, type := _, pos := _, after := _, guard := none }) (v := ?_) rfl (by kernel_rfl) (by kernel_rfl) (by kernel_rfl) (fun _ _ _ h => h) (Or.inl ⟨by rfl, ?gy9⟩) (by assumption) ?_
            case gy9 => (intro w hSw; (try dsimp only at hSw); go_simp; try with_reducible rfl)
            try simp only [Act.put, List.setIfInBounds_toArray, List.set_cons_zero, List.set_cons_succ]
            refine wpAnyH_take (i := 10) (oi := { dst := some 47, op := _, type := _, pos := _, after := _, guard := some (9, false) }) (v := ?_) rfl (by kernel_rfl) (by kernel_rfl) (by kernel_rfl) (fun _ _ _ h => h) (Or.inl ⟨by rfl, ?gy10⟩) (by assumption) ?_
            case gy10 => (intro w hSw; (try dsimp only at hSw); go_simp; try with_reducible rfl)
            try simp only [Act.put, List.setIfInBounds_toArray, List.set_cons_zero, List.set_cons_succ]
            refine wpAnyH_take (i := 11) (oi := { dst := some 48, op := _, type := _, pos := _, after := _, guard := some (9, false) }) (v := ?_) rfl (by kernel_rfl) (by kernel_rfl) (by kernel_rfl) (fun _ _ _ h => h) (Or.inl ⟨by rfl, ?gy11⟩) (by assumption) ?_
            case gy11 => (intro w hSw; (try dsimp only at hSw); go_simp; try with_reducible rfl)
            try simp only [Act.put, List.setIfInBounds_toArray, List.set_cons_zero, List.set_cons_succ]
            refine wpAnyH_take (i := 12) (oi := { dst := some 49, op := _, type := _, pos := _, after := _, guard := some (9, false) }) (v := ?_) rfl (by kernel_rfl) (by kernel_rfl) (by kernel_rfl) (fun _ _ _ h => h) (Or.inl ⟨by rfl, ?gy12⟩) (by assumption) ?_
            case gy12 => (intro w hSw; (try dsimp only at hSw); go_simp; try with_reducible rfl)
            try simp only [Act.put, List.setIfInBounds_toArray, List.set_cons_zero, List.set_cons_succ]
            refine wpAnyH_take (i := 13) (oi := { dst := some 50, op := _, type := _, pos := _, after := _, guard := some (9, false) }) (v := ?_) rfl (by kernel_rfl) (by kernel_rfl) (by kernel_rfl) (fun _ _ _ h => h) (Or.inl ⟨by rfl, ?gy13⟩) (by assumption) ?_
            case gy13 => (intro w hSw; (try dsimp only at hSw); go_simp; try with_reducible rfl)
            try simp only [Act.put, List.setIfInBounds_toArray, List.set_cons_zero, List.set_cons_succ]
            refine wpAnyH_take (i := 14) (oi := { dst := some 51, op := _, type := _, pos := _, after := _, guard := some (9, false) }) (v := ?_) rfl (by kernel_rfl) (by kernel_rfl) (by kernel_rfl) (fun _ _ _ h => h) (Or.inl ⟨by rfl, ?gy14⟩) (by assumption) ?_
            case gy14 => (intro w hSw; (try dsimp only at hSw); go_simp; try with_reducible rfl)
            try simp only [Act.put, List.setIfInBounds_toArray, List.set_cons_zero, List.set_cons_succ]
            refine wpAnyH_take (i := 15) (oi := { dst := some 52, op := _, type := _, pos := _, after := _, guard := some (9, false) }) (v := ?_) rfl (by kernel_rfl) (by kernel_rfl) (by kernel_rfl) (fun _ _ _ h => h) (Or.inl ⟨by rfl, ?gy15⟩) (by assumption) ?_
            case gy15 => (intro w hSw; (try dsimp only at hSw); go_simp; try with_reducible rfl)
            try simp only [Act.put, List.setIfInBounds_toArray, List.set_cons_zero, List.set_cons_succ]
            refine wpAnyH_take (i := 16) (oi := { dst := some 53, op := _, type := _, pos := _, after := _, guard := some (15, true) }) (v := undef) rfl (by kernel_rfl) (by kernel_rfl) (by kernel_rfl) (fun _ _ _ h => h) (Or.inr ⟨by rfl, rfl⟩) (by assumption) ?_
            try simp only [Act.put, List.setIfInBounds_toArray, List.set_cons_zero, List.set_cons_succ]
            refine wpAnyH_take (i := 17) (oi := { dst := some 54, op := _, type := _, pos := _, after := _, guard := some (15, true) }) (v := undef) rfl (by kernel_rfl) (by kernel_rfl) (by kernel_rfl) (fun _ _ _ h => h) (Or.inr ⟨by rfl, rfl⟩) (by assumption) ?_
            try simp only [Act.put, List.setIfInBounds_toArray, List.set_cons_zero, List.set_cons_succ]
            refine wpAnyH_take (i := 18) (oi := { dst := some 55, op := _, type := _, pos := _, after := _, guard := some (15, true) }) (v := undef) rfl (by kernel_rfl) (by kernel_rfl) (by kernel_rfl) (fun _ _ _ h => h) (Or.inr ⟨by rfl, rfl⟩) (by assumption) ?_
            try simp only [Act.put, List.setIfInBounds_toArray, List.set_cons_zero, List.set_cons_succ]
            refine wpAnyH_take (i := 19) (oi := { dst := some 56, op := _, type := _, pos := _, after := _, guard := some (15, true) }) (v := undef) rfl (by kernel_rfl) (by kernel_rfl) (by kernel_rfl) (fun _ _ _ h => h) (Or.inr ⟨by rfl, rfl⟩) (by assumption) ?_
            try simp only [Act.put, List.setIfInBounds_toArray, List.set_cons_zero, List.set_cons_succ]
            refine wpAnyH_take (i := 20) (oi := { dst := some 57, op := _, type := _, pos := _, after := _, guard := some (15, true) }) (v := undef) rfl (by kernel_rfl) (by kernel_rfl) (by kernel_rfl) (fun _ _ _ h => h) (Or.inr ⟨by rfl, rfl⟩) (by assumption) ?_
            try simp only [Act.put, List.setIfInBounds_toArray, List.set_cons_zero, List.set_cons_succ]
            refine wpAnyH_take (i := 21) (oi := { dst := some 58, op := _, type := _, pos := _, after := _, guard := some (15, true) }) (v := undef) rfl (by kernel_rfl) (by kernel_rfl) (by kernel_rfl) (fun _ _ _ h => h) (Or.inr ⟨by rfl, rfl⟩) (by assumption) ?_
            try simp only [Act.put, List.setIfInBounds_toArray, List.set_cons_zero, List.set_cons_succ]
            refine wpAnyH_take (i := 22) (oi := { dst := some 59, op := _, type := _, pos := _, after := _, guard := some (15, true) }) (v := undef) rfl (by kernel_rfl) (by kernel_rfl) (by kernel_rfl) (fun _ _ _ h => h) (Or.inr ⟨by rfl, rfl⟩) (by assumption) ?_
            try simp only [Act.put, List.setIfInBounds_toArray, List.set_cons_zero, List.set_cons_succ]
            refine wpAnyH_take (i := 23) (oi := { dst := some 60, op := _, type := _, pos := _, after := _, guard := some (15, true) }) (v := undef) rfl (by kernel_rfl) (by kernel_rfl) (by kernel_rfl) (fun _ _ _ h => h) (Or.inr ⟨by rfl, rfl⟩) (by assumption) ?_
            try simp only [Act.put, List.setIfInBounds_toArray, List.set_cons_zero, List.set_cons_succ]
            refine wpAnyH_take (i := 24) (oi := { dst := some 61, op := _, type := _, pos := _, after := _, guard := some (15, true) }) (v := undef) rfl (by kernel_rfl) (by kernel_rfl) (by kernel_rfl) (fun _ _ _ h => h) (Or.inr ⟨by rfl, rfl⟩) (by assumption) ?_
            try simp only [Act.put, List.setIfInBounds_toArray, List.set_cons_zero, List.set_cons_succ]
            refine wpAnyH_take (i := 25) (oi := { dst := some 62, op := _, type := _, pos := _, after := _, guard := some (9, false) }) (v := ?_) rfl (by kernel_rfl) (by kernel_rfl) (by kernel_rfl) (fun _ _ _ h => h) (Or.inl ⟨by rfl, ?gy25⟩) (by assumption) ?_
            case gy25 => (intro w hSw; (try dsimp only at hSw); go_simp; try with_reducible rfl)
            try simp only [Act.put, List.setIfInBounds_toArray, List.set_cons_zero, List.set_cons_succ]
            refine wpAnyH_take (i := 26) (oi := { dst := some 63, op := _, type := _, pos := _, after := _, guard := none }) (v := ?_) rfl (by kernel_rfl) (by kernel_rfl) (by kernel_rfl) (fun _ _ _ h => h) (Or.inl ⟨by rfl, ?gy26⟩) (by assumption) ?_
            case gy26 => (intro w hSw; (try dsimp only at hSw); go_simp; try with_reducible rfl)
            try simp only [Act.put, List.setIfInBounds_toArray, List.set_cons_zero, List.set_cons_succ]
            refine wpAnyH_done (by kernel_rfl) ?_ _
            all_goals
              go_wp2_with fail
              go_roundg (n + 40 - (k + 1))
              case measure => omega
              case rel => exact ⟨k + 1, by omega, rfl, by go_num, hS5⟩
        · obtain rfl : k = n + 40 := by omega
          obtain ⟨g3, T3⟩ := hS
          have T4 := X2.out.1.trans T3 (V := []) (by simp) (by simp)
          have X5 := Lib.hid (And.intro (X.out.1.trans T4 (V := []) (by simp) (by simp)) (And.intro (X.out.2.1.turn T4 (by simp) (by simp) (by simp)) (X.out.2.2.turn T4 (by simp))))
          clear T4 T3
          go_wp2_with fail
          go_roundg (hs.length - (i + 1))
          case measure => omega
          case rel => exact ⟨i + 1, g3, HL.out, rfl, by go_num, X5.out.1, X5.out.2.1, X5.out.2.2⟩
    · obtain rfl : i = hs.length := by omega
      clear hlt hvb hA hB
      go_wp2_with fail
      exact H.out _ g1 X.out.1 X.out.2.1

set_option maxRecDepth 100000 in
set_option maxHeartbeats 4000000 in
theorem keep_Node {w : World} {g : Tags} {bp : Nat} {cs : Array Value} {hs : List Ent} (hB : Book kNode w g bp cs hs) {tot : Nat} (h0 : cs[0]? = some (.int .i64 (tot : Int))) (ht : tot < 1000000000) (hf : hs.length < 1000000000) (va : Option Addr) (n vc : Nat) (hn : n ≤ 1000000000) {Q : Ending → World → Prop}
    (h : ∀ w' g' cs', Turn w g w' g' [801, arrTag kNode] → Book kNode w' g' bp cs' (hs ++ [⟨va, n, vc, none, 0, 0, tot + 1⟩]) → cs'[0]? = some (.int .i64 ((tot + 1 : Nat) : Int)) → (∀ i, i ≠ 0 → i ≠ 8 → cs'[i]? = cs[i]?) → Q (.returned (.tuple #[])) w') :
    Calls Tryz.prog 119 #[.pointer (some ⟨bp, 0, none⟩), .slice va n vc] w Q := by
  have H := Lib.hid h
  obtain ⟨vb, hvb, hA⟩ := hB.arr
  obtain ⟨ao, cap, hform⟩ := hA.form
  subst hform
  have c0 : w.cell? ⟨bp, 0, none⟩ = some (.int .i64 (tot : Int)) := (hB.box.cell 0).1.trans h0
  have c0' := (hB.box.cell 0).2
  have t0 : (0 : Int) ≤ (tot : Int) := by omega
  have t1 : (tot : Int) < 1000000000 := by omega
  obtain ⟨T1, B1⟩ := hB.box.store 0 (.int .i64 ((tot : Int) + 1))
  have hget : (cs.setIfInBounds 0 (.int .i64 ((tot : Int) + 1)))[8]? = some (.slice ao hs.length cap) := by rw [Array.getElem?_setIfInBounds, if_neg (by decide)]; exact hvb
  have hsz : 8 < cs.size := (Array.getElem?_eq_some_iff.1 hvb).1
  have hget0 : (cs.setIfInBounds 0 (.int .i64 ((tot : Int) + 1)))[0]? = some (.int .i64 ((tot : Int) + 1)) := by rw [Array.getElem?_setIfInBounds, if_pos rfl, if_pos (by omega)]
  have X0 := Lib.hid (And.intro hB (And.intro h0 ((hA.turn T1 (by decide)).turn (Turn.drew _ g) (by simp))))
  have e1 : (w.setCell ⟨bp, 0, none⟩ (.int .i64 ((tot : Int) + 1))).cell? ⟨bp, 8, none⟩ = some (.slice ao hs.length cap) := (B1.cell 8).1.trans hget
  have e0 : (w.setCell ⟨bp, 0, none⟩ (.int .i64 ((tot : Int) + 1))).cell? ⟨bp, 0, none⟩ = some (.int .i64 ((tot : Int) + 1)) := (B1.cell 0).1.trans hget0
  have e1' : ∀ o, ((w.setCell ⟨bp, 0, none⟩ (.int .i64 ((tot : Int) + 1))).alloc o).cell? ⟨bp, 8, none⟩ = some (.slice ao hs.length cap) := fun o => ((B1.turn (Turn.alloc _ g 901 o) (by simp)).cell 8).1.trans hget
  have e0' : ∀ o, ((w.setCell ⟨bp, 0, none⟩ (.int .i64 ((tot : Int) + 1))).alloc o).cell? ⟨bp, 0, none⟩ = some (.int .i64 ((tot : Int) + 1)) := fun o => ((B1.turn (Turn.alloc _ g 901 o) (by simp)).cell 0).1.trans hget0
  have hs1 : hs.length + 1 ≤ 1000000000 := by omega
  clear h hB hA hvb B1 T1 hget hget0 h0
  go_enter Tryz.func119, Tryz.ntmps119
  go_wp2_with fail
  generalize hw1 : w.setCell ⟨bp, 0, none⟩ (.int .i64 ((tot : Int) + 1)) = w1 at *
  have X1 := Lib.hid hw1
  clear hw1 c0 c0'
  go_region_law (refine step_append_t rfl (.tmp 15) (.tmp 22) rfl heldNodeElem (g := g.ext w1.drew.heap.size 901) (tg := arrTag kNode) rfl (X0.out.2.2.turn (Turn.alloc _ g 901 _) (by simp)) rfl (Src.lit #[.slice va n vc, .slice none 0 0, .int .i64 ((tot : Int) + 1)] 127 rfl rfl) (by simp [Value.oneCell']) (by unfold maxLen; omega) (by omega) ?_; intro a2 c2 w2 g2 O2 T2; have X2 := Lib.hid (keep_at kNode_good (x := ⟨va, n, vc, none, 0, 0, tot + 1⟩) X0.out.1 hn ⟨Nat.succ_pos _, ht⟩ hf X1.out O2 T2); clear O2 T2; obtain ⟨⟨u, e2⟩, e3, _⟩ := X2.out; have e2 : w2.cell? ⟨bp, 8, none⟩ = some u := e2; have e3 : w2.frozen? ⟨bp, 8, none⟩ = false := e3)
  all_goals
    go_wp2_with fail
    go_end0
    exact H.out _ _ _ X2.out.done.1 X2.out.done.2 (keep_cells kNode_good X0.out.1 _ _).1 (keep_cells kNode_good X0.out.1 _ _).2

end Go.Proofs.YtcldcigopkfmmaaGreatDoor
