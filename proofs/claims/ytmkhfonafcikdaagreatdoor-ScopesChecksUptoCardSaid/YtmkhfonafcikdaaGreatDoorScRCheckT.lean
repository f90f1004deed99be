/- The document's scopes: Check. -/
import Derived.Test.YtmkhfonafcikdaaGreatDoorScRChkT
import Derived.Deep.CutRange
import Derived.StillTailTactics
namespace Go.Proofs.YtmkhfonafcikdaaGreatDoor
open Go.RowKit Go.My Go.Nd

set_option maxRecDepth 100000 in
set_option maxHeartbeats 16000000 in
theorem rscheck_t {w : World} {B : Nat} {p : Pr} {v1 v2 : Value} (hB : B ≤ w.heap.size) (h1 : FuncsIn w (· < B) false v1 p.funcs) (h2 : Nodes w (· < B) false v2 p.body) (hS : SmallP p) :
    Calls Tryz.prog 13 #[.agg #[v1, v2]] w fun e w' => e = .returned (.int .i64 (scheck wrapI p : Int)) ∧ Below w.heap.size w w' := by
  obtain ⟨a1, c1, rfl⟩ := h1.form
  obtain ⟨a2, c2, rfl⟩ := h2.form
  have T0 := Turn.alloc w (fun _ => 0) 720 (.cells #[.slice a1 p.funcs.length c1, .slice a2 p.body.len c2] 25)
  have B0 := Blk.alloc w (fun _ => 0) 720 (.cells #[.slice a1 p.funcs.length c1, .slice a2 p.body.len c2] 25 (0, 0))
  have S0 := (Since.start w).turn T0 (by simp)
  have hAB := S0.below.mono hB
  have HC := Lib.hid (rcheck_t (Nat.le_trans hB S0.below.size) (h1.below hAB) (h2.below hAB))
  have H1 := Lib.hid h1
  have H2 := Lib.hid h2
  have HB := Lib.hid hB
  have HS := Lib.hid hS
  have hr := hS.funcs
  have l0 : (0 : Int) ≤ (p.funcs.length : Int) := by omega
  have l1 : (p.funcs.length : Int) ≤ 1048576 := by omega
  have H0 := Lib.hid (And.intro S0 B0)
  clear h1 h2 hS T0 B0 S0 hAB hB hr
  go_enter Tryz.func13, Tryz.ntmps13
  go_wp2_with fail
  refine HC.out.mono ?_
  rintro e w1 ⟨rfl, hb⟩
  have TW := Turn.of_below hb ((Tags.ext (fun _ => 0) w.heap.size 720)) 0
  have P1 := Lib.hid (And.intro (H0.out.1.turn TW (by simp)) (H0.out.2.turn TW (by simp)))
  generalize Tags.ext (Tags.ext (fun _ => 0) w.heap.size 720) (w.alloc (.cells #[.slice a1 p.funcs.length c1, .slice a2 p.body.len c2] 25)).heap.size 0 = g1 at P1
  clear TW hb HC H0
  cases hc : check wrapI p with
  | false =>
    have HC := Lib.hid (scheck_arg hc)
    clear hc
    go_wp2_with fail
    go_ret
    exact ⟨by rw [HC.out]; rfl, P1.out.1.below⟩
  | true =>
    have HC := Lib.hid hc
    have X0 := Lib.hid (show RcSt w w1 g1 w.heap.size #[.slice a1 p.funcs.length c1, .slice a2 p.body.len c2] (.slice none 0 0) [] from ⟨P1.out.1, P1.out.2, Owns.nil _ _ _ _ _, fun s h => by cases h⟩)
    clear hc P1
    go_wp2_with fail
    go_loopg [3, 4] p.funcs.length (fun gk v3 v4 wr => RcAt w w.heap.size #[.slice a1 p.funcs.length c1, .slice a2 p.body.len c2] p.funcs gk v3 v4 wr)
    case atStart => exact ⟨0, g1, Nat.zero_le _, rfl, rfl, headsTo_zero _, (fun f h => by simp at h), X0.out⟩
    case round =>
      obtain ⟨i, g, hi, rfl, rfl, hH, hK, hS⟩ := hrel
      obtain ⟨a5, c5, rfl⟩ := hS.own.form
      have i0 : (0 : Int) ≤ (i : Int) := by omega
      have hml : ((p.funcs.take i).map (·.name)).length = i := by rw [List.length_map, List.length_take]; omega
      rw [hml] at hS
      have X := Lib.hid (And.intro hS (And.intro hH hK))
      have p0 := cell_of_row wr w.heap.size 0 _ _ _ hS.pbox.1
      have p1 := cell_of_row wr w.heap.size 1 _ _ _ hS.pbox.1
      simp at p0 p1
      rw [hml]
      have HML := Lib.hid hml
      clear X0 hS hH hK hml
      by_cases hlt : i < p.funcs.length
      · have i1 : (i : Int) < (p.funcs.length : Int) := by omega
        obtain ⟨_, _, e1, _, _, _, _, hcc⟩ := H1.out
        obtain ⟨b, off, v1, v2, e2, hSb, hN⟩ := hcc i hlt
        cases e1
        cases e2
        obtain ⟨a3, c3, r1⟩ := hN.args.form
        obtain ⟨a4, c4, r2⟩ := hN.body.form
        subst r1
        subst r2
        have hblk := (X.out.1.since.below.mono HB.out).block b hSb
        have d0 := (World.cell?_of_block hblk).trans hN.d0
        have d1 := (World.cell?_of_block hblk).trans hN.d1
        have d2 := (World.cell?_of_block hblk).trans hN.d2
        have HN := Lib.hid (And.intro hN.name (And.intro hN.args hN.body))
        have hmem := List.getElem_mem hlt
        obtain ⟨f, hf⟩ : ∃ f, f = p.funcs[i] := ⟨_, rfl⟩
        rw [← hf] at d0 d1 d2 HN hmem
        have HF := Lib.hid (show (∃ h : i < p.funcs.length, f = p.funcs[i]) ∧ f ∈ p.funcs from ⟨⟨hlt, hf⟩, hmem⟩)
        have hnm := HN.out.1
        obtain ⟨fb, hfb⟩ : ∃ fb, fb = wr.heap.size := ⟨_, rfl⟩
        have T1 := Turn.alloc wr g 726 (.cells #[.string (tx f.name), .slice a3 f.args.length c3, .slice a4 f.body.len c4] 57)
        have B1 := Blk.alloc wr g 726 (.cells #[.string (tx f.name), .slice a3 f.args.length c3, .slice a4 f.body.len c4] 57 (0, 0))
        have X1 := Lib.hid (And.intro (X.out.1.turn T1 (by simp) (by simp) (by simp)) B1)
        clear hN hf hlt hmem hcc hSb hblk T1 B1 hi
        go_upto_region 8 with fail
        obtain ⟨w6, hw6⟩ : ∃ w6, w6 = wr.alloc (.cells #[.string (tx f.name), .slice a3 f.args.length c3, .slice a4 f.body.len c4] 57) := ⟨_, rfl⟩
        obtain ⟨g6, hg6⟩ : ∃ g6, g6 = g.ext wr.heap.size 726 := ⟨_, rfl⟩
        have X2 := X1.out
        rw [← hw6, ← hg6, ← hfb] at X2
        rw [← hw6, ← hfb]
        have X6 := Lib.hid X2
        have q0 := cell_of_row w6 fb 0 _ _ _ X2.2.1
        simp at q0
        have HH := Lib.hid X.out.2
        clear X1 X2 X hw6 hg6 hfb d0 d1 d2 p0 p1
        go_wp2_with fail
        refine (rlib_t f.name).mono ?_
        rintro e w7 ⟨rfl, hb7⟩
        generalize hls : (libOf f.name).isSome = ls
        generalize (((libOf f.name).getD 0 : Nat) : Int) = lv
        have HLS := Lib.hid hls
        have T7 := Turn.of_below hb7 g6 727
        have X7 := Lib.hid (And.intro (X6.out.1.turn T7 (by simp) (by simp) (by simp)) (X6.out.2.turn T7 (by simp)))
        generalize g6.ext w6.heap.size 727 = g7 at *
        clear T7 hb7 X6 q0 hls
        have q0 := cell_of_row w7 fb 0 _ _ _ X7.out.2.1
        simp at q0
        cases ls with
        | true =>
          have HBad := Lib.hid (scheck_bad (wrap := wrapI) HC.out (show (headsOk p.funcs && finesOk p) = false from by obtain ⟨h, e⟩ := HF.out.1; rw [heads_bad h (.inl (by unfold headOk; rw [← e, ← Option.not_isSome, HLS.out]; rfl))]; rfl))
          go_wp2_with fail
          go_ret
          exact ⟨by rw [HBad.out]; rfl, X7.out.1.since.below⟩
        | false =>
          go_wp2_with fail
          refine (rletter_t f.name).mono ?_
          rintro e w8 ⟨rfl, hb8⟩
          have T8 := Turn.of_below hb8 g7 727
          have X8 := Lib.hid (And.intro (X7.out.1.turn T8 (by simp) (by simp) (by simp)) (X7.out.2.turn T8 (by simp)))
          generalize g7.ext w7.heap.size 727 = g8 at *
          clear T8 hb8 X7 q0
          have q0 := cell_of_row w8 fb 0 _ _ _ X8.out.2.1
          simp at q0
          cases hl : Go.Nd.letters.contains f.name with
          | true =>
            have HBad := Lib.hid (scheck_bad (wrap := wrapI) HC.out (show (headsOk p.funcs && finesOk p) = false from by obtain ⟨h, e⟩ := HF.out.1; rw [heads_bad h (.inl (by unfold headOk; rw [← e, hl]; simp))]; rfl))
            clear hl
            go_wp2_with fail
            go_ret
            exact ⟨by rw [HBad.out]; rfl, X8.out.1.since.below⟩
          | false =>
            have HLt := Lib.hid hl
            clear hl
            obtain ⟨nm, hnm0⟩ : ∃ nm, nm = (p.funcs.take i).map (·.name) := ⟨_, rfl⟩
            have X9' := X8.out
            have hml := HML.out
            rw [← hnm0] at X9' hml
            have X9 := Lib.hid X9'
            have HNM := Lib.hid hnm0
            have HML2 := Lib.hid hml
            have hnl : nm.length ≤ 1048576 := by omega
            clear X9' hml hnm0 X8
            go_wp2_with fail
            refine (rin_t (v := .slice a5 i c5) (by have := texts_of_owns X9.out.1.own X9.out.1.short (by omega); exact this) f.name).mono ?_
            rintro e w9 ⟨rfl, hb9⟩
            have T9 := Turn.of_below hb9 g8 727
            have Y9 := Lib.hid (And.intro (X9.out.1.turn T9 (by simp) (by simp) (by simp)) (X9.out.2.turn T9 (by simp)))
            generalize g8.ext w8.heap.size 727 = g9 at *
            clear T9 hb9 X9 q0
            have q0 := cell_of_row w9 fb 0 _ _ _ Y9.out.2.1
            simp at q0
            cases hin : nm.contains f.name with
            | true =>
              have HBad := Lib.hid (scheck_bad (wrap := wrapI) HC.out (show (headsOk p.funcs && finesOk p) = false from by obtain ⟨h, e⟩ := HF.out.1; rw [heads_bad h (.inr (by rw [← e, ← HNM.out]; exact hin))]; rfl))
              clear hin
              go_wp2_with fail
              go_ret
              exact ⟨by rw [HBad.out]; rfl, Y9.out.1.since.below⟩
            | false =>
              have HIN := Lib.hid hin
              clear hin
              go_wp2_with (at_builtin; refine wpList_append_t _ rfl (.tmp 42) (.tmp 45) rfl strElR (g := g9.ext w9.heap.size 761) (tg := 760) (v := .slice a5 i c5) (n := nm.length) (xs := strCells nm) rfl (Y9.out.1.own.turn (Turn.alloc w9 g9 761 (.cells #[.string (tx f.name)] 9)) (by simp)) (y := .slice (some ⟨w9.heap.size, 0, none⟩) 1 1) rfl (Src.lit (n := 1) #[.string (tx f.name)] 9 rfl rfl) (by simp [Value.oneCell']) (by unfold maxLen; omega) (by omega) ?_; intro ao cap w10 g10 L10 T10; have X10 := Lib.hid (And.intro (rc_snoc Y9.out.1 hnm T10 L10) (Y9.out.2.turn ((Turn.alloc w9 g9 761 (.cells #[.string (tx f.name)] 9)).trans T10 (V := [760]) (by simp) (by simp)) (by simp))); clear L10 T10)
              have la := (HS.out.each f HF.out.2).1
              have la0 : (0 : Int) ≤ (f.args.length : Int) := by omega
              have la1 : (f.args.length : Int) ≤ 1048576 := by omega
              clear la Y9 q0
              have HLN := Lib.hid (show (locals wrapI p (i : Int)).length ≤ 2000000 from by
                obtain ⟨h, e⟩ := HF.out.1
                rw [locals_at HC.out h, ← e]
                have := HS.out.each f HF.out.2
                have h2 : (ownN f.args f.body).length ≤ f.args.length + f.body.flat.length := by
                  have q1 := addAll_len f.args []
                  have q2 := addAll_len (lets f.body) (addAll [] f.args)
                  have q3 : (lets f.body).length ≤ f.body.flat.length := by
                    unfold lets
                    rw [List.length_map]
                    exact List.length_filter_le _ _
                  rw [List.length_nil] at q1
                  unfold ownN
                  omega
                omega)
              go_loopg [8] f.args.length (fun gk v8 wr => RaAt w w.heap.size fb #[.slice (some ⟨b, off, none⟩) p.funcs.length c1, .slice a2 p.body.len c2] (.cells #[.string (tx f.name), .slice a3 f.args.length c3, .slice a4 f.body.len c4] 57 (0, 0)) (.slice ao (nm.length + 1) cap) (nm ++ [f.name]) f.args gk v8 wr)
              case atStart => exact ⟨0, g10, Nat.zero_le _, rfl, rfl, rfl, X10.out⟩
              case round =>
                obtain ⟨k, g11, hk, rfl, rfl, hdup, hS11, hB11⟩ := hrel
                have k0 : (0 : Int) ≤ (k : Int) := by omega
                have q1 := cell_of_row wr fb 1 _ _ _ hB11.1
                simp at q1
                have X11 := Lib.hid (And.intro hS11 (And.intro hB11 hdup))
                clear hS11 hB11 hdup X10
                by_cases hlt : k < f.args.length
                · have k1 : (k : Int) < (f.args.length : Int) := by omega
                  have hT := HN.out.2.1.below (X11.out.1.since.below.mono HB.out)
                  obtain ⟨_, _, ea, hcl, _, _, _, hcell⟩ := id hT
                  obtain ⟨b3, o3, eb, hS3, hc3, hl3⟩ := hcell k hlt
                  cases ea
                  cases eb
                  have hsl := slice_h (P := Tryz.prog) Tryz.underlying32 (by kernel_rfl) b3 o3 f.args.length c3 k (k : Int) rfl (by omega)
                  have HTK := Lib.hid (TextsIn.take (hT.below ((Below.refl B wr).drew)) hk)
                  obtain ⟨s, hs⟩ : ∃ s, s = f.args[k] := ⟨_, rfl⟩
                  rw [← hs] at hc3
                  have HKS := Lib.hid (show ∃ h : k < f.args.length, s = f.args[k] from ⟨hlt, hs⟩)
                  clear hs hcell hS3 hT hcl hl3 hlt hk
                  go_upto_region 15 with fail
                  go_still_tail 9, (by kernel_rfl)
                  change wpList _ _ _ _ _ wr.drew
                  have TD := Turn.drew wr g11
                  have X12 := Lib.hid (And.intro (X11.out.1.turn TD (by simp) (by simp) (by simp)) (X11.out.2.1.turn TD (by simp)))
                  clear TD hc3 q1 hsl
                  generalize wr.drew = w12 at X12 HTK ⊢
                  go_wp2_with fail
                  refine (rin_t HTK.out s).mono ?_
                  rintro e w13 ⟨rfl, hb13⟩
                  have T13 := Turn.of_below hb13 g11 727
                  have X13 := Lib.hid (And.intro (X12.out.1.turn T13 (by simp) (by simp) (by simp)) (X12.out.2.turn T13 (by simp)))
                  generalize g11.ext w12.heap.size 727 = g13 at *
                  clear T13 hb13
                  cases hin : (f.args.take k).contains s with
                  | true =>
                    have HBad := Lib.hid (scheck_bad (wrap := wrapI) HC.out (show (headsOk p.funcs && finesOk p) = false from by
                      obtain ⟨h, e⟩ := HF.out.1
                      obtain ⟨h3, e3⟩ := HKS.out
                      have hd : dup f.args = true := dup_take (i := k + 1) (by rw [dup_next h3 X11.out.2.2, ← e3]; exact hin)
                      rw [heads_bad h (.inl (by unfold headOk; rw [← e, hd]; simp))]; rfl))
                    clear hin
                    go_wp2_with fail
                    go_ret
                    exact ⟨by rw [HBad.out]; rfl, X13.out.1.since.below⟩
                  | false =>
                    have HNX := Lib.hid (show dup (f.args.take (k + 1)) = false from by obtain ⟨h3, e3⟩ := HKS.out; rw [dup_next h3 X11.out.2.2, ← e3]; exact hin)
                    clear hin
                    go_wp2_with fail
                    go_roundg (f.args.length - (k + 1))
                    case measure => obtain ⟨h3, _⟩ := HKS.out; omega
                    case rel => exact ⟨k + 1, g13, HKS.out.1, rfl, by go_num, HNX.out, X13.out⟩
                · obtain rfl : k = f.args.length := by omega
                  have hdup := X11.out.2.2
                  rw [List.take_length] at hdup
                  have HDUP := Lib.hid hdup
                  clear hlt hk hdup
                  go_upto_region 17 with fail
                  clear q1
                  have HOK := Lib.hid (show headsTo p.funcs (i + 1) from by
                    obtain ⟨h, e⟩ := HF.out.1
                    exact headsTo_succ HH.out.1 h (by unfold headOk; rw [← e, HDUP.out, HLt.out, ← Option.not_isSome, HLS.out]; rfl) (by rw [← e, ← HNM.out]; exact HIN.out))
                  have hi1 : i ≤ 1048576 := by omega
                  have D0 := (Turn.drew wr g11)
                  have Z := Lib.hid (And.intro (X11.out.1.turn D0 (by simp) (by simp) (by simp)) (X11.out.2.1.turn D0 (by simp)))
                  have p0 := cell_of_row wr w.heap.size 0 _ _ _ X11.out.1.pbox.1
                  have p1 := cell_of_row wr w.heap.size 1 _ _ _ X11.out.1.pbox.1
                  have f2 := cell_of_row wr fb 2 _ _ _ X11.out.2.1.1
                  simp at p0 p1 f2
                  have UP := Lib.hid (fun (W : World) (h : Below wr.drew.heap.size wr.drew W) => show W.cell? ⟨w.heap.size, 0, none⟩ = some (.slice (some ⟨b, off, none⟩) p.funcs.length c1) ∧ W.cell? ⟨w.heap.size, 1, none⟩ = some (.slice a2 p.body.len c2) ∧ W.cell? ⟨fb, 2, none⟩ = some (.slice a4 f.body.len c4) ∧
                      B ≤ W.heap.size ∧ FuncsIn W (· < B) false (.slice (some ⟨b, off, none⟩) p.funcs.length c1) p.funcs ∧ Nodes W (· < B) false (.slice a2 p.body.len c2) p.body ∧ Nodes W (· < B) false (.slice a4 f.body.len c4) f.body from by
                    have hb := (Z.out.1.since.below.trans (h.mono Z.out.1.since.below.size)).mono HB.out
                    exact ⟨(World.cell?_of_block (h.block _ (World.block_lt_of_cell? wr _ p0))).trans p0, (World.cell?_of_block (h.block _ (World.block_lt_of_cell? wr _ p1))).trans p1, (World.cell?_of_block (h.block _ (World.block_lt_of_cell? wr _ f2))).trans f2, Nat.le_trans HB.out (Z.out.1.since.below.trans (h.mono Z.out.1.since.below.size)).size, H1.out.below hb, H2.out.below hb, HN.out.2.2.below hb⟩)
                  obtain ⟨ok, hok⟩ : ∃ ok, ok = known p.funcs (locals wrapI p (i : Int)) f.body := ⟨_, rfl⟩
                  have HOKV := Lib.hid hok
                  clear D0 hok
                  go_cut [71] from 12 to 71 (fun v71 wx => RbAt w w.heap.size fb #[.slice (some ⟨b, off, none⟩) p.funcs.length c1, .slice a2 p.body.len c2] (.cells #[.string (tx f.name), .slice a3 f.args.length c3, .slice a4 f.body.len c4] 57 (0, 0)) (.slice ao (nm.length + 1) cap) (nm ++ [f.name]) ok v71 wx)
                  case first =>
                    first
                    | (go_region_law (first
                      | (go_simp; go_at_call 19; refine rlocals_t (UP.out _ (Below.refl _ _)).2.2.2.1 (UP.out _ (Below.refl _ _)).2.2.2.2.1 (UP.out _ (Below.refl _ _)).2.2.2.2.2.1 HS.out (i : Int) fun v14 w14 g14 S14 O14 L14 => ?_; obtain ⟨a14, c14, rfl⟩ := O14.form; obtain ⟨r0, r1, r2, _⟩ := UP.out w14 S14.below; have X14 := Lib.hid (And.intro S14 (And.intro O14 L14)); clear S14 O14 L14)
                      | (go_simp; go_at_call 44; refine (rknown_t p.funcs (locals wrapI p (i : Int)) f.body w14 w14.heap.size (fun b => g14 b = 750) false _ _ _ _ _ _ _ (Nat.le_refl _) (fun b hb _ => hb) ((UP.out w14 X14.out.1.below).2.2.2.2.1.mono fun b hb _ => hb) (texts_of_owns X14.out.2.1 X14.out.2.2 (by have := HLN.out; omega)) ((UP.out w14 X14.out.1.below).2.2.2.2.2.2.mono fun b hb _ => hb)).mono ?_; rintro e w15 ⟨rfl, hb15⟩; rw [← HOKV.out]; have X15 := Lib.hid hb15; clear hb15)))
                    | fail
                    all_goals
                      go_wp2_with fail
                      go_meet
                      case rel =>
                        have TJ := X14.out.1.join g11
                        have TK := Turn.of_below X15.out (Tags.join wr.drew.heap.size g11 g14) 727
                        exact ⟨rfl, _, (Z.out.1.turn TJ (by simp) (by simp) (by simp)).turn TK (by simp) (by simp) (by simp), (Z.out.2.turn TJ (by simp)).turn TK (by simp)⟩
                  case rest =>
                    obtain ⟨rfl, g16, hS16, hB16⟩ := hcut
                    have hLat : locals wrapI p (i : Int) = ownN f.args f.body := by
                      obtain ⟨h, e⟩ := HF.out.1
                      rw [locals_at HC.out h, ← e]
                    have HKN := Lib.hid (show ok = known p.funcs (ownN f.args f.body) f.body from by rw [HOKV.out, hLat])
                    have X16 := Lib.hid hS16
                    clear hS16 hB16 p0 p1 f2 hLat
                    cases ok with
                    | false =>
                      have HBad := Lib.hid (scheck_bad (wrap := wrapI) HC.out (known_bad HF.out.2 HKN.out.symm))
                      go_wp2_with fail
                      go_ret
                      exact ⟨by rw [HBad.out]; rfl, X16.out.since.below⟩
                    | true =>
                      go_wp2_with fail
                      go_roundg (p.funcs.length - (i + 1))
                      case measure => obtain ⟨h, _⟩ := HF.out.1; omega
                      case rel =>
                        obtain ⟨h, e⟩ := HF.out.1
                        refine ⟨i + 1, g16, h, rfl, by go_num, HOK.out, fun x hx => ?_, ?_⟩
                        · rw [List.take_succ_eq_append_getElem h, List.mem_append, List.mem_singleton] at hx
                          rcases hx with hx | hx
                          · exact HH.out.2 x hx
                          · rw [hx, ← e]; exact HKN.out.symm
                        · have e2 : (p.funcs.take (i + 1)).map (·.name) = nm ++ [f.name] := by rw [List.take_succ_eq_append_getElem h, List.map_append, ← e, HNM.out]; rfl
                          rw [e2]; exact X16.out
      · obtain rfl : i = p.funcs.length := by omega
        have HAll := Lib.hid X.out.2
        have D0 := (Turn.drew wr g)
        have Z := Lib.hid (X.out.1.turn D0 (by simp) (by simp) (by simp))
        have UP := Lib.hid (fun (W : World) (h : Below wr.drew.heap.size wr.drew W) => show W.cell? ⟨w.heap.size, 0, none⟩ = some (.slice a1 p.funcs.length c1) ∧ W.cell? ⟨w.heap.size, 1, none⟩ = some (.slice a2 p.body.len c2) ∧
            B ≤ W.heap.size ∧ FuncsIn W (· < B) false (.slice a1 p.funcs.length c1) p.funcs ∧ Nodes W (· < B) false (.slice a2 p.body.len c2) p.body from by
          have hb := (Z.out.since.below.trans (h.mono Z.out.since.below.size)).mono HB.out
          exact ⟨(World.cell?_of_block (h.block _ (World.block_lt_of_cell? wr _ p0))).trans p0, (World.cell?_of_block (h.block _ (World.block_lt_of_cell? wr _ p1))).trans p1, Nat.le_trans HB.out (Z.out.since.below.trans (h.mono Z.out.since.below.size)).size, H1.out.below hb, H2.out.below hb⟩)
        have HLN := Lib.hid (show locals wrapI p (-1) = ownN [] p.body ∧ (locals wrapI p (-1)).length ≤ 2000000 from by
          have e := locals_body (f := -1) HC.out (by omega)
          refine ⟨e, ?_⟩
          rw [e]
          have q2 := addAll_len (lets p.body) (addAll [] [])
          have q3 : (lets p.body).length ≤ p.body.flat.length := by
            unfold lets
            rw [List.length_map]
            exact List.length_filter_le _ _
          have q4 := HS.out.body
          have q5 : (addAll ([] : List Tx) []).length = 0 := rfl
          unfold ownN
          omega)
        obtain ⟨ok, hok⟩ : ∃ ok, ok = known p.funcs (locals wrapI p (-1)) p.body := ⟨_, rfl⟩
        have HOKV := Lib.hid hok
        clear D0 hok hlt hi
        go_upto_region 19 with fail
        go_cut [78] from 72 to 78 (fun v78 wx => v78 = .bool (!ok) ∧ Below w.heap.size w wx)
        case first =>
          first
          | (go_region_law (first
            | (go_simp; go_at_call 19; refine rlocals_t (UP.out _ (Below.refl _ _)).2.2.1 (UP.out _ (Below.refl _ _)).2.2.2.1 (UP.out _ (Below.refl _ _)).2.2.2.2 HS.out (-1) fun v14 w14 g14 S14 O14 L14 => ?_; obtain ⟨a14, c14, rfl⟩ := O14.form; obtain ⟨r0, r1, _⟩ := UP.out w14 S14.below; have X14 := Lib.hid (And.intro S14 (And.intro O14 L14)); clear S14 O14 L14)
            | (go_simp; go_at_call 44; refine (rknown_t p.funcs (locals wrapI p (-1)) p.body w14 w14.heap.size (fun b => g14 b = 750) false _ _ _ _ _ _ _ (Nat.le_refl _) (fun b hb _ => hb) ((UP.out w14 X14.out.1.below).2.2.2.1.mono fun b hb _ => hb) (texts_of_owns X14.out.2.1 X14.out.2.2 (by have := HLN.out.2; omega)) ((UP.out w14 X14.out.1.below).2.2.2.2.mono fun b hb _ => hb)).mono ?_; rintro e w15 ⟨rfl, hb15⟩; rw [← HOKV.out]; have X15 := Lib.hid hb15; clear hb15)))
          | fail
          all_goals
            go_wp2_with fail
            go_meet
            case rel =>
              have h1 := X14.out.1.below.trans (X15.out.mono X14.out.1.below.size)
              exact ⟨rfl, Z.out.since.below.trans (h1.mono Z.out.since.below.size)⟩
        case rest =>
          obtain ⟨rfl, hbc⟩ := hcut
          have HBC := Lib.hid hbc
          have HKN := Lib.hid (show ok = known p.funcs (ownN [] p.body) p.body from by rw [HOKV.out, HLN.out.1])
          clear hbc p0 p1
          cases ok with
          | false =>
            have HBad := Lib.hid (scheck_bad (wrap := wrapI) HC.out (known_bad_body HKN.out.symm))
            go_wp2_with fail
            go_ret
            exact ⟨by rw [HBad.out]; rfl, HBC.out⟩
          | true =>
            have hh := headsTo_all HAll.out.1
            have hk2 := HAll.out.2
            rw [List.take_length] at hk2
            have HGood := Lib.hid (scheck_ok (wrap := wrapI) HC.out hh (known_good hh hk2 HKN.out.symm))
            clear hh hk2
            go_wp2_with fail
            go_ret
            exact ⟨by rw [HGood.out]; rfl, HBC.out⟩
end Go.Proofs.YtmkhfonafcikdaaGreatDoor
