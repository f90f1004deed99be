/- Scopes: fine: the walk. -/
import Derived.Test.YtmkhfonafcikdaaGreatDoorScFineV
namespace Go.Proofs.YtmkhfonafcikdaaGreatDoor
open Go.RowKit Go.Maps Go.My Go.Nd Go.WideMaps
theorem wide_fn_true (f : FuncId) : Fence.wide.fn f = True := rfl
attribute [local go_sem] Oper.semAt_some wide_fn_true true_and

theorem region_to {F : Fence} {n : Nat} {P : Program} {c : Code} {Q : Exit → Act → World → Prop} {a : Act} {w : World} (A : Act) (W : World) (h : c.wpIn F n P (fun e a' w' => e = .normal ∧ a' = A ∧ w' = W) a w) (hq : Q .normal A W) : c.wpIn F n P Q a w :=
  Go.wpIn_mono h fun _ _ _ ⟨h1, h2, h3⟩ => by subst h1 h2 h3; exact hq

theorem run_var' {P : Program} (w : World) {ty : TypeId} {d : TypeDesc} (hu : P.underlying ty = some d) (hd : (match d with | .struct _ | .array _ _ => true | _ => false) = false) {a : Addr} {v : Value} (hc : w.cell? a = some v) : (loadVar ty a).run P w = .ok v w := by
  have hagg : (isAgg ty).run P w = .ok false w := by
    unfold isAgg
    rw [Sem.run_bind, run_underlying hu w]
    cases d <;> simp_all
  simp [loadVar, Sem.run_bind, hagg, Result.andThen, hc]


set_option maxRecDepth 100000 in
set_option maxHeartbeats 16000000 in
theorem fine_t {w : World} {B : Nat} {tw : Bool} {fname : Tx} {va vb : Value} {args : List Tx} {body : Ns} {mm kk : Nat} {many : Tx → Option Nat} (hB : B ≤ w.heap.size) (h1 : TextsIn w (· < B) tw va args) (h2 : Nodes w (· < B) tw vb body)
    (hsz : args.length + body.flat.length ≤ 2000000) (hM : MapS Tryz.prog 9 w mm kk (fun s => (many s).map fun n : Nat => .int .i64 (n : Int))) :
    Calls Tryz.prog 40 #[.agg #[.string (bs fname), va, vb], .map (some mm)] w fun e w' => e = .returned (.bool (fineF many args body)) ∧ Below w.heap.size w w' := by
  obtain ⟨a1, c1, rfl⟩ := h1.form
  obtain ⟨a2, c2, rfl⟩ := h2.form
  have HT := Lib.hid h1
  have HN := Lib.hid h2
  have HB := Lib.hid hB
  have HM := Lib.hid hM
  have HSZ := Lib.hid hsz
  clear h1 h2 hB hM hsz
  refine (callsIn_wide (n := 5)).1 (callsIn_of_wp_marks Tryz.func40 rfl trivial ?_ rfl)
  simp only [Tryz.ntmps40, List.size_toArray, List.length_cons, List.length_nil, Nat.reduceAdd, Nat.reduceSub, Array.replicate_succ, Array.replicate_zero, List.push_toArray, List.append_toArray, List.nil_append, List.cons_append]
  refine wpIn_wide.2 ?_
  go_upto_region 1 with fail
  obtain ⟨g1, S1, F1, K1, R1⟩ := fi_start (w := w) #[.string (bs fname), .slice a1 args.length c1, .slice a2 body.len c2] mm
  obtain ⟨fb, hfb⟩ : ∃ fb, fb = w.heap.size := ⟨_, rfl⟩
  obtain ⟨w3, hw3⟩ : ∃ w3, w3 = ((w.alloc (.cells #[.string (bs fname), .slice a1 args.length c1, .slice a2 body.len c2] 57)).alloc (.cells #[.map (some mm)] 72)).alloc (.cells #[.bool false] 4) := ⟨_, rfl⟩
  rw [← hw3] at S1 F1 K1 R1
  rw [← hfb] at F1 K1 R1
  rw [← hw3, ← hfb]
  have HB3 := Lib.hid (Nat.le_trans HB.out S1.below.size)
  have HT3 := Lib.hid (HT.out.below (S1.below.mono HB.out))
  have HN3 := Lib.hid (HN.out.below (S1.below.mono HB.out))
  have d1 := cell_of_row w3 fb 1 _ _ _ F1.1
  have d2 := cell_of_row w3 fb 2 _ _ _ F1.1
  simp at d1 d2
  have H3 := Lib.hid (And.intro S1 (And.intro F1 (And.intro K1 R1)))
  clear S1 F1 K1 R1 hw3 hfb
  go_wp2_with fail
  refine sown_t HB3.out HT3.out HN3.out HSZ.out fun nb w4 g4 k S4 N4 => ?_
  have TJ := S4.join g1
  have NJ := N4.join S4 g1 (by decide)
  obtain ⟨g5, hg5⟩ : ∃ g5, g5 = Tags.join w3.heap.size g1 g4 := ⟨_, rfl⟩
  rw [← hg5] at TJ NJ
  have T6 := Turn.alloc w4 g5 704 (.cells #[.pointer (some ⟨nb, 0, none⟩)] 71)
  have B6 := Blk.alloc w4 g5 704 (.cells #[.pointer (some ⟨nb, 0, none⟩)] 71 (0, 0))
  have T36 := TJ.trans T6 (V := []) (by simp) (by simp)
  have V6 : FiVar w _ _ fb (fb + 1) (fb + 1 + 1) w4.heap.size nb #[.string (bs fname), .slice a1 args.length c1, .slice a2 body.len c2] mm false (ownN args body) k :=
    ⟨H3.out.1.turn T36 (by simp), H3.out.2.1.turn T36 (by simp), H3.out.2.2.1.turn T36 (by simp), H3.out.2.2.2.turn T36 (by simp), B6, NJ.turn T6 (by simp) (by simp) (by simp)⟩
  have d1' := cell_of_row w4 fb 1 _ _ _ (H3.out.2.1.turn TJ (by simp)).1
  have d2' := cell_of_row w4 fb 2 _ _ _ (H3.out.2.1.turn TJ (by simp)).1
  simp at d1' d2'
  have hfl : fb < w4.heap.size := (H3.out.2.1.turn TJ (by simp)).lt
  obtain ⟨g6, hg6⟩ : ∃ g6, g6 = g5.ext w4.heap.size 704 := ⟨_, rfl⟩
  rw [← hg6] at V6
  have X6 := Lib.hid V6
  clear TJ NJ T6 B6 T36 V6 hg6 hg5 S4 N4 d1 d2 d1'
  go_upto_region 2 with fail
  obtain ⟨bb, hbb⟩ : ∃ bb, bb = w4.heap.size := ⟨_, rfl⟩
  obtain ⟨w6, hw6⟩ : ∃ w6, w6 = w4.alloc (.cells #[.pointer (some ⟨nb, 0, none⟩)] 71) := ⟨_, rfl⟩
  have X6' := Lib.hid X6.out
  clear X6
  rw [← hw6, ← hbb] at *
  have X6 := Lib.hid X6'.out
  have c2' := cell_of_row w6 fb 2 _ _ _ X6.out.fbox.1
  simp at c2'
  clear X6' d2' hfl hw6 hbb
  go_wp2_with fail
  refine walkc_t.mono ?_
  rintro e w7 ⟨rfl, hw7⟩
  have TA := Turn.alloc w6 g6 705 (.cells #[.slice a2 body.len c2] 23)
  have BA := Blk.alloc w6 g6 705 (.cells #[.slice a2 body.len c2] 23 (0, 0))
  have XA := X6.out.turn TA (by simp)
  rw [← hw7] at TA BA XA
  obtain ⟨g7, hg7⟩ : ∃ g7, g7 = g6.ext w6.heap.size 705 := ⟨_, rfl⟩
  rw [← hg7] at BA XA
  obtain ⟨lb, hlb⟩ : ∃ lb, lb = w6.heap.size := ⟨_, rfl⟩
  rw [← hlb] at BA ⊢
  have X7 := Lib.hid (And.intro XA BA)
  clear TA BA XA hw7 hlb hg7 c2' X6
  go_wp2_with fail
  refine wp_range2 rfl (enters_of Tryz.func148 (by kernel_rfl) rfl) fun r e1 e2 e3 e4 e5 e6 => ?_
  simp only [List.append_toArray, List.cons_append, List.nil_append]
  have HE := Lib.hid (And.intro e1 (And.intro e2 (And.intro e3 (And.intro e4 (And.intro e5 e6)))))
  clear e1 e2 e3 e4 e5 e6
  obtain ⟨g8, hst8⟩ := fi_loop X7.out.1 X7.out.2 r
  generalize w7.heap.size = D at *
  generalize (w7.alloc (.deferred (some []))).alloc (.loop r) = W8 at *
  have HST := Lib.hid hst8
  have HBW := Lib.hid hst8.1.1.since.below
  clear hst8
  refine Calls.mono (walk1_t (w0 := w) (w := W8) (g := g8) (B := B) (tw := tw) (l := D + 1) (lb := lb) (TB := [510]) (xs := body)
    (J := FiJ w fb (fb + 1) (fb + 1 + 1) bb nb D #[.string (bs fname), .slice a1 args.length c1, .slice a2 body.len c2] mm (ownN args body) many (fineF many args body) r)
    (Jx := FiX w fb (fb + 1) (fb + 1 + 1) bb nb D #[.string (bs fname), .slice a1 args.length c1, .slice a2 body.len c2] mm (ownN args body) (fineF many args body) r)
    (R := fun W => (∃ g, FiJ w fb (fb + 1) (fb + 1 + 1) bb nb D #[.string (bs fname), .slice a1 args.length c1, .slice a2 body.len c2] mm (ownN args body) many (fineF many args body) r [] W g) ∨ FiX w fb (fb + 1) (fb + 1 + 1) bb nb D #[.string (bs fname), .slice a1 args.length c1, .slice a2 body.len c2] mm (ownN args body) (fineF many args body) r W)
    ?h0 ?stay ?below ?yields HB.out (by decide) ?hlb (HN.out.below (HBW.out.mono HB.out)) (fun W g h => .inl ⟨g, h⟩) (fun W h => .inr h)) ?_
  case h0 => exact ⟨k, HST.out.1, rfl⟩
  case stay => exact fun r' W g W' g' ⟨k, h, e⟩ T => ⟨k, h.turn T (by simp), e⟩
  case below => exact fun r' W g ⟨_, h, _⟩ => h.1.since.below
  case hlb => exact cell_of_row _ _ 0 _ _ _ HST.out.2.1
  case yields =>
    intro x r' W g v ⟨k, hO, hall⟩ hv
    obtain ⟨a4, c4, a5, c5, a6, c6, rfl, hkd, htx, n1, n2, n3⟩ := hv
    refine yields_of hO.2.1 HE.out.1 HE.out.2.1 HE.out.2.2.1 HE.out.2.2.2.1 HE.out.2.2.2.2.1 HE.out.2.2.2.2.2 ?_
    have T1 := Turn.alloc W g 706 (.cells #[.int .u8 (x.kind : Int), .string (tx x.text), .slice a4 x.l.len c4, .slice a5 x.body.len c5, .slice a6 x.els.len c6] 61)
    have bt := Blk.alloc W g 706 (.cells #[.int .u8 (x.kind : Int), .string (tx x.text), .slice a4 x.l.len c4, .slice a5 x.body.len c5, .slice a6 x.els.len c6] 61 (0, 0))
    have hO1 := hO.turn T1 (by simp)
    obtain ⟨tb, htb⟩ : ∃ tb, tb = W.heap.size := ⟨_, rfl⟩
    have HX := Lib.hid (And.intro T1 (And.intro bt hO1))
    have HK := Lib.hid (And.intro hall (And.intro hkd htx))
    clear T1 bt hO hO1 hall n1 n2 n3 hkd htx
    gi_wp2
    refine ⟨⟨_, HX.out.2.2.2.1⟩, ?_⟩
    obtain ⟨T2, hO2⟩ := HX.out.2.2.loop { state := .busy, pending := r.pending, fn := r.fn, tmps := r.tmps, params := r.params, assign := r.assign, body := r.body, defers := r.defers }
    have bt2 := HX.out.2.1.turn T2 (by simp)
    have T3 := HX.out.1.trans T2 (V := [510]) (by simp) (by simp)
    rw [← htb] at bt2 ⊢
    clear T2 htb
    generalize (W.alloc (.cells #[.int .u8 (x.kind : Int), .string (tx x.text), .slice a4 x.l.len c4, .slice a5 x.body.len c5, .slice a6 x.els.len c6] 61)).putObj (D + 1) (.loop { state := .busy, pending := r.pending, fn := r.fn, tmps := r.tmps, params := r.params, assign := r.assign, body := r.body, defers := r.defers }) = W2 at *
    generalize g.ext W.heap.size 706 = g7 at *
    clear HX
    have q0 := cell_of_row W2 tb 0 _ _ _ bt2.1
    have q1 := cell_of_row W2 tb 1 _ _ _ bt2.1
    have q2 := cell_of_row W2 tb 2 _ _ _ bt2.1
    have p0 := cell_of_row W2 bb 0 _ _ _ hO2.1.var.1
    have p1 := cell_of_row W2 (fb + 1) 0 _ _ _ hO2.1.kbox.1
    have p2 := cell_of_row W2 (fb + 1 + 1) 0 _ _ _ hO2.1.rbox.1
    have p3 := frozen_of_row W2 (fb + 1 + 1) 0 _ _ hO2.1.rbox.1
    simp at q0 q1 q2 p0 p1 p2
    have HY := Lib.hid (And.intro hO2 T3)
    have HTB := Lib.hid (show g7 tb ∉ [] by simp)
    have k0 : (0 : Int) ≤ (x.kind : Int) := by omega
    clear bt2 hO2 T3
    by_cases h2 : x.kind = 2
    · have h2' : (x.kind : Int) = 2 := by omega
      obtain ⟨mo, cc, m0, hlk, m1, m2⟩ := seen_t (HY.out.1.1.nam.turn (Turn.drew W2 g7) (by simp) (by simp) (by simp)) HK.out.2.2
      rw [show bs x.text = tx x.text from rfl] at hlk
      have ho0 : x.kind = 2 → fineX (ownN args body) many x = ((ownN args body).contains x.text || Go.Nd.letters.contains x.text) := fun h => by unfold fineX; rw [if_pos h]
      have HF2 := Lib.hid (ho0 h2)
      clear ho0 h2
      cases hin : (ownN args body).contains x.text with
      | true =>
        have hc1 : (1 : Int) ≤ (cc : Int) := by have := m1 hin; omega
        have HOK := Lib.hid (fine_more HK.out.1 (by rw [HF2.out, hin]; rfl))
        clear m1 m2 hin
        gi_wp2
        apply region_to
        case h =>
          gi_region_with (fail)
          all_goals exact ⟨rfl, rfl, rfl⟩
        gi_wp2
        have HD := Lib.hid (And.intro (HY.out.1.turn (Turn.drew W2 g7) (by simp)) (HY.out.2.trans (Turn.drew W2 g7) (V := [510]) (by simp) (by simp)))
        obtain ⟨T9, hF9⟩ := HD.out.1.loop r
        exact ⟨_, HD.out.1.2.1, .inl ⟨rfl, _, ⟨_, hF9, HOK.out⟩, HD.out.2.trans T9 (fun _ h => h) (by simp)⟩⟩
      | false =>
        obtain rfl := m2 hin
        have HF3 := Lib.hid (show fineX (ownN args body) many x = Go.Nd.letters.contains x.text by rw [HF2.out, hin]; rfl)
        have q1L' : (W2.drew.alloc letObj).cell? ⟨tb, 1, none⟩ = some (.string (tx x.text)) := (World.cell?_of_block ((Turn.alloc W2.drew g7 712 letObj).block tb (World.block_lt_of_cell? W2 _ q1) HTB.out)).trans q1
        have hbL : (W2.drew.alloc letObj).heap[W2.heap.size]? = some (.cells #[.string ⟨#[120]⟩, .string ⟨#[121]⟩, .string ⟨#[122]⟩, .string ⟨#[116]⟩] 9 (0, 0)) := heap_alloc_new W2.drew _
        have HQ := Lib.hid (fun (w8 : World) (h : w8 = W2.drew.alloc letObj) => h.symm ▸ q1L')
        have HL := Lib.hid (fun (w8 : World) (h : w8 = W2.drew.alloc letObj) => h.symm ▸ hbL)
        have TL := (Turn.drew W2 g7).trans (Turn.alloc W2.drew g7 712 letObj) (V := []) (by simp) (by simp)
        have HD := Lib.hid (And.intro (HY.out.1.turn TL (by simp)) (HY.out.2.trans TL (V := [510]) (by simp) (by simp)))
        obtain ⟨bl, hbl⟩ : ∃ bl, bl = Go.Nd.letters.contains x.text := ⟨_, rfl⟩
        have HC := Lib.hid (fun (W : World) (h : W.heap[W2.heap.size]? = some (.cells #[.string ⟨#[120]⟩, .string ⟨#[121]⟩, .string ⟨#[122]⟩, .string ⟨#[116]⟩] 9 (0, 0))) => islet_t h x.text)
        rw [← hbl] at HF3 HC
        clear m1 m2 hin hbL TL hbl q1L'
        gi_wp2
        apply region_to (W := W2.drew.alloc letObj)
        case h =>
          gi_region_with (first | (refine CallsIn.inRound _ (callsIn_wide.2 (letters_t.mono ?_)); rintro e w8 ⟨rfl, hw8⟩; have q1L := HQ.out w8 hw8; have HLL := Lib.hid (HL.out w8 hw8); have HW8 := Lib.hid hw8; clear hw8) | (refine CallsIn.inRound _ (callsIn_wide.2 ((HC.out _ HLL.out).mono ?_)); rintro e w9 ⟨rfl, rfl⟩))
          all_goals exact ⟨rfl, rfl, HW8.out⟩
        clear HQ HL
        generalize g7.ext W2.drew.heap.size 712 = g8 at *
        generalize W2.drew.alloc letObj = W3 at *
        have p2L := cell_of_row W3 (fb + 1 + 1) 0 _ _ _ HD.out.1.1.rbox.1
        have p3L := frozen_of_row W3 (fb + 1 + 1) 0 _ _ HD.out.1.1.rbox.1
        simp at p2L
        cases bl with
        | true =>
          have HOK := Lib.hid (fine_more HK.out.1 HF3.out)
          gi_wp2
          obtain ⟨T9, hF9⟩ := HD.out.1.loop r
          exact ⟨_, HD.out.1.2.1, .inl ⟨rfl, _, ⟨_, hF9, HOK.out⟩, HD.out.2.trans T9 (fun _ h => h) (by simp)⟩⟩
        | false =>
          have HNO := Lib.hid (fine_not HK.out.1 HF3.out)
          gi_wp2
          obtain ⟨T8, hF8⟩ := HD.out.1.answer false
          obtain ⟨T9, hF9⟩ := hF8.loop { r with state := .done, pending := some .ret }
          exact ⟨_, hF8.2.1, .inr ⟨rfl, _, _, hF9, HNO.out⟩⟩
    · have h2' : ¬ (x.kind : Int) = 2 := by omega
      by_cases h4 : x.kind = 4
      · have h4' : (x.kind : Int) = 4 := by omega
        have MM := HM.out.frame (HY.out.1.1.since.below.block mm HM.out.lt)
        have hsm : x.text.length ≤ maxLen := by have := HK.out.2.2; unfold maxLen; omega
        have hf4 : fineX (ownN args body) many x = (match many x.text with | some n => n == x.l.len | none => libOf x.text == some x.l.len) := by unfold fineX; rw [if_neg h2, if_pos h4]; cases many x.text <;> rfl
        clear h2 h4
        cases hmy : many x.text with
        | some n =>
          have hlk := MM.look_some Tryz.underlying9 Tryz.underlying72 (z := .int .i64 0) (by kernel_rfl) hsm (u := .int .i64 (n : Int)) (by rw [hmy]; rfl)
          rw [show bs x.text = tx x.text from rfl] at hlk
          rw [hmy] at hf4
          have HF4 := Lib.hid hf4
          clear hf4 hmy MM hsm
          by_cases hn : n = x.l.len
          · have HOK := Lib.hid (fine_more HK.out.1 (by rw [HF4.out, hn]; simp))
            subst hn
            gi_wp2
            obtain ⟨T9, hF9⟩ := HY.out.1.loop r
            exact ⟨g7, HY.out.1.2.1, .inl ⟨rfl, g7, ⟨_, hF9, HOK.out⟩, HY.out.2.trans T9 (fun _ h => h) (by simp)⟩⟩
          · have HNO := Lib.hid (fine_not HK.out.1 (by rw [HF4.out]; simp [hn]))
            have hn' : ¬ (n : Int) = (x.l.len : Int) := by omega
            clear hn
            gi_wp2
            obtain ⟨T8, hF8⟩ := HY.out.1.answer false
            obtain ⟨T9, hF9⟩ := hF8.loop { r with state := .done, pending := some .ret }
            exact ⟨g7, hF8.2.1, .inr ⟨rfl, g7, _, hF9, HNO.out⟩⟩
        | none =>
          have hlk := MM.look_none Tryz.underlying9 Tryz.underlying72 (z := .int .i64 0) (by kernel_rfl) hsm (by rw [hmy]; rfl)
          rw [show bs x.text = tx x.text from rfl] at hlk
          rw [hmy] at hf4
          have HF4 := Lib.hid hf4
          clear hf4 hmy MM hsm
          gi_wp2
          refine CallsIn.inRound _ (callsIn_wide.2 ((lib_t x.text HK.out.2.2).mono ?_))
          rintro e W3 ⟨rfl, hb3⟩
          have TL := Turn.of_below hb3 g7 713
          have HD := Lib.hid (And.intro (HY.out.1.turn TL (by simp)) (HY.out.2.trans TL (V := [510]) (by simp) (by simp)))
          have p2L := cell_of_row W3 (fb + 1 + 1) 0 _ _ _ HD.out.1.1.rbox.1
          have p3L := frozen_of_row W3 (fb + 1 + 1) 0 _ _ HD.out.1.1.rbox.1
          have q2L := (World.cell?_of_block (hb3.block tb (World.block_lt_of_cell? W2 _ q1))).trans q2
          simp at p2L
          cases hL : libOf x.text with
          | none =>
            have HNO := Lib.hid (fine_not HK.out.1 (by rw [HF4.out, hL]; rfl))
            clear hL hb3 TL
            gi_wp2
            obtain ⟨T8, hF8⟩ := HD.out.1.answer false
            obtain ⟨T9, hF9⟩ := hF8.loop { r with state := .done, pending := some .ret }
            exact ⟨_, hF8.2.1, .inr ⟨rfl, _, _, hF9, HNO.out⟩⟩
          | some n =>
            rw [hL] at HF4
            clear hL hb3 TL
            by_cases hn : n = x.l.len
            · have HOK := Lib.hid (fine_more HK.out.1 (by rw [HF4.out, hn]; simp))
              subst hn
              gi_wp2
              obtain ⟨T9, hF9⟩ := HD.out.1.loop r
              exact ⟨_, HD.out.1.2.1, .inl ⟨rfl, _, ⟨_, hF9, HOK.out⟩, HD.out.2.trans T9 (fun _ h => h) (by simp)⟩⟩
            · have HNO := Lib.hid (fine_not HK.out.1 (by rw [HF4.out]; simp [hn]))
              have hn' : ¬ (n : Int) = (x.l.len : Int) := by omega
              clear hn
              gi_wp2
              obtain ⟨T8, hF8⟩ := HD.out.1.answer false
              obtain ⟨T9, hF9⟩ := hF8.loop { r with state := .done, pending := some .ret }
              exact ⟨_, hF8.2.1, .inr ⟨rfl, _, _, hF9, HNO.out⟩⟩
      · have h4' : ¬ (x.kind : Int) = 4 := by omega
        have HOK := Lib.hid (fine_more HK.out.1 (show fineX (ownN args body) many x = true by unfold fineX; rw [if_neg h2, if_neg h4]))
        clear h2 h4
        gi_wp2
        obtain ⟨T9, hF9⟩ := HY.out.1.loop r
        exact ⟨g7, HY.out.1.2.1, .inl ⟨rfl, g7, ⟨_, hF9, HOK.out⟩, HY.out.2.trans T9 (fun _ h => h) (by simp)⟩⟩
  rintro e W6 ⟨⟨v, rfl⟩, (⟨g6, k6, hR, he⟩ | ⟨g6, k6, hR, he⟩)⟩
  · have hend := run_endLoop (P := Tryz.prog) hR.2.1.1 (by rw [HE.out.1]; simp)
    rw [HE.out.2.1] at hend
    refine ⟨none, _, hend, ?_⟩
    obtain ⟨T7, hR7⟩ := hR.loop { state := .exhausted, pending := none, fn := r.fn, tmps := r.tmps, params := r.params, assign := r.assign, body := r.body, defers := r.defers }
    clear hend hR T7 HST HBW
    generalize W6.putObj (D + 1) (.loop { state := .exhausted, pending := none, fn := r.fn, tmps := r.tmps, params := r.params, assign := r.assign, body := r.body, defers := r.defers }) = W7 at *
    have p2 := cell_of_row W7 (fb + 1 + 1) 0 _ _ _ hR7.1.rbox.1
    have p3 := frozen_of_row W7 (fb + 1 + 1) 0 _ _ hR7.1.rbox.1
    simp at p2
    have HR := Lib.hid hR7
    have HF := Lib.hid (show fineF many args body = true from he.symm)
    clear hR7 he
    go_wp2_with fail
    obtain ⟨T8, hR8⟩ := HR.out.answer true
    refine ⟨by simp, .inl ⟨_, _, rfl, run_takeDeferred hR8.2.2.1, ?_⟩⟩
    obtain ⟨T9, hD9⟩ := hR8.2.2.put (.deferred none)
    have hV := hR8.1.turn T9 (by simp)
    exact ⟨_, results_cell1 rfl _ _ _ rfl (run_var' _ Tryz.underlying4 rfl (cell_of_row _ _ 0 _ _ _ hV.rbox.1)), by rw [HF.out]; rfl, hV.since.below⟩
  · refine ⟨some .ret, _, run_endLoop (P := Tryz.prog) hR.2.1.1 (by simp), ?_⟩
    obtain ⟨T7, hR7⟩ := hR.loop { state := .exhausted, pending := some .ret, fn := r.fn, tmps := r.tmps, params := r.params, assign := r.assign, body := r.body, defers := r.defers }
    clear hR T7 HST HBW
    generalize W6.putObj (D + 1) (.loop { state := .exhausted, pending := some .ret, fn := r.fn, tmps := r.tmps, params := r.params, assign := r.assign, body := r.body, defers := r.defers }) = W7 at *
    have HF := Lib.hid he
    clear he
    show Code.wpIn _ _ _ _ _ _ _
    gi_wp2
    refine ⟨by simp, .inl ⟨_, _, rfl, run_takeDeferred hR7.2.2.1, ?_⟩⟩
    obtain ⟨T9, hD9⟩ := hR7.2.2.put (.deferred none)
    have hV := hR7.1.turn T9 (by simp)
    exact ⟨_, results_cell1 rfl _ _ _ rfl (run_var' _ Tryz.underlying4 rfl (cell_of_row _ _ 0 _ _ _ hV.rbox.1)), by rw [HF.out]; rfl, hV.since.below⟩
end Go.Proofs.YtmkhfonafcikdaaGreatDoor
