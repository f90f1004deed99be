/- Trees: the reader: a program. -/
import Derived.Test.YtcldcigopkfmmaaGreatDoorPxProgLQ
import Derived.Deep.RegionHeld3
import Derived.RegionDies
import Derived.Deep.Light
namespace Go.Proofs.YtcldcigopkfmmaaGreatDoor
open Go.RowKit Go.My Go.Nd

set_option maxRecDepth 100000 in
set_option maxHeartbeats 40000000 in
theorem program_t {rb : Nat} {tv : Value} {xs : List To.T} {w : World} {ts : List Tx} (h : Rd w rb tv xs ts false) :
    Calls Tryz.prog 56 #[.pointer (some ⟨rb, 0, none⟩)] w (GotP w rb tv xs (progT [] ts)) := by
  have hmf : ∀ (fn : Fn) (first cap : Array Value) (w : World), (Instr.makeFunc fn first cap).run Tryz.prog w = .ok (.func fn first cap) w := fun _ _ _ _ => rfl
  obtain ⟨a1, n1, z1⟩ := Put.new w #[.slice none 0 0, .slice none 0 0] 47
  obtain ⟨c, hc⟩ : ∃ c, c = w.heap.size := ⟨_, rfl⟩
  obtain ⟨wA, hwA⟩ : ∃ wA, wA = (w.alloc (.cells #[.slice none 0 0, .slice none 0 0] 47)).alloc (.cells #[.bool false] 4) := ⟨_, rfl⟩
  have hst : PgSt w rb tv xs ts.length (progT [] ts) c [] ts (.slice none 0 0) wA := by
    generalize w.alloc (.cells #[.slice none 0 0, .slice none 0 0] 47) = w1 at *
    obtain ⟨a2, n2, z2⟩ := Put.new w1 #[.bool false] 4
    rw [← hwA] at a2 n2 z2
    have hrb := h.lt
    refine ⟨rfl, by simp, (Step.of_below (a1.trans (a2.mono a1.size))), (h.later a1).later a2, ?_, ?_, FsR.nil _ _ _, hc, by omega⟩
    · rw [hc]; exact (a2.block _ (by omega)).trans n1
    · rw [hc, ← z1]; exact n2
  have hlen := h.len
  have hle := h.le
  have HL := Lib.hid (show ts.length ≤ 65536 by omega)
  have HS := Lib.hid hst
  clear hst h a1 n1 z1 hlen hle
  go_enter_defers Tryz.func56, Tryz.ntmps56
  go_upto_region 2 with fail
  rw [← hwA, ← hc]
  clear hwA hc
  go_loopg [5] ts.length (fun gk v5 wr => PgAt w rb tv xs ts.length (progT [] ts) c gk wr)
  case atStart => exact ⟨[], ts, _, rfl, HS.out⟩
  case round =>
    obtain ⟨fs, ts1, v, rfl, hst⟩ := hrel
    obtain ⟨lo1, lc1, rfl⟩ := hst.list.form
    have HT := Lib.hid hst
    clear hst HS
    go_wp2_with fail
    by_cases hh : ts1.head? = some [102, 110]
    · obtain ⟨r, rfl⟩ := head_form hh
      refine takes_yes HT.out.rd (by decide) fun w2 hs2 h2 => ?_
      have hcc := HT.out.hrb
      have row2 := (hs2.kept (heap_lt HT.out.row) (by omega)).trans HT.out.row
      have X2 := Lib.hid (And.intro hs2 (And.intro h2 (And.intro row2 (And.intro ((hs2.kept (heap_lt HT.out.flag) (by omega)).trans HT.out.flag) (HT.out.list.kept hs2 (by omega) (Nat.le_refl _))))))
      have c0 := cell_of_row w2 c 0 _ _ _ row2
      have f0 := frozen_of_row w2 c 0 _ _ row2
      simp at c0
      clear hs2 h2 hh row2 hcc
      have HM := Lib.hid (show (fs.length + 1) * 64 ≤ 140737488351232 by have := HT.out.many; have := HL.out; rw [List.length_cons] at *; omega)
      go_upto_region 3 with fail
      have HBAD := Lib.hid (fun (q : List Tx) (w3 : World) (inn : Bool) (hrd : func r = .bad q) (hs3 : Step w2.drew w3 (some rb)) (h3 : Rd w3 rb tv xs q inn) => (show w3.heap[c]? = some (.cells #[.slice lo1 fs.length lc1, .slice none 0 0] 47 (0, 0)) ∧ w3.heap[c + 1]? = some (.cells #[.bool false] 4 (0, 0)) ∧ ∀ w4 w5, Put w3 w4 c #[.slice none 0 0, .slice none 0 0] 47 → Put w4 w5 (c + 1) #[.bool false] 4 → GotP w rb tv xs (progT [] ts) (.returned (.tuple #[.agg #[.slice none 0 0, .slice none 0 0], .bool false])) w5 from by
        have hcc := HT.out.hrb
        have hcw := HT.out.hc
        refine ⟨(hs3.kept (heap_lt X2.out.2.2.1) (by omega)).trans X2.out.2.2.1, (hs3.kept (heap_lt X2.out.2.2.2.1) (by omega)).trans X2.out.2.2.2.1, fun w4 w5 p1 p2 => ?_⟩
        rw [← HT.out.plain, progT_fn, hrd]
        exact ⟨(((HT.out.step.trans X2.out.1).trans ((Step.of_below (Below.refl _ w2).drew).trans hs3)).put p1 (by omega)).put p2 (by omega), ⟨inn, (h3.put p1 (by omega)).put p2 (by omega)⟩, rfl⟩))
      have HAFT := Lib.hid (fun (w3 : World) (hs3 : Step w2.drew w3 (some rb)) => (show w3.heap[c]? = some (.cells #[.slice lo1 fs.length lc1, .slice none 0 0] 47 (0, 0)) from (hs3.kept (heap_lt X2.out.2.2.1) (by have := HT.out.hrb; omega)).trans X2.out.2.2.1))
      first
      | (go_region_law (first
        | (go_simp; go_at_call 98; refine (func_t (X2.out.2.1.later (Below.refl _ w2).drew)).mono ?_; rintro e w3 ⟨hs3, hres⟩; cases hrd : func r; rotate_left 1; (rename_i q; rw [hrd] at hres; obtain ⟨⟨inn, h3⟩, rfl⟩ := hres; obtain ⟨k1, k2, k3⟩ := HBAD.out q w3 inn hrd hs3 h3; exact leave_bad rfl rfl k1 k2 (by omega) k3); rename_i f q; rw [hrd] at hres; obtain ⟨h3, v, rfl, hF⟩ := hres; obtain ⟨o1, e1, o2, e2, rfl⟩ := hF.form; have hrow3 := HAFT.out w3 hs3; have d0 := cell_of_row w3 c 0 _ _ _ hrow3; have g0 := frozen_of_row w3 c 0 _ _ hrow3; simp at d0; have hA := Put.new w3 #[.string (bs f.name), .slice o1 f.args.length e1, .slice o2 f.body.len e2] TFn; have d0' := cell_of_row _ c 0 _ _ _ ((hA.1.block c (heap_lt hrow3)).trans hrow3); have d0'' : ¬ c = w3.heap.size := Nat.ne_of_lt (heap_lt hrow3); simp only [List.getElem?_toArray, List.getElem?_cons_zero] at d0'; have X3 := Lib.hid (show Step w2.drew w3 (some rb) ∧ func r = .ok f q ∧ Rd w3 rb tv xs q false ∧ w3.heap[c]? = some (.cells #[.slice lo1 fs.length lc1, .slice none 0 0] 47 (0, 0)) ∧ FsR (w3.alloc (.cells #[.string (bs f.name), .slice o1 f.args.length e1, .slice o2 f.body.len e2] TFn)) (c + 2) wr.heap.size (.slice lo1 fs.length lc1) fs ∧ FR (w3.alloc (.cells #[.string (bs f.name), .slice o1 f.args.length e1, .slice o2 f.body.len e2] TFn)) wr.heap.size w3.heap.size (.agg #[.string (bs f.name), .slice o1 f.args.length e1, .slice o2 f.body.len e2]) f ∧ c + 2 ≤ wr.heap.size ∧ wr.heap.size ≤ w3.heap.size ∧ w3.heap.size ≤ (w3.alloc (.cells #[.string (bs f.name), .slice o1 f.args.length e1, .slice o2 f.body.len e2] TFn)).heap.size ∧ (w3.alloc (.cells #[.string (bs f.name), .slice o1 f.args.length e1, .slice o2 f.body.len e2] TFn)).heap[c]? = some (.cells #[.slice lo1 fs.length lc1, .slice none 0 0] 47 (0, 0)) from ⟨hs3, hrd, h3, hrow3, (FsR.later (X2.out.2.2.2.2.later (Below.refl _ w2).drew (by have := X2.out.1.size; exact this) |>.kept hs3 (by have := HT.out.hrb; omega) (by have := X2.out.1.size; exact this)) hA.1 (by have := X2.out.1.size; have := hs3.size; exact Nat.le_trans X2.out.1.size hs3.size)), ((hF.mono (show wr.heap.size ≤ w2.drew.heap.size from X2.out.1.size) (Nat.le_refl _)).later hA.1 (Nat.le_refl _)), (show c + 2 ≤ wr.heap.size by have := heap_lt HT.out.flag; omega), Nat.le_trans X2.out.1.size hs3.size, hA.1.size, (hA.1.block c (heap_lt hrow3)).trans hrow3⟩); clear hs3 h3 hF hrd hrow3 hA)
        | (refine step_func rfl (.tmp 8) (.tmp 11) rfl (v := .slice lo1 fs.length lc1) (fs := fs) (lo := c + 2) (hi := wr.heap.size) (hi2 := w3.heap.size) rfl X3.out.2.2.2.2.1 X3.out.2.2.2.2.2.1 (y := .slice (some ⟨w3.heap.size, 0, none⟩) 1 1) rfl (Src.lit #[.string (bs f.name), .slice o1 f.args.length e1, .slice o2 f.body.len e2] 70 rfl rfl) X3.out.2.2.2.2.2.2.1 X3.out.2.2.2.2.2.2.2.1 X3.out.2.2.2.2.2.2.2.2.1 HM.out ?_; intro ao cp w5 hL hB; have hrow5 := (hB.block c (Nat.lt_add_of_pos_right (by decide))).trans X3.out.2.2.2.2.2.2.2.2.2; have m0 := cell_of_row w5 c 0 _ _ _ hrow5; have n0 := frozen_of_row w5 c 0 _ _ hrow5; simp at m0; have X5 := Lib.hid (And.intro hL (And.intro hB hrow5)); clear hL hB hrow5)))
      | fail
      all_goals
        have hp : Put w5 (w5.setCell ⟨c, 0, none⟩ (.slice ao (fs.length + 1) cp)) c #[.slice ao (fs.length + 1) cp, .slice none 0 0] 47 := Put.one X5.out.2.2 0 _
        have HP := Lib.hid (HT.out.next X2.out.1 X3.out.1 X3.out.2.1 X3.out.2.2.1 (Put.new w3 _ TFn).1 X5.out.2.1 X5.out.1 hp)
        clear hp
        go_wp2_with fail
        go_roundg q.length
        case measure => have := (func_down r).lt X3.out.2.1; rw [List.length_cons]; omega
        case rel => exact ⟨fs ++ [f], q, _, rfl, HP.out⟩
    · refine takes_no HT.out.rd [102, 110] (by decide) hh fun w2 hb2 => ?_
      have hPb : PbSt w rb tv xs ts.length (progT [] ts) c w2.heap.size fs (.slice lo1 fs.length lc1) [] ts1 (.slice none 0 0) w2 := by
        have hcc := HT.out.hrb
        refine ⟨?_, by have := HT.out.many; simp; omega, HT.out.step.trans (Step.of_below hb2), HT.out.rd.later hb2, (hb2.block _ (heap_lt HT.out.row)).trans HT.out.row, (hb2.block _ (heap_lt HT.out.flag)).trans HT.out.flag, (HT.out.list.later hb2 (Nat.le_refl _)).mono (Nat.le_refl _) hb2.size, LR.nil _ _ _ _, HT.out.hc, hcc, by have := heap_lt HT.out.flag; have := hb2.size; omega, Nat.le_refl _⟩
        rw [← HT.out.plain, progT_body fs ts1 hh]; rfl
      have HB := Lib.hid hPb
      obtain ⟨mm, hmm⟩ : ∃ mm, mm = w2.heap.size := ⟨_, rfl⟩
      rw [← hmm] at HB
      clear hh hb2 hPb hmm
      go_wp2_with fail
      go_loopg [14] ts1.length (fun gk v14 wr => PbAt w rb tv xs ts.length (progT [] ts) c mm fs (.slice lo1 fs.length lc1) gk wr)
      case atStart => exact ⟨[], ts1, _, rfl, HB.out⟩
      case round =>
        obtain ⟨l, ts2, v, rfl, hst⟩ := hrel
        obtain ⟨lo2, lc2, rfl⟩ := hst.list.form
        rw [Ns.len_of] at hst
        have HU := Lib.hid hst
        have hle := hst.rd.le
        have hlen := hst.rd.len
        have r5 := hst.row
        obtain ⟨ao, cap, hv, _, _, _⟩ := hst.rd.toks
        obtain ⟨c0, c1, _⟩ := hst.rd.cell
        rw [hv] at c0
        obtain ⟨q, hq⟩ : ∃ q, q = xs.length - ts2.length := ⟨_, rfl⟩
        rw [← hq] at c1
        have HQ := Lib.hid hq
        cases hts : ts2 with
        | nil =>
          have hq2 : (xs.length : Int) ≤ (q : Int) := by rw [hts] at hq; simp at hq; omega
          have hdn : decide (q < xs.length) = false := by simp; omega
          have x0 := cell_of_row wr c 0 _ _ _ r5
          have x1 := cell_of_row wr c 1 _ _ _ r5
          have g0 := frozen_of_row wr c 0 _ _ r5
          have g1 := frozen_of_row wr c 1 _ _ r5
          have y0 := cell_of_row wr (c + 1) 0 _ _ _ hst.flag
          have h0 := frozen_of_row wr (c + 1) 0 _ _ hst.flag
          simp at x0 x1 y0
          clear hst HB HT hq hv hle hlen
          go_upto_region 4 with fail
          go_quiet (fail)
          go_wp2_with fail
          have hcc := HU.out.hrb
          have hcw := HU.out.hc
          have p1 := put2 (w := wr.drewN nq) (by rw [heap_drewN']; exact HU.out.row) (.slice lo1 fs.length lc1) (.slice lo2 l.length lc2)
          have p2 : Put _ _ (c + 1) #[.bool true] 4 := Put.one ((p1.oth (c + 1) (by omega)).trans (by rw [heap_drewN']; exact HU.out.flag)) 0 (.bool true)
          refine leave_ok rfl rfl ((p2.oth c (by omega)).trans p1.row) p2.row ?_
          have hd := below_drewN' wr nq
          have hpl := HU.out.plain
          rw [hts, bodyT_nil] at hpl
          rw [← hpl]
          show GotP w rb tv xs (.ok ⟨fs, Ns.of (l ++ [])⟩ []) _ _
          rw [List.append_nil]
          have z1 := p1.size
          have z2 := p2.size
          have hl1 := HU.out.lo
          have hl2 := HU.out.hi
          refine ⟨((HU.out.step.trans (Step.of_below hd)).put p1 (by omega)).put p2 (by omega), ⟨false, (((hts ▸ HU.out.rd).later hd).put p1 hcc).put p2 (by omega)⟩, _, rfl, mm, _, _, rfl, by omega, ?_, ?_, ?_⟩
          · have := hd.size; omega
          · exact ((HU.out.funcs.later hd hl2).frame fun b q1 _ => (p2.oth b (by omega)).trans (p1.oth b (by omega))).mono (by omega) (Nat.le_refl _)
          · exact LR.mono (LR.frame (HU.out.list.later hd (Nat.le_refl _)) fun b q1 _ => (p2.oth b (by omega)).trans (p1.oth b (by omega))) (Nat.le_refl _) (by have := hd.size; omega)
        | cons s r =>
          have hdn : decide (q < xs.length) = true := by rw [hts] at hq hle; simp at hq hle ⊢; omega
          have HTS := Lib.hid hts
          have x1 := cell_of_row wr c 1 _ _ _ r5
          have g1 := frozen_of_row wr c 1 _ _ r5
          simp at x1
          have hm : (l.length + 1) * 96 ≤ 140737488351232 := by have hm1 := hst.many; have := HL.out; rw [hts, List.length_cons] at hm1; omega
          have HM := Lib.hid hm
          clear hst HB HT hq hv hle hlen hts hm r5
          go_upto_region 4 with fail
          go_quiet (fail)
          clear c0 c1 x1 g1
          obtain ⟨w2, hw2⟩ : ∃ w2, w2 = wr.drewN nq := ⟨_, rfl⟩
          have hd := below_drewN' wr nq
          rw [← hw2] at hd
          have X2 := Lib.hid (And.intro hd (And.intro (HU.out.rd.later hd) (And.intro ((hd.block _ (heap_lt HU.out.row)).trans HU.out.row) (And.intro ((hd.block _ (heap_lt HU.out.flag)).trans HU.out.flag) (HU.out.list.later hd (Nat.le_refl _))))))
          have c1 := cell_of_row w2 c 1 _ _ _ X2.out.2.2.1
          have f1 := frozen_of_row w2 c 1 _ _ X2.out.2.2.1
          simp at c1
          clear hd
          go_upto_region 5 with fail
          rw [← hw2]
          clear hw2
          have e1 : (l.length : Int) < (l.length : Int) + 1 := by omega
          have hz0 : c + 2 ≤ mm := HU.out.lo
          have hz1 : rb < c := HU.out.hrb
          cases hok : stm false ts2 with
          | bad u0 =>
            have HOK := Lib.hid hok
            clear hok
            obtain ⟨bad, hbd⟩ : ∃ bad : World → Prop, bad = fun w3 => w3.heap[c]? = some (.cells #[.slice lo1 fs.length lc1, .slice lo2 l.length lc2] 47 (0, 0)) ∧ w3.heap[c + 1]? = some (.cells #[.bool false] 4 (0, 0)) ∧ ∀ w4 w5, Put w3 w4 c #[.slice none 0 0, .slice none 0 0] 47 → Put w4 w5 (c + 1) #[.bool false] 4 → GotP w rb tv xs (progT [] ts) (.returned (.tuple #[.agg #[.slice none 0 0, .slice none 0 0], .bool false])) w5 := ⟨_, rfl⟩
            have HCALL := Lib.hid (fun (W : World) (hb : Below w2.heap.size w2 W) => (show Calls Tryz.prog 99 #[.pointer (some ⟨rb, 0, none⟩)] W (StmRes W rb c wr.heap.size mm tv xs #[.slice lo1 fs.length lc1, .slice lo2 l.length lc2] l (.slice lo2 l.length lc2) ts2 bad) from
              stm_res (X2.out.2.1.later hb) ((hb.block _ (heap_lt X2.out.2.2.1)).trans X2.out.2.2.1) (by omega) (LR.later X2.out.2.2.2.2 hb X2.out.1.size) (by omega) (Nat.le_trans X2.out.1.size hb.size) (fun u w3 hrd hs3 h3 => by
                have hcw := HU.out.hc
                have s3 : Step w2 w3 (some rb) := (Step.of_below hb).trans hs3
                rw [hbd]
                refine ⟨(s3.kept (heap_lt X2.out.2.2.1) (by omega)).trans X2.out.2.2.1, (s3.kept (heap_lt X2.out.2.2.2.1) (by omega)).trans X2.out.2.2.2.1, fun w4 w5 p1 p2 => ?_⟩
                rw [← HU.out.plain, show bodyT ts2 = .bad u by rw [HTS.out, bodyT_cons, ← HTS.out, hrd]; rfl]
                exact ⟨(((HU.out.step.trans (Step.of_below X2.out.1)).trans s3).put p1 (by omega)).put p2 (by omega), ⟨false, (h3.put p1 hz1).put p2 (by omega)⟩, rfl⟩)))
            have HBD := Lib.hid hbd
            clear hbd
            have d1a := cell_of_row (w2.alloc (.cells zero5.toArray TN)) c 1 _ _ _ (((Put.new w2 zero5.toArray TN).1.block _ (heap_lt X2.out.2.2.1)).trans X2.out.2.2.1)
            unfold zero5 at d1a
            simp only [List.getElem?_toArray, List.getElem?_cons_succ, List.getElem?_cons_zero] at d1a
            have hnc : ¬ c = w2.heap.size := Nat.ne_of_lt (heap_lt X2.out.2.2.1)
            have HLEAF := Lib.hid (fun (W : World) (hb : Below w2.heap.size w2 W) (R : Ending → World → Prop) (hR : ∀ w3, bad w3 → R (.panicked wrongChain) w3) => (show Calls Tryz.prog 99 #[.pointer (some ⟨rb, 0, none⟩)] W R from
              (HCALL.out W hb).mono fun e w3 h => by
                rcases h with ⟨rfl, hbd⟩ | ⟨x, u, a1, d1, a2, d2, a3, d3, rfl, hX⟩
                · exact hR w3 hbd
                · exact absurd (HOK.out.symm.trans hX.1) (fun e => by cases e)))
            have hb1 := Lib.hid ((Below.refl w2.heap.size w2).drew)
            have hb2 := Lib.hid (Put.new w2 zero5.toArray TN).1.drew
            have hne1 : c ≠ c + 1 := by omega
            have HNE := Lib.hid hne1
            clear hne1
            have HLEAF := Lib.hid (fun (W : World) (hb : Below w2.heap.size w2 W) (R : Ending → World → Prop) (hR : ∀ w3, bad w3 → R (.panicked wrongChain) w3) => (show Calls Tryz.prog 99 #[.pointer (some ⟨rb, 0, none⟩)] W R from
              (HCALL.out W hb).mono fun e w3 h => by
                rcases h with ⟨rfl, hbd⟩ | ⟨x, u, a1, d1, a2, d2, a3, d3, rfl, hX⟩
                · exact hR w3 hbd
                · exact absurd (HOK.out.symm.trans hX.1) (fun e => by cases e)))
            have hb1 := Lib.hid ((Below.refl w2.heap.size w2).drew)
            have hb2 := Lib.hid (Put.new w2 zero5.toArray TN).1.drew
            have hne1 : c ≠ c + 1 := by omega
            have HNE := Lib.hid hne1
            clear hne1
            go_light
            first
            | go_region_dies
            | fail
            all_goals exact HLEAF.out _ (by first | exact hb1.out | exact hb2.out) _ (fun w3 hbd => by rw [HBD.out] at hbd; exact leave_bad rfl rfl hbd.1 hbd.2.1 HNE.out hbd.2.2)
          | ok x0 u0 =>
            have HOK := Lib.hid hok
            clear hok
            have HCALL := Lib.hid (fun (W : World) (hb : Below w2.heap.size w2 W) => (show Calls Tryz.prog 99 #[.pointer (some ⟨rb, 0, none⟩)] W (StmRes W rb c wr.heap.size mm tv xs #[.slice lo1 fs.length lc1, .slice lo2 l.length lc2] l (.slice lo2 l.length lc2) ts2 (fun _ => False)) from
              stm_res (X2.out.2.1.later hb) ((hb.block _ (heap_lt X2.out.2.2.1)).trans X2.out.2.2.1) (by omega) (LR.later X2.out.2.2.2.2 hb X2.out.1.size) (by omega) (Nat.le_trans X2.out.1.size hb.size) (fun u w3 hrd hs3 h3 => by rw [HOK.out] at hrd; cases hrd)))
            have d1a := cell_of_row (w2.alloc (.cells zero5.toArray TN)) c 1 _ _ _ (((Put.new w2 zero5.toArray TN).1.block _ (heap_lt X2.out.2.2.1)).trans X2.out.2.2.1)
            unfold zero5 at d1a
            simp only [List.getElem?_toArray, List.getElem?_cons_succ, List.getElem?_cons_zero] at d1a
            have hnc : ¬ c = w2.heap.size := Nat.ne_of_lt (heap_lt X2.out.2.2.1)
            have HU2 := Lib.hid (show PbSt w rb tv xs ts.length (progT [] ts) c mm fs (.slice lo1 fs.length lc1) l (s :: r) (.slice lo2 l.length lc2) wr from by rw [← HTS.out]; exact HU.out)
            have HTS2 := Lib.hid (show stm false (s :: r) = stm false ts2 from by rw [HTS.out])
            obtain ⟨J, hJ⟩ : ∃ J : World → Prop, J = PbLess w rb tv xs ts.length (progT [] ts) c mm fs (.slice lo1 fs.length lc1) ts2.length := ⟨_, rfl⟩
            obtain ⟨A, hA⟩ : ∃ A : Value → Value → Value → Value → Value → Value → Value → Value → Value → Act, A = fun y24 y25 y26 y27 y28 y29 y30 y31 y32 => { tmps := #[.pointer (some ⟨rb, 0, none⟩), undef, .pointer (some ⟨c, 0, none⟩), .pointer (some ⟨c + 1, 0, none⟩), .func (.func 96) #[] #[.pointer (some ⟨c, 0, none⟩), .pointer (some ⟨c + 1, 0, none⟩)], .pointer (some ⟨rb, 0, none⟩), .bool false, u7, u8, u9, u10, u11, u12, u13, .pointer (some ⟨rb, 0, none⟩), .pointer (some ⟨rb, 0, none⟩), .pointer (some ⟨rb, 1, none⟩), .int .i64 (q : Int), .pointer (some ⟨rb, 0, none⟩), .pointer (some ⟨rb, 0, none⟩), .pointer (some ⟨rb, 0, none⟩), .slice ao xs.length cap, .int .i64 (xs.length : Int), .bool true, y24, y25, y26, y27, y28, y29, y30, y31, y32, undef], defers := [{ target := .fn (.func 96) #[.pointer (some ⟨c, 0, none⟩), .pointer (some ⟨c + 1, 0, none⟩)], args := #[] }] } := ⟨_, rfl⟩
            have HJ := Lib.hid hJ
            have HA := Lib.hid hA
            clear hJ hA
            refine wp_mono_post (Q := R5Post J A) ?_ ?_
            · intro e a' w' hq
              cases e with
              | normal =>
                obtain ⟨hat, y24, y25, y26, y27, y28, y29, y30, y31, y32, rfl⟩ := hq
                rw [HJ.out] at hat
                obtain ⟨gk, hlt, hat⟩ := hat
                rw [HA.out]
                dsimp only
                have HAT := Lib.hid (And.intro hlt hat)
                clear hlt hat
                go_wp2_with fail
                go_roundg gk
                case measure => exact HAT.out.1
                case rel => exact HAT.out.2
              | _ => exact hq.elim
            go_light
            go_region_law (first
              | (go_simp; go_at_call 99; refine (HCALL.out _ ((Below.refl _ w2).drew)).mono ?_; rintro e w3 (⟨rfl, hbd⟩ | ⟨x, u, a1, d1, a2, d2, a3, d3, rfl, hX⟩); exact hbd.elim; have X3 := Lib.hid (And.intro hX ((Step.of_below ((Below.refl _ w2).drew)).trans hX.2.1)); clear hX; have m1 := cell_of_row w3 c 1 _ _ _ X3.out.1.2.2.2.1; have m1' := cell_of_row _ c 1 _ _ _ (((Put.new w3 zero5.toArray TN).1.block c (heap_lt X3.out.1.2.2.2.1)).trans X3.out.1.2.2.2.1); unfold zero5 at m1'; simp only [List.getElem?_toArray, List.getElem?_cons_succ, List.getElem?_cons_zero] at m1 m1'; have hnc3 : ¬ c = w3.heap.size := Nat.ne_of_lt (heap_lt X3.out.1.2.2.2.1))
              | (go_simp; go_at_call 99; refine (HCALL.out _ (Put.new w2 zero5.toArray TN).1.drew).mono ?_; rintro e w3 (⟨rfl, hbd⟩ | ⟨x, u, a1, d1, a2, d2, a3, d3, rfl, hX⟩); exact hbd.elim; have X3 := Lib.hid (And.intro hX ((Step.of_below (row := some rb) (Put.new w2 zero5.toArray TN).1.drew).trans hX.2.1)); have XZ := Lib.hid (src_row (size := 5) (n := 1) ((hX.2.1.kept (Nat.lt_of_lt_of_eq (Nat.lt_succ_self w2.heap.size) (Put.new w2 zero5.toArray TN).2.2.symm) (Nat.ne_of_gt X2.out.2.1.lt)).trans (Put.new w2 zero5.toArray TN).2.1) rfl); clear hX; have m1 := cell_of_row w3 c 1 _ _ _ X3.out.1.2.2.2.1; have m1' := cell_of_row _ c 1 _ _ _ (((Put.new w3 zero5.toArray TN).1.block c (heap_lt X3.out.1.2.2.2.1)).trans X3.out.1.2.2.2.1); unfold zero5 at m1'; simp only [List.getElem?_toArray, List.getElem?_cons_succ, List.getElem?_cons_zero] at m1 m1'; have hnc3 : ¬ c = w3.heap.size := Nat.ne_of_lt (heap_lt X3.out.1.2.2.2.1))
              | (refine step_zero rfl (.tmp 25) (.tmp 29) rfl (v := .slice lo2 l.length lc2) (l := l) (lo := mm) (hi := wr.heap.size) rfl (LR.later X3.out.1.2.2.2.2.2.1 (Put.new w3 zero5.toArray TN).1 (Nat.le_trans X2.out.1.size X3.out.2.size)) (y := .slice (some ⟨w3.heap.size, 0, none⟩) 1 1) rfl (Src.lit zero5.toArray TN rfl rfl) HU.out.hi (Nat.le_trans (Nat.le_trans X2.out.1.size X3.out.2.size) (Put.new w3 zero5.toArray TN).1.size) HM.out ?_; intro b off cp w5 hH hbb hB hkp; obtain ⟨⟨p0, p1, p2, p3, p4⟩, q0, q1, q2, q3, q4⟩ := hH.five; have hrow5 := (hB.block c (by omega)).trans (((Put.new w3 zero5.toArray TN).1.block c (heap_lt X3.out.1.2.2.2.1)).trans X3.out.1.2.2.2.1); have n1 := cell_of_row w5 c 1 _ _ _ hrow5; have n1f := frozen_of_row w5 c 1 _ _ hrow5; simp only [List.getElem?_toArray, List.getElem?_cons_succ, List.getElem?_cons_zero] at n1; have hcb : ¬ c = b := (by have := hH.lo.1; omega); have hcb' : ¬ b = c := (by have := hH.lo.1; omega); have X5 := Lib.hid (show Apd w3 w5 c wr.heap.size mm #[.slice lo1 fs.length lc1, .slice lo2 l.length lc2] l b off cp from ⟨_, (Put.new w3 zero5.toArray TN).1, hbb, hB, hkp, hH, hrow5⟩); clear hH hbb hB hkp hrow5)
              | (refine step_zero rfl (.tmp 25) (.tmp 29) rfl (v := .slice lo2 l.length lc2) (l := l) (lo := mm) (hi := wr.heap.size) rfl X3.out.1.2.2.2.2.2.1 (y := .slice (some ⟨w2.heap.size, 0, none⟩) 1 1) rfl XZ.out HU.out.hi (Nat.le_trans X2.out.1.size X3.out.2.size) HM.out ?_; intro b off cp w5 hH hbb hB hkp; obtain ⟨⟨p0, p1, p2, p3, p4⟩, q0, q1, q2, q3, q4⟩ := hH.five; have hrow5 := (hB.block c (by omega)).trans X3.out.1.2.2.2.1; have n1 := cell_of_row w5 c 1 _ _ _ hrow5; have n1f := frozen_of_row w5 c 1 _ _ hrow5; simp only [List.getElem?_toArray, List.getElem?_cons_succ, List.getElem?_cons_zero] at n1; have hcb : ¬ c = b := (by have := hH.lo.1; omega); have hcb' : ¬ b = c := (by have := hH.lo.1; omega); have X5 := Lib.hid (show Apd w3 w5 c wr.heap.size mm #[.slice lo1 fs.length lc1, .slice lo2 l.length lc2] l b off cp from ⟨w3, Below.refl _ _, hbb, hB, hkp, hH, hrow5⟩); clear hH hbb hB hkp hrow5))
            all_goals
              have HEND := Lib.hid (fun (w7 : World) (main : LR w7 TN mm w7.heap.size (.slice (some ⟨b, off, none⟩) (l.length + 1) cp) (Ns.of (l ++ [x]))) (hf : Fin5 w5 w7 b c #[.slice lo1 fs.length lc1, .slice (some ⟨b, off, none⟩) (l.length + 1) cp]) => (show J w7 from by
                rw [HJ.out]
                exact ⟨u.length, (stm_down false ts2).lt X3.out.1.1, l ++ [x], u, _, rfl, PbSt.next HU2.out X2.out.1 X3.out.2 (HTS2.out.trans X3.out.1.1) X3.out.1.2.2.1 X5.out main hf⟩))
              refine ⟨?_, ?_⟩
              rotate_left 1
              · rw [HA.out]
                exact ⟨_, _, _, _, _, _, _, _, _, rfl⟩
              · first
                | (have hsf := Sets.five w5 b (off + l.length * 5) (off + l.length * 5 + 1) (off + l.length * 5 + 2) (off + l.length * 5 + 3) (off + l.length * 5 + 4) (.int .u8 (x.kind : Int)) (.string (tx x.text)) (.slice a1 x.l.len d1) (.slice a2 x.body.len d2) (.slice a3 x.els.len d3)
                   have hfl := X5.out.fill X3.out.1.2.2.2.2.1 HU.out.hi
                   have hpc : (((((w5.setCell ⟨b, off + l.length * 5, none⟩ (.int .u8 (x.kind : Int))).setCell ⟨b, off + l.length * 5 + 1, none⟩ (.string (tx x.text))).setCell ⟨b, off + l.length * 5 + 2, none⟩ (.slice a1 x.l.len d1)).setCell ⟨b, off + l.length * 5 + 3, none⟩ (.slice a2 x.body.len d2)).setCell ⟨b, off + l.length * 5 + 4, none⟩ (.slice a3 x.els.len d3)).heap[c]? = some (.cells #[.slice lo1 fs.length lc1, .slice lo2 l.length lc2] 47 (0, 0)) := X5.out.row hcb
                   obtain ⟨w6, hw6⟩ : ∃ w6, w6 = (((((w5.setCell ⟨b, off + l.length * 5, none⟩ (.int .u8 (x.kind : Int))).setCell ⟨b, off + l.length * 5 + 1, none⟩ (.string (tx x.text))).setCell ⟨b, off + l.length * 5 + 2, none⟩ (.slice a1 x.l.len d1)).setCell ⟨b, off + l.length * 5 + 3, none⟩ (.slice a2 x.body.len d2)).setCell ⟨b, off + l.length * 5 + 4, none⟩ (.slice a3 x.els.len d3)) := ⟨_, rfl⟩
                   rw [← hw6] at hsf hfl hpc ⊢
                   have hp : Put w6 (w6.setCell ⟨c, 1, none⟩ (.slice (some ⟨b, off, none⟩) (l.length + 1) cp)) c #[.slice lo1 fs.length lc1, .slice (some ⟨b, off, none⟩) (l.length + 1) cp] 47 := Put.one hpc 1 _
                   have hz : (w6.setCell ⟨c, 1, none⟩ (.slice (some ⟨b, off, none⟩) (l.length + 1) cp)).heap.size = w5.heap.size := hp.size.trans hsf.size
                   exact HEND.out _ (by rw [hz]; exact LR.frame hfl fun k q1 _ => hp.oth k (by omega)) (fin5_a hsf hp))
                | (have hrow5 : w5.heap[c]? = some (.cells #[.slice lo1 fs.length lc1, .slice lo2 l.length lc2] 47 (0, 0)) := X5.out.crow
                   have hp : Put w5 (w5.setCell ⟨c, 1, none⟩ (.slice (some ⟨b, off, none⟩) (l.length + 1) cp)) c #[.slice lo1 fs.length lc1, .slice (some ⟨b, off, none⟩) (l.length + 1) cp] 47 := Put.one hrow5 1 _
                   obtain ⟨w6, hw6⟩ : ∃ w6, w6 = (w5.setCell ⟨c, 1, none⟩ (.slice (some ⟨b, off, none⟩) (l.length + 1) cp)) := ⟨_, rfl⟩
                   rw [← hw6] at hp ⊢
                   have hfl := X5.out.fill2 X3.out.1.2.2.2.2.1 HU.out.hi (by omega) hp
                   have hsf := Sets.five w6 b (off + l.length * 5) (off + l.length * 5 + 1) (off + l.length * 5 + 2) (off + l.length * 5 + 3) (off + l.length * 5 + 4) (.int .u8 (x.kind : Int)) (.string (tx x.text)) (.slice a1 x.l.len d1) (.slice a2 x.body.len d2) (.slice a3 x.els.len d3)
                   obtain ⟨w7, hw7⟩ : ∃ w7, w7 = (((((w6.setCell ⟨b, off + l.length * 5, none⟩ (.int .u8 (x.kind : Int))).setCell ⟨b, off + l.length * 5 + 1, none⟩ (.string (tx x.text))).setCell ⟨b, off + l.length * 5 + 2, none⟩ (.slice a1 x.l.len d1)).setCell ⟨b, off + l.length * 5 + 3, none⟩ (.slice a2 x.body.len d2)).setCell ⟨b, off + l.length * 5 + 4, none⟩ (.slice a3 x.els.len d3)) := ⟨_, rfl⟩
                   rw [← hw7] at hfl hsf ⊢
                   exact HEND.out _ (by rw [hsf.size]; exact hfl) (fin5_b hp hsf hcb))
end Go.Proofs.YtcldcigopkfmmaaGreatDoor
