/- Trees, as the document has them: Parse. -/
import Derived.Test.YtcldcigopkfmmaaGreatDoorRrParseLQ
import Derived.Test.YtcldcigopkfmmaaGreatDoorPxParseQ
import Derived.Test.YtcldcigopkfmmaaGreatDoorTrReadQ
import Derived.Test.YtcldcigopkfmmaaGreatDoorNdRGreatQ
namespace Go.Proofs.YtcldcigopkfmmaaGreatDoor
open Go.RowKit Go.My Go.Nd

theorem rparse_results {w : World} {c : Nat} {v0 v1 : Value} {tmps : Array Value} {x y : Value} (t2 : tmps.getD 2 undef = .pointer (some ⟨c, 0, none⟩)) (t3 : tmps.getD 3 undef = x) (t4 : tmps.getD 4 undef = y)
    (h : w.heap[c]? = some (.cells #[v0, v1] TPr (0, 0))) : (results Tryz.f11 tmps).run Tryz.prog w = .ok (.tuple #[.agg #[v0, v1], x, y]) w := by
  have hv := prVar w c v0 v1 h
  have t2' : tmps[2]?.getD undef = .pointer (some ⟨c, 0, none⟩) := by simpa using t2
  have t3' : tmps[3]?.getD undef = x := by simpa using t3
  have t4' : tmps[4]?.getD undef = y := by simpa using t4
  simp [results, Tryz.results11, t2', t3', t4', asAddr, Result.andThen, hv]

set_option maxRecDepth 100000 in
set_option maxHeartbeats 8000000 in
theorem rparse_t {w : World} (s : Tx) : Calls Tryz.prog 11 #[.string (bs s)] w (Parsed w s) := by
  have hin := To.read_in s
  obtain ⟨hA, hn, hz⟩ := Put.new w #[.slice none 0 0, .slice none 0 0] TPr
  have X0 := Lib.hid (show RP w w.heap.size (w.alloc (.cells #[.slice none 0 0, .slice none 0 0] TPr)) from ⟨rfl, hA, hn⟩)
  have HIN := Lib.hid hin
  obtain ⟨c, hc⟩ : ∃ c, c = w.heap.size := ⟨_, rfl⟩
  obtain ⟨wA, hwA⟩ : ∃ wA, wA = w.alloc (.cells #[.slice none 0 0, .slice none 0 0] TPr) := ⟨_, rfl⟩
  rw [← hwA, ← hc] at X0
  obtain ⟨l, hl⟩ : ∃ l, l = (To.read s).1 := ⟨_, rfl⟩
  obtain ⟨p0, hp0⟩ : ∃ p0, p0 = (To.read s).2.1 := ⟨_, rfl⟩
  obtain ⟨e0, he0⟩ : ∃ e0, e0 = (To.read s).2.2 := ⟨_, rfl⟩
  have HL := Lib.hid (And.intro hl (And.intro hp0 he0))
  have hs1 := bs_size s
  clear hin hA hn hz
  go_enter Tryz.func11, Tryz.ntmps11
  go_upto_region 1 with fail
  rw [← hwA, ← hc]
  clear hwA hc hl hp0 he0
  go_wp2_with fail
  refine refread_t (fun _ => 0) 7 s fun v w1 g1 hT hO => ?_
  rw [← HL.out.2.1, ← HL.out.2.2]
  have hk := toks_of_owns hO
  rw [← HL.out.1] at hk
  have X1 := Lib.hid (And.intro (X0.out.later (turn_below hT)) (And.intro hk (show g1 c = 0 from hT.old c (heap_lt X0.out.row))))
  obtain ⟨ao, cap, hv, k1, k2, k3⟩ := hk
  subst hv
  clear hT hO k1 k2 k3
  by_cases he : e0 = 0
  · have he' : (e0 : Int) = 0 := by omega
    subst he
    have hlen : l.length ≤ 65536 := by rw [HL.out.1]; have := HIN.out.2.1; have := HIN.out.2.2.2.1 HL.out.2.2.symm; omega
    have hpg : PgR w c w1.heap.size (w1.heap.size + 1) (.slice ao l.length cap) l (progT [] (l.map (·.text))) [] (l.map (·.text)) false (.slice none 0 0) ((w1.alloc (.cells #[.slice ao l.length cap, .int .i64 0, .bool false, .bool false] TRd)).alloc (.cells #[.slice none 0 0, .slice none 0 0] TPr)) := by
      obtain ⟨hA, hn, hz⟩ := Put.new w1 #[.slice ao l.length cap, .int .i64 0, .bool false, .bool false] TRd
      generalize w1.alloc (.cells #[.slice ao l.length cap, .int .i64 0, .bool false, .bool false] TRd) = w2 at *
      obtain ⟨hA2, hn2, hz2⟩ := Put.new w2 #[.slice none 0 0, .slice none 0 0] TPr
      have hrd : Rr w2 w1.heap.size (.slice ao l.length cap) l (l.map (·.text)) false false := by
        refine ⟨by simpa using hn, List.suffix_refl _, (tokIn_of X1.out.2.1 (Nat.le_refl _)).frame hA.size fun b _ hlt => hA.block b hlt, hlen, fun x hx => ?_, fun x hx => ?_⟩
        · rw [HL.out.1] at hx
          have := (HIN.out.1 x hx).1
          have := HIN.out.2.2.2.1 HL.out.2.2.symm
          omega
        · rw [HL.out.1] at hx
          exact To.read_kinds s x hx
      have hclt := heap_lt X1.out.1.row
      rw [hz] at hn2
      exact ⟨rfl, by simp, (X1.out.1.below.trans (hA.mono X1.out.1.below.size)).trans (hA2.mono (by have := X1.out.1.below.size; omega)), hrd.later hA2, (hA2.block c (by omega)).trans ((hA.block c hclt).trans X1.out.1.row), hn2, FsR.nil _ _ _, by rw [X1.out.1.hc]; exact Nat.le_refl _, hclt, Nat.lt_succ_self _⟩
    obtain ⟨rb, hrb⟩ : ∃ rb, rb = w1.heap.size := ⟨_, rfl⟩
    obtain ⟨pb, hpb⟩ : ∃ pb, pb = rb + 1 := ⟨_, rfl⟩
    obtain ⟨w3, hw3, hpg⟩ := hide_world (P := fun w3 => PgR _ _ _ _ _ _ _ _ _ _ _ w3) hpg
    rw [← hrb, ← hpb] at hpg
    obtain ⟨tot, htot⟩ : ∃ tot, tot = progT [] (l.map (·.text)) := ⟨_, rfl⟩
    rw [← htot] at hpg
    have X2 := Lib.hid (And.intro hpg htot)
    have HLN := Lib.hid hlen
    clear hpg htot he' hlen
    go_upto_region 6 with fail
    rw [← hw3, ← hrb, ← hpb]
    clear hw3 hrb hpb
    go_loopg [] l.length (fun gk wr => PgRAt w c rb pb (.slice ao l.length cap) l tot gk wr)
    case atStart => exact ⟨[], l.map (·.text), false, _, by simp, X2.out.1⟩
    case round =>
      obtain ⟨fs, ts1, bad1, v, rfl, hst⟩ := hrel
      obtain ⟨lo1, lc1, rfl⟩ := hst.list.form
      have HTOT := Lib.hid X2.out.2
      have HT := Lib.hid hst
      have hrb := hst.hrb
      have hpb := hst.hpb
      clear hst X2
      by_cases hh : bad1 = false ∧ ts1.head? = some [102, 110]
      · obtain ⟨rfl, hh⟩ := hh
        obtain ⟨r, rfl⟩ := head_form hh
        clear hh
        go_wp2_with fail
        refine tk_yes HT.out.rd fun w2 hs2 h2 => ?_
        have hrow2 := (hs2.kept (heap_lt HT.out.row) (by omega)).trans HT.out.row
        have X2 := Lib.hid (And.intro hs2 (And.intro h2 (And.intro hrow2 (HT.out.list.kept hs2 (by omega) (Nat.le_refl _)))))
        obtain ⟨c0, c1, f0, f1⟩ := row2 hrow2
        clear hs2 h2 hrow2
        have HM := Lib.hid (show (fs.length + 1) * 64 ≤ 140737488351232 by have := HT.out.many; have := HLN.out; rw [List.length_cons] at *; omega)
        have HZ := Lib.hid (show pb + 1 ≤ wr.heap.size from heap_lt HT.out.row)
        go_upto_region 7 with fail
        have HAFT := Lib.hid (fun (w3 : World) (hs3 : Step w2.drew w3 (some rb)) => (show w3.heap[pb]? = some (.cells #[.slice lo1 fs.length lc1, .slice none 0 0] TPr (0, 0)) from (hs3.kept (heap_lt X2.out.2.2.1) (by omega)).trans X2.out.2.2.1))
        have HLATE := Lib.hid (fun (w3 : World) (hs3 : Step w2.drew w3 (some rb)) (o : Obj) => (show FsR (w3.alloc o) (pb + 1) wr.heap.size (.slice lo1 fs.length lc1) fs from FsR.later (FsR.kept (X2.out.2.2.2.later (Below.refl _ w2).drew X2.out.1.size) hs3 (by omega) X2.out.1.size) (Below.alloc (Below.refl _ w3) (Nat.le_refl _) o) (Nat.le_trans X2.out.1.size hs3.size)))
        go_region_law (first
          | (go_simp; go_at_call 59; refine (rfunc_t (X2.out.2.1.later (Below.refl _ w2).drew)).mono ?_; rintro e w3 ⟨hs3, h3, v3, f, rfl, hF, hi3⟩; obtain ⟨o1, e1, o2, e2, rfl⟩ := hF.form; rw [gate_ok] at h3 hi3; have hrow3 := HAFT.out w3 hs3; obtain ⟨x0', x1', g0', g1'⟩ := row2 hrow3; have y0' := fun o => (row2 (row2_alloc hrow3 o)).1; have X3 := Lib.hid (And.intro hs3 (And.intro h3 (And.intro hi3 (And.intro hrow3 ((hF.mono (show wr.heap.size ≤ w2.drew.heap.size from X2.out.1.size) (Nat.le_refl _)).later (Put.new w3 #[.string (bs f.name), .slice o1 f.args.length e1, .slice o2 f.body.len e2] TFn).1 (Nat.le_refl _)))))); clear hs3 h3 hi3 hrow3 hF)
          | (refine step_func rfl (.tmp 27) (.tmp 30) rfl (v := .slice lo1 fs.length lc1) (fs := fs) (lo := pb + 1) (hi := wr.heap.size) (hi2 := w3.heap.size) rfl (HLATE.out w3 X3.out.1 _) X3.out.2.2.2.2 (y := .slice (some ⟨w3.heap.size, 0, none⟩) 1 1) rfl (Src.lit #[.string (bs f.name), .slice o1 f.args.length e1, .slice o2 f.body.len e2] 70 rfl rfl) HZ.out (Nat.le_trans X2.out.1.size X3.out.1.size) (Put.new w3 #[.string (bs f.name), .slice o1 f.args.length e1, .slice o2 f.body.len e2] TFn).1.size HM.out ?_; intro ao5 cp5 w5 hL hB; have hrow5 := (hB.block pb (Nat.lt_succ_self _)).trans (row2_alloc X3.out.2.2.2.1 (.cells #[.string (bs f.name), .slice o1 f.args.length e1, .slice o2 f.body.len e2] TFn)); obtain ⟨m0, m1, n0, n1⟩ := row2 hrow5; have X5 := Lib.hid (And.intro hL (And.intro hB hrow5)); clear hL hB hrow5))
        all_goals
          have hp : Put w5 (w5.setCell ⟨pb, 0, none⟩ (.slice ao5 (fs.length + 1) cp5)) pb #[.slice ao5 (fs.length + 1) cp5, .slice none 0 0] TPr := Put.one X5.out.2.2 0 _
          have HP := Lib.hid (HT.out.next X2.out.1 X3.out.1 X3.out.2.1 X3.out.2.2.1 (Put.new w3 #[.string (bs f.name), .slice o1 f.args.length e1, .slice o2 f.body.len e2] TFn).1 X5.out.2.1 X5.out.1 hp)
          clear hp
          go_wp2_with fail
          go_roundg (func r).rest.length
          case measure => have := R.rest_down (func_down r); rw [List.length_cons]; omega
          case rel => exact ⟨fs ++ [f], _, _, _, rfl, HP.out⟩
      · have hno : No bad1 ts1 [102, 110] := by
          cases bad1 with
          | true => rfl
          | false => exact No.head (fun e => hh ⟨rfl, e⟩) _
        have HB := Lib.hid (HT.out.body hno)
        have HNO := Lib.hid hno
        obtain ⟨mm, hmm⟩ : ∃ mm, mm = wr.heap.size := ⟨_, rfl⟩
        rw [← hmm] at HB
        clear hh hno hmm
        go_wp2_with fail
        refine tk_no HT.out.rd [102, 110] HNO.out ?_
        go_wp2_with fail
        go_loopg [] (if bad1 then 0 else ts1.length + 1) (fun gk wr => PbRAt w c rb pb mm (.slice ao l.length cap) l tot fs (.slice lo1 fs.length lc1) gk wr)
        case atStart => exact ⟨[], ts1, bad1, _, rfl, HB.out⟩
        case round =>
          obtain ⟨bl, ts2, bad2, v2, rfl, hst⟩ := hrel
          obtain ⟨lo2, lc2, rfl⟩ := hst.list.form
          rw [Ns.len_of] at hst
          have HU := Lib.hid hst
          have hle := hst.rd.le
          obtain ⟨_, k1, _, k3, _, _, _⟩ := hst.rd.cell
          obtain ⟨q, hq⟩ : ∃ q, q = l.length - ts2.length := ⟨_, rfl⟩
          rw [← hq] at k1
          have HQ := Lib.hid (And.intro hq hle)
          obtain ⟨p0', p1', pf0, pf1⟩ := row2 hst.row
          obtain ⟨z0, z1, zf0, zf1⟩ := row2 hst.res
          clear hst HB HT hq hle HNO
          cases bad2 with
          | true =>
            have hb : tot = .bad ts2 := HU.out.plain
            have hpb2 := parse_bad wrapI s HL.out.2.2.symm (r := ts2) (by rw [← HL.out.1, ← HTOT.out]; exact hb)
            have HPB := Lib.hid hpb2
            clear hb hpb2
            by_cases hlt : q < l.length
            · obtain ⟨ao', cap', e, _, _, k⟩ := HU.out.rd.toks
              cases e
              obtain ⟨b, off, rfl, _, _, hcl⟩ := k (by omega)
              have d2 := (hcl q hlt).2.2
              have hlti : (q : Int) < (l.length : Int) := by omega
              have hq0 : (0 : Int) ≤ (q : Int) := by omega
              have hpl : placeOf s (To.read s).1 ts2 = (l[q]).pos := by unfold placeOf; rw [← HL.out.1, ← HQ.out.1, List.getElem?_eq_getElem hlt]
              have HPL := Lib.hid hpl
              obtain ⟨pp, hpp⟩ : ∃ pp, pp = (l[q]).pos := ⟨_, rfl⟩
              rw [← hpp] at d2 HPL
              clear k hcl hpl hlt hpp
              go_wp2_with fail
              have hp := put2 HU.out.res (.slice none 0 0) (.slice none 0 0)
              refine bodyPost_ret (rparse_results rfl rfl rfl hp.row) rfl ?_
              have hb := hp.below HU.out.below HU.out.hc
              have hpb := HPB.out
              rw [HPL.out] at hpb
              refine ⟨hb, .agg #[.slice none 0 0, .slice none 0 0], ?_, ?_⟩
              · rw [hpb]; rfl
              · rw [hpb]; exact PrR.nil _ _ _ hb.size
            · have hlti : (l.length : Int) ≤ (q : Int) := by omega
              have hpl : placeOf s (To.read s).1 ts2 = s.length := by unfold placeOf; rw [← HL.out.1, ← HQ.out.1, List.getElem?_eq_none (by omega)]
              have HPL := Lib.hid hpl
              clear hpl hlt
              go_wp2_with fail
              have hp := put2 HU.out.res (.slice none 0 0) (.slice none 0 0)
              refine bodyPost_ret (rparse_results rfl rfl rfl hp.row) rfl ?_
              have hb := hp.below HU.out.below HU.out.hc
              have hpb := HPB.out
              rw [HPL.out] at hpb
              refine ⟨hb, .agg #[.slice none 0 0, .slice none 0 0], ?_, ?_⟩
              · rw [hpb]; rfl
              · rw [hpb]; exact PrR.nil _ _ _ hb.size
          | false =>
            cases ts2 with
            | nil =>
              have hb : tot = .ok ⟨fs, Ns.of bl⟩ [] := by
                rw [HU.out.plain, gate_ok, bodyT_nil]
                show R.ok (⟨fs, Ns.of (bl ++ [])⟩ : Pr) [] = _
                rw [List.append_nil]
              have hpo := parse_ok wrapI s HL.out.2.2.symm (by rw [← HL.out.1, ← HTOT.out]; exact hb)
              have HPO := Lib.hid hpo
              have hqi : (l.length : Int) ≤ (q : Int) := by have := HQ.out.1; simp at this; omega
              have hd1 : decide ((q : Int) < (l.length : Int)) = false := by simpa using hqi
              have hd2 : decide (q < l.length) = false := by simpa using hqi
              clear hb hpo
              go_wp2_with fail
              have hF : FuncsIn wr (· < wr.heap.size) false (.slice lo1 fs.length lc1) fs := HU.out.funcs.funcs fun b _ h => by have := HU.out.hi; show b < _; omega
              have hN : Nodes wr (· < wr.heap.size) false (.slice lo2 (Ns.of bl).len lc2) (Ns.of bl) := by rw [Ns.len_of]; exact HU.out.list.nodes fun b _ h => h
              rw [Ns.len_of] at hN
              refine (rgreat_t (p := ⟨fs, Ns.of bl⟩) (Nat.le_refl _) hF hN).mono ?_
              rintro e w5 ⟨rfl, hb5⟩
              obtain ⟨g, hg⟩ : ∃ g, g = greatP wrapI ⟨fs, Ns.of bl⟩ := ⟨_, rfl⟩
              rw [← hg]
              have hres5 := (hb5.block _ (heap_lt HU.out.res)).trans HU.out.res
              have hrow5 := (hb5.block _ (heap_lt HU.out.row)).trans HU.out.row
              have X5 := Lib.hid (And.intro hres5 (And.intro (HU.out.below.trans (hb5.mono HU.out.below.size)) (And.intro (show g = (great wrapI (Ns.of bl) || fs.any fun f => great wrapI f.body) by rw [hg]; unfold greatP bodiesOf; rw [List.any_cons, List.any_map]; rfl) hb5)))
              clear p0' p1' pf0 pf1 z0 z1 zf0 zf1 k1 k3
              obtain ⟨z0, z1, zf0, zf1⟩ := row2 hres5
              obtain ⟨q0, q1, _, _⟩ := row2 hrow5
              clear hF hN hg hres5 hrow5 hb5
              cases g with
              | true =>
                go_wp2_with fail
                have hp := put2 X5.out.1 (.slice none 0 0) (.slice none 0 0)
                refine bodyPost_ret (rparse_results rfl rfl rfl hp.row) rfl ?_
                have hb := hp.below X5.out.2.1 HU.out.hc
                have hpo := HPO.out
                rw [← X5.out.2.2.1, if_pos rfl] at hpo
                refine ⟨hb, .agg #[.slice none 0 0, .slice none 0 0], ?_, ?_⟩
                · rw [hpo]; rfl
                · rw [hpo]; exact PrR.nil _ _ _ hb.size
              | false =>
                go_wp2_with fail
                have hp := put2 X5.out.1 (.slice lo1 fs.length lc1) (.slice lo2 bl.length lc2)
                refine bodyPost_ret (rparse_results rfl rfl rfl hp.row) rfl ?_
                have hb := hp.below X5.out.2.1 HU.out.hc
                have hpo := HPO.out
                rw [← X5.out.2.2.1, if_neg (by decide)] at hpo
                refine ⟨hb, .agg #[.slice lo1 fs.length lc1, .slice lo2 bl.length lc2], ?_, ?_⟩
                · rw [hpo]; rfl
                · rw [hpo]
                  have hc := HU.out.hc
                  have hrb := HU.out.hrb
                  have hpb := HU.out.hpb
                  have hlo := HU.out.lo
                  have hhi := HU.out.hi
                  have hz5 := X5.out.2.2.2.size
                  have hz := hp.size
                  have hrest : PrR ((w5.setCell ⟨c, 0, none⟩ (.slice lo1 fs.length lc1)).setCell ⟨c, 1, none⟩ (.slice lo2 bl.length lc2)) (pb + 1) wr.heap.size (.agg #[.slice lo1 fs.length lc1, .slice lo2 bl.length lc2]) ⟨fs, Ns.of bl⟩ :=
                    ⟨mm, _, _, rfl, hlo, hhi, (HU.out.funcs.later X5.out.2.2.2 hhi).frame fun b q1 _ => hp.oth b (by omega), LR.frame (LR.later HU.out.list X5.out.2.2.2 (Nat.le_refl _)) fun b q1 _ => hp.oth b (by omega)⟩
                  exact hrest.mono (by omega) (by omega)
            | cons t0 r2 =>
              have hqi : (q : Int) < (l.length : Int) := by have := HQ.out.1; have := HQ.out.2; rw [List.length_cons] at *; omega
              have hd1 : decide ((q : Int) < (l.length : Int)) = true := by simpa using hqi
              have hd2 : decide (q < l.length) = true := by simpa using hqi
              clear z0 z1 zf0 zf1
              go_upto_region 9 with fail
              have HM := Lib.hid (show (bl.length + 1) * 96 ≤ 140737488351232 by have := HU.out.many rfl; have := HLN.out; rw [List.length_cons] at *; omega)
              have hwd := (Below.refl wr.heap.size wr).drew
              have HAFT := Lib.hid (fun (w3 : World) (hs3 : Step wr.drew w3 (some rb)) => (show w3.heap[pb]? = some (.cells #[.slice lo1 fs.length lc1, .slice lo2 bl.length lc2] TPr (0, 0)) from (hs3.kept (heap_lt HU.out.row) (by omega)).trans HU.out.row))
              have HLATE := Lib.hid (fun (w3 : World) (hs3 : Step wr.drew w3 (some rb)) (o : Obj) => (show LR (w3.alloc o) TN mm wr.heap.size (.slice lo2 bl.length lc2) (Ns.of bl) from LR.later (LR.kept (LR.later HU.out.list hwd (Nat.le_refl _)) hs3 (by have := HU.out.lo; omega) (Nat.le_refl _)) (Below.alloc (Below.refl _ w3) (Nat.le_refl _) o) hs3.size))
              clear hwd k1 k3 hqi hd1 hd2
              go_region_law (first
                | (go_simp; go_at_call 60; refine (rstm_r (t0 :: r2).length wr.drew (t0 :: r2) false (Nat.le_refl _) (HU.out.rd.later (Below.refl _ wr).drew)).mono ?_; rintro e w3 ⟨hs3, h3, v3, x, rfl, hN, hi3⟩; obtain ⟨o1, e1, o2, e2, o3, e3, rfl⟩ := hN.form; rw [gate_ok] at h3 hi3; have hrow3 := HAFT.out w3 hs3; obtain ⟨x0', x1', g0', g1'⟩ := row2 hrow3; have y1' := fun o => (row2 (row2_alloc hrow3 o)).2.1; have X3 := Lib.hid (And.intro hs3 (And.intro h3 (And.intro hi3 (And.intro hrow3 (hN.later (Put.new w3 #[.int .u8 (x.kind : Int), .string (tx x.text), .slice o1 x.l.len e1, .slice o2 x.body.len e2, .slice o3 x.els.len e3] TN).1 (Nat.le_refl _)))))); clear hs3 h3 hi3 hrow3 hN)
                | (refine step_node rfl (.tmp 48) (.tmp 51) rfl (v := .slice lo2 bl.length lc2) (l := bl) (lo := mm) (hi := wr.heap.size) (hi2 := w3.heap.size) rfl (HLATE.out w3 X3.out.1 _) X3.out.2.2.2.2 (y := .slice (some ⟨w3.heap.size, 0, none⟩) 1 1) rfl (Src.lit #[.int .u8 (x.kind : Int), .string (tx x.text), .slice o1 x.l.len e1, .slice o2 x.body.len e2, .slice o3 x.els.len e3] TN rfl rfl) HU.out.hi X3.out.1.size (Put.new w3 #[.int .u8 (x.kind : Int), .string (tx x.text), .slice o1 x.l.len e1, .slice o2 x.body.len e2, .slice o3 x.els.len e3] TN).1.size HM.out ?_; intro ao5 cp5 w5 hL hB; have hrow5 := (hB.block pb (Nat.lt_of_lt_of_le (Nat.lt_succ_self _) HU.out.lo)).trans (row2_alloc X3.out.2.2.2.1 (.cells #[.int .u8 (x.kind : Int), .string (tx x.text), .slice o1 x.l.len e1, .slice o2 x.body.len e2, .slice o3 x.els.len e3] TN)); obtain ⟨m0, m1, n0, n1⟩ := row2 hrow5; have X5 := Lib.hid (And.intro hL (And.intro hB hrow5)); clear hL hB hrow5))
              all_goals
                have hp : Put w5 (w5.setCell ⟨pb, 1, none⟩ (.slice ao5 (bl.length + 1) cp5)) pb #[.slice lo1 fs.length lc1, .slice ao5 (bl.length + 1) cp5] TPr := Put.one X5.out.2.2 1 _
                have HP := Lib.hid (HU.out.next ((Step.of_below (Below.refl _ wr).drew).trans X3.out.1) X3.out.2.1 X3.out.2.2.1 (Put.new w3 #[.int .u8 (x.kind : Int), .string (tx x.text), .slice o1 x.l.len e1, .slice o2 x.body.len e2, .slice o3 x.els.len e3] TN).1 X5.out.2.1 X5.out.1 hp)
                clear hp
                go_wp2_with fail
                go_roundg (if (stm false (t0 :: r2)).isBad then 0 else (stm false (t0 :: r2)).rest.length + 1)
                case measure =>
                  cases hr : stm false (t0 :: r2) with
                  | ok y q => have := (stm_down false (t0 :: r2)).lt hr; show q.length + 1 < _; simp at this ⊢; omega
                  | bad q => show 0 < _; simp
                case rel => exact ⟨bl ++ [x], _, _, _, rfl, HP.out⟩
  · have he' : ¬ (e0 : Int) = 0 := by omega
    have row1 := X1.out.1.row
    have x0 := cell_of_row w1 c 0 _ _ _ row1
    have x1 := cell_of_row w1 c 1 _ _ _ row1
    have f0 := frozen_of_row w1 c 0 _ _ row1
    have f1 := frozen_of_row w1 c 1 _ _ row1
    simp at x0 x1
    clear row1
    go_wp2_with fail
    have hp := put2 X1.out.1.row (.slice none 0 0) (.slice none 0 0)
    refine bodyPost_ret (rparse_results rfl rfl rfl hp.row) rfl ?_
    have hpb := parse_bad0 wrapI s (by rw [← HL.out.2.2]; exact he)
    rw [← HL.out.2.1, ← HL.out.2.2] at hpb
    have hb := hp.below X1.out.1.below (by rw [X1.out.1.hc]; exact Nat.le_refl _)
    refine ⟨hb, .agg #[.slice none 0 0, .slice none 0 0], ?_, ?_⟩
    · rw [hpb]; rfl
    · rw [hpb]; exact PrR.nil _ _ _ hb.size
end Go.Proofs.YtcldcigopkfmmaaGreatDoor
