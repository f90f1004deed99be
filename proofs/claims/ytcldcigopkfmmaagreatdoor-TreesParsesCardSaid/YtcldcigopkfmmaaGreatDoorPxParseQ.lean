/- Trees: Parse. -/
import Derived.Test.YtcldcigopkfmmaaGreatDoorPxProgWQ
import Derived.Test.YtcldcigopkfmmaaGreatDoorTrD4
import Derived.Test.YtcldcigopkfmmaaGreatDoorTrD1
import Derived.Test.YtcldcigopkfmmaaGreatDoorTrD3
namespace Go.Proofs.YtcldcigopkfmmaaGreatDoor
open Go.RowKit Go.My Go.Nd

/-- What Parse answers. -/
def Parsed (w : World) (s : Tx) (e : Ending) (w' : World) : Prop :=
  Below w.heap.size w w' ∧ ∃ pv, e = .returned (.tuple #[pv, .int .i64 ((parse wrapI s).2.1 : Int), .int .i64 ((parse wrapI s).2.2 : Int)]) ∧ PrR w' w.heap.size w'.heap.size pv (parse wrapI s).1

theorem tokIn_of {w : World} {g : Tags} {t rb : Nat} {v : Value} {xs : List To.T} (h : Toks w g t v xs) (hr : w.heap.size ≤ rb) : TokIn w (· < rb) v xs := by
  obtain ⟨ao, cap, h1, h2, h3, h4⟩ := h
  refine ⟨ao, cap, h1, h2, h3, fun hl => ?_⟩
  obtain ⟨b, off, e, _, hb, hc⟩ := h4 hl
  exact ⟨b, off, e, Nat.lt_of_lt_of_le hb hr, hb, hc⟩
theorem PrR.nil (w : World) (lo hi : Nat) (h : lo ≤ hi) : PrR w lo hi (.agg #[.slice none 0 0, .slice none 0 0]) ⟨[], .nil⟩ := ⟨lo, _, _, rfl, Nat.le_refl _, h, FsR.nil _ _ _, LR.nil _ _ _ _⟩
theorem PrR.frame {w w' : World} {lo hi : Nat} {v : Value} {p : Pr} (h : PrR w lo hi v p) (hs : ∀ b, lo ≤ b → b < hi → w'.heap[b]? = w.heap[b]?) : PrR w' lo hi v p := by
  obtain ⟨m, v1, v2, e, h1, h2, h3, h4⟩ := h
  exact ⟨m, v1, v2, e, h1, h2, h3.frame fun b q1 q2 => hs b q1 (by omega), LR.frame h4 fun b q1 q2 => hs b (by omega) q2⟩
theorem PrR.mono {w : World} {lo hi lo' hi' : Nat} {v : Value} {p : Pr} (h : PrR w lo hi v p) (h1 : lo' ≤ lo) (h2 : hi ≤ hi') : PrR w lo' hi' v p := by
  obtain ⟨m, v1, v2, e, k1, k2, k3, k4⟩ := h
  exact ⟨m, v1, v2, e, by omega, by omega, k3.mono h1 (Nat.le_refl _), LR.mono k4 (Nat.le_refl _) h2⟩
theorem PrR.form {w : World} {lo hi : Nat} {v : Value} {p : Pr} (h : PrR w lo hi v p) : ∃ a1 c1 a2 c2, v = .agg #[.slice a1 p.funcs.length c1, .slice a2 p.body.len c2] := by
  obtain ⟨m, v1, v2, rfl, _, _, h3, h4⟩ := h
  obtain ⟨a1, c1, rfl⟩ := h3.form
  obtain ⟨a2, c2, rfl⟩ := h4.form
  exact ⟨a1, c1, a2, c2, rfl⟩
theorem PrR.parts {w : World} {lo hi : Nat} {v1 v2 : Value} {p : Pr} (h : PrR w lo hi (.agg #[v1, v2]) p) (S : Nat → Prop) (hS : ∀ b, lo ≤ b → b < hi → S b) : FuncsIn w S false v1 p.funcs ∧ Nodes w S false v2 p.body := by
  obtain ⟨m, u1, u2, e, h1, h2, h3, h4⟩ := h
  cases e
  exact ⟨h3.funcs fun b q1 q2 => hS b q1 (by omega), h4.nodes fun b q1 q2 => hS b (by omega) q2⟩

theorem turn_below {w w' : World} {g g' : Tags} (h : Turn w g w' g' []) : Below w.heap.size w w' := ⟨h.os, h.tape, h.output, h.size, fun k hk => h.block k hk (by simp)⟩

/-- Parse's own cell of the program. -/
structure RP (w : World) (c : Nat) (w1 : World) : Prop where
  hc : c = w.heap.size
  below : Below w.heap.size w w1
  row : w1.heap[c]? = some (.cells #[.slice none 0 0, .slice none 0 0] 47 (0, 0))
theorem RP.later {w : World} {c : Nat} {w1 w2 : World} (h : RP w c w1) (hb : Below w1.heap.size w1 w2) : RP w c w2 := ⟨h.hc, h.below.trans (hb.mono h.below.size), (hb.block _ (heap_lt h.row)).trans h.row⟩

theorem parse_results {w : World} {c : Nat} {v0 v1 : Value} {tmps : Array Value} {x y : Value} (t2 : tmps.getD 2 undef = .pointer (some ⟨c, 0, none⟩)) (t3 : tmps.getD 3 undef = x) (t4 : tmps.getD 4 undef = y)
    (h : w.heap[c]? = some (.cells #[v0, v1] 47 (0, 0))) : (results Tryz.f10 tmps).run Tryz.prog w = .ok (.tuple #[.agg #[v0, v1], x, y]) w := by
  have hv := prVar w c v0 v1 h
  have t2' : tmps[2]?.getD undef = .pointer (some ⟨c, 0, none⟩) := by simpa using t2
  have t3' : tmps[3]?.getD undef = x := by simpa using t3
  have t4' : tmps[4]?.getD undef = y := by simpa using t4
  simp [results, Tryz.results10, t2', t3', t4', asAddr, Result.andThen, hv]

set_option maxRecDepth 100000 in
set_option maxHeartbeats 4000000 in
theorem parse_t {w : World} (s : Tx) : Calls Tryz.prog 10 #[.string (bs s)] w (Parsed w s) := by
  have hin := To.read_in s
  obtain ⟨hA, hn, hz⟩ := Put.new w #[.slice none 0 0, .slice none 0 0] 47
  have X0 := Lib.hid (show RP w w.heap.size (w.alloc (.cells #[.slice none 0 0, .slice none 0 0] 47)) from ⟨rfl, hA, hn⟩)
  have HIN := Lib.hid hin
  obtain ⟨c, hc⟩ : ∃ c, c = w.heap.size := ⟨_, rfl⟩
  obtain ⟨wA, hwA⟩ : ∃ wA, wA = w.alloc (.cells #[.slice none 0 0, .slice none 0 0] 47) := ⟨_, rfl⟩
  rw [← hwA, ← hc] at X0
  obtain ⟨l, hl⟩ : ∃ l, l = (To.read s).1 := ⟨_, rfl⟩
  obtain ⟨p0, hp0⟩ : ∃ p0, p0 = (To.read s).2.1 := ⟨_, rfl⟩
  obtain ⟨e0, he0⟩ : ∃ e0, e0 = (To.read s).2.2 := ⟨_, rfl⟩
  have HL := Lib.hid (And.intro hl (And.intro hp0 he0))
  have hs1 := bs_size s
  clear hin hA hn hz
  go_enter Tryz.func10, Tryz.ntmps10
  go_upto_region 1 with fail
  rw [← hwA, ← hc]
  clear hwA hc hl hp0 he0
  go_wp2_with fail
  refine read_t (fun _ => 0) 7 s fun v w1 g1 hT hO => ?_
  rw [← HL.out.2.1, ← HL.out.2.2]
  have hk := toks_of_owns hO
  rw [← HL.out.1] at hk
  have X1 := Lib.hid (And.intro (X0.out.later (turn_below hT)) (And.intro hk (show g1 c = 0 from hT.old c (heap_lt X0.out.row))))
  obtain ⟨ao, cap, hv, k1, k2, k3⟩ := hk
  subst hv
  clear hT hO k1 k2 k3
  by_cases he : e0 = 0
  · have he' : (e0 : Int) = 0 := by omega
    subst he
    have hlen : l.length ≤ 65536 := by rw [HL.out.1]; have := HIN.out.2.1; have := HIN.out.2.2.2.1 HL.out.2.2.symm; omega
    have hrd : Rd (w1.alloc (.cells #[.slice ao l.length cap, .int .i64 0, .bool false] 61)) w1.heap.size (.slice ao l.length cap) l (l.map (·.text)) false := by
      obtain ⟨hA, hn, hz⟩ := Put.new w1 #[.slice ao l.length cap, .int .i64 0, .bool false] 61
      refine ⟨by simpa using hn, List.suffix_refl _, (tokIn_of X1.out.2.1 (Nat.le_refl _)).frame hA.size fun b _ hlt => hA.block b hlt, hlen, fun x hx => ?_⟩
      rw [HL.out.1] at hx
      have := (HIN.out.1 x hx).1
      have := HIN.out.2.2.2.1 HL.out.2.2.symm
      omega
    have X2 := Lib.hid (And.intro hrd (Put.new w1 #[.slice ao l.length cap, .int .i64 0, .bool false] 61).1)
    clear hrd hlen he'
    obtain ⟨rb, hrb⟩ : ∃ rb, rb = w1.heap.size := ⟨_, rfl⟩
    obtain ⟨w2, hw2⟩ : ∃ w2, w2 = w1.alloc (.cells #[.slice ao l.length cap, .int .i64 0, .bool false] 61) := ⟨_, rfl⟩
    rw [← hrb, ← hw2] at X2
    have hB2 := X2.out.2
    rw [hrb] at hB2
    have X3 := Lib.hid (And.intro (X1.out.1.later hB2) (show c < rb by have := heap_lt X1.out.1.row; omega))
    clear hB2
    go_upto_region 5 with fail
    rw [← hrb, ← hw2]
    have HRB := Lib.hid hrb
    clear hrb hw2
    go_wp2_with fail
    refine (program_t X2.out.1).mono ?_
    rintro e w3 ⟨hs3, ⟨inn, h3⟩, hres⟩
    have row3 := (hs3.kept (heap_lt X3.out.1.row) (Nat.ne_of_lt X3.out.2)).trans X3.out.1.row
    have hB3 : Below w.heap.size w w3 := by
      have hb := X3.out.1.below
      have hc := X3.out.1.hc
      have hlt := X3.out.2
      exact ⟨hs3.os.trans hb.os, hs3.tape.trans hb.tape, hs3.output.trans hb.output, Nat.le_trans hb.size hs3.size, fun k hk => (hs3.block k (by have := hb.size; omega) (by intro e; cases e; omega)).trans (hb.block k hk)⟩
    cases hrd : progT [] (l.map (·.text)) with
    | bad r =>
      rw [hrd] at hres h3
      subst hres
      obtain ⟨q, hq⟩ : ∃ q, q = l.length - r.length := ⟨_, rfl⟩
      have hrl : r.length ≤ l.length := h3.le
      have hp4 := put2 row3 (.slice none 0 0) (.slice none 0 0)
      have hb4 := hp4.below hB3 (by rw [X3.out.1.hc]; exact Nat.le_refl _)
      have hcell := h3.cell.2.1
      rw [show (R.bad r : R Pr).rest = r from rfl, ← hq, ← World.cell?_of_block (hp4.oth rb (Nat.ne_of_gt X3.out.2))] at hcell
      have hpb := parse_bad wrapI s HL.out.2.2.symm (by rw [← HL.out.1]; exact hrd)
      have htok : ∀ (hlt : q < l.length), ∃ b off, ao = some ⟨b, off, none⟩ ∧ b ≠ c ∧ ((w3.setCell ⟨c, 0, none⟩ (.slice none 0 0)).setCell ⟨c, 1, none⟩ (.slice none 0 0)).cell? ⟨b, off + q * 3 + 2, none⟩ = some (.int .i64 ((l[q]).pos : Int)) := by
        intro hlt
        obtain ⟨ao', cap', e, _, _, k⟩ := X1.out.2.1
        cases e
        obtain ⟨b, off, e, hg, hb, hc⟩ := k (by omega)
        have hbc : b ≠ c := fun e => by subst e; rw [X1.out.2.2] at hg; cases hg
        have hbr : b < rb ∧ w2.heap[b]? = w1.heap[b]? := ⟨by rw [HRB.out]; exact hb, X2.out.2.block b (by rw [HRB.out]; exact hb)⟩
        refine ⟨b, off, e, hbc, ?_⟩
        rw [World.cell?_of_block ((hp4.oth b hbc).trans ((hs3.kept (by have := X2.out.1.lt; omega) (by omega)).trans hbr.2))]
        exact (hc q hlt).2.2
      have x0 := cell_of_row w3 c 0 _ _ _ row3
      have x1 := cell_of_row w3 c 1 _ _ _ row3
      have f0 := frozen_of_row w3 c 0 _ _ row3
      have f1 := frozen_of_row w3 c 1 _ _ row3
      simp at x0 x1
      obtain ⟨w4, hw4⟩ : ∃ w4, w4 = (w3.setCell ⟨c, 0, none⟩ (.slice none 0 0)).setCell ⟨c, 1, none⟩ (.slice none 0 0) := ⟨_, rfl⟩
      rw [← hw4] at hp4 hb4 hcell htok
      have X4 := Lib.hid (And.intro hp4.row (And.intro hb4 (And.intro hpb (And.intro hq hrl))))
      have HT := Lib.hid htok
      clear hp4 hb4 hpb hs3 h3 row3 hB3 hrd htok hq hrl
      go_upto_region 6 with fail
      rw [← hw4]
      clear hw4 x0 x1 f0 f1
      have c0 := cell_of_row w4 c 0 _ _ _ X4.out.1
      have c1 := cell_of_row w4 c 1 _ _ _ X4.out.1
      have f0 := frozen_of_row w4 c 0 _ _ X4.out.1
      have f1 := frozen_of_row w4 c 1 _ _ X4.out.1
      simp at c0 c1
      by_cases hlt : q < l.length
      · obtain ⟨b, off, rfl, hbc, ht⟩ := HT.out hlt
        have hbc' : ¬ b = c := hbc
        have hbc2 : ¬ c = b := fun e => hbc e.symm
        have hcr : ¬ c = rb := Nat.ne_of_lt X3.out.2
        have hcr2 : ¬ rb = c := Nat.ne_of_gt X3.out.2
        have hlti : (q : Int) < (l.length : Int) := by omega
        have hq0 : (0 : Int) ≤ (q : Int) := by omega
        have hd : decide (q < l.length) = true := by simpa using hlt
        go_wp2_with fail
        go_region
        all_goals
          go_wp2_with fail
          have hp := put2 X4.out.1 (.slice none 0 0) (.slice none 0 0)
          have hrow : ((w4.setCell ⟨c, 0, none⟩ (.slice none 0 0)).setCell ⟨c, 1, none⟩ (.slice none 0 0)).drew.heap[c]? = some (.cells #[.slice none 0 0, .slice none 0 0] 47 (0, 0)) := hp.row
          refine bodyPost_ret (parse_results rfl rfl rfl hrow) rfl ?_
          have hb := (hp.below X4.out.2.1 (by rw [X3.out.1.hc]; exact Nat.le_refl _)).drew
          have hpb := X4.out.2.2.1
          rw [show placeOf s (To.read s).1 r = (l[q]).pos by unfold placeOf; rw [← HL.out.1, ← X4.out.2.2.2.1, List.getElem?_eq_getElem hlt]] at hpb
          refine ⟨hb, .agg #[.slice none 0 0, .slice none 0 0], ?_, ?_⟩
          · rw [hpb]; rfl
          · rw [hpb]; exact PrR.nil _ _ _ hb.size
      · have hlti : (l.length : Int) ≤ (q : Int) := by omega
        have hd : decide (q < l.length) = false := by simpa using hlt
        go_wp2_with fail
        have hp := put2 X4.out.1 (.slice none 0 0) (.slice none 0 0)
        refine bodyPost_ret (parse_results rfl rfl rfl hp.row) rfl ?_
        have hb := hp.below X4.out.2.1 (by rw [X3.out.1.hc]; exact Nat.le_refl _)
        have hpb := X4.out.2.2.1
        rw [show placeOf s (To.read s).1 r = s.length by unfold placeOf; rw [← HL.out.1, ← X4.out.2.2.2.1, List.getElem?_eq_none (by omega)]] at hpb
        refine ⟨hb, .agg #[.slice none 0 0, .slice none 0 0], ?_, ?_⟩
        · rw [hpb]; rfl
        · rw [hpb]; exact PrR.nil _ _ _ hb.size
    | ok p r =>
      rw [hrd] at hres h3
      obtain ⟨v, rfl, hP⟩ := hres
      obtain ⟨a1, c1, a2, c2, rfl⟩ := hP.form
      have hp4 := put2 row3 (.slice a1 p.funcs.length c1) (.slice a2 p.body.len c2)
      have hb4 := hp4.below hB3 (by rw [X3.out.1.hc]; exact Nat.le_refl _)
      have hc2 : c < w2.heap.size := heap_lt X3.out.1.row
      have hP4 := hP.frame (w' := (w3.setCell ⟨c, 0, none⟩ (.slice a1 p.funcs.length c1)).setCell ⟨c, 1, none⟩ (.slice a2 p.body.len c2)) fun b q1 _ => hp4.oth b (by omega)
      have hz4 := hp4.size
      have hpo := parse_ok wrapI s HL.out.2.2.symm (by rw [← HL.out.1]; exact hrd)
      have x0 := cell_of_row w3 c 0 _ _ _ row3
      have x1 := cell_of_row w3 c 1 _ _ _ row3
      have f0 := frozen_of_row w3 c 0 _ _ row3
      have f1 := frozen_of_row w3 c 1 _ _ row3
      simp at x0 x1
      obtain ⟨w4, hw4⟩ : ∃ w4, w4 = (w3.setCell ⟨c, 0, none⟩ (.slice a1 p.funcs.length c1)).setCell ⟨c, 1, none⟩ (.slice a2 p.body.len c2) := ⟨_, rfl⟩
      rw [← hw4] at hp4 hb4 hP4 hz4
      have hP5 := hP4.mono (show w.heap.size ≤ w2.heap.size by have := X3.out.1.hc; omega) (show w3.heap.size ≤ w4.heap.size by omega)
      have hcg : c + 1 ≤ w2.heap.size := hc2
      have X4 := Lib.hid (And.intro hp4.row (And.intro hb4 (And.intro hpo (hP4.mono hcg (show w3.heap.size ≤ w4.heap.size by omega)))))
      clear hp4 hb4 hpo hs3 h3 row3 hB3 hrd hP hP4 hP5 hz4 hc2 hcg
      go_upto_region 6 with fail
      rw [← hw4]
      clear hw4 x0 x1 f0 f1
      have y0 := cell_of_row w4 c 0 _ _ _ X4.out.1
      have y1 := cell_of_row w4 c 1 _ _ _ X4.out.1
      simp at y0 y1
      go_wp2_with fail
      obtain ⟨hF, hN⟩ := X4.out.2.2.2.parts (· < w4.heap.size) (fun b _ h => h)
      refine (great_t (p := p) (Nat.le_refl _) hF hN).mono ?_
      rintro e w5 ⟨rfl, hb5⟩
      obtain ⟨g, hg⟩ : ∃ g, g = greatP wrapI p := ⟨_, rfl⟩
      rw [← hg]
      have row5 := (hb5.block _ (heap_lt X4.out.1)).trans X4.out.1
      have z0 := cell_of_row w5 c 0 _ _ _ row5
      have z1 := cell_of_row w5 c 1 _ _ _ row5
      have k0 := frozen_of_row w5 c 0 _ _ row5
      have k1 := frozen_of_row w5 c 1 _ _ row5
      simp at z0 z1
      have X5 := Lib.hid (And.intro row5 (And.intro (X4.out.2.1.trans (hb5.mono X4.out.2.1.size)) (And.intro (show greatP wrapI p = (great wrapI p.body || p.funcs.any fun f => great wrapI f.body) by unfold greatP bodiesOf; rw [List.any_cons, List.any_map]; rfl) (And.intro hg (X4.out.2.2.2.frame fun b _ q2 => hb5.block b q2)))))
      have HZ := Lib.hid hb5.size
      clear hb5 hg row5 y0 y1 hF hN
      cases g with
      | true =>
        go_wp2_with fail
        have hp := put2 X5.out.1 (.slice none 0 0) (.slice none 0 0)
        refine bodyPost_ret (parse_results rfl rfl rfl hp.row) rfl ?_
        have hb := hp.below X5.out.2.1 (by rw [X3.out.1.hc]; exact Nat.le_refl _)
        have hpo := X4.out.2.2.1
        rw [← X5.out.2.2.1, ← X5.out.2.2.2.1, if_pos rfl] at hpo
        refine ⟨hb, .agg #[.slice none 0 0, .slice none 0 0], ?_, ?_⟩
        · rw [hpo]; rfl
        · rw [hpo]; exact PrR.nil _ _ _ hb.size
      | false =>
        go_wp2_with fail
        have hp := put2 X5.out.1 (.slice a1 p.funcs.length c1) (.slice a2 p.body.len c2)
        refine bodyPost_ret (parse_results rfl rfl rfl hp.row) rfl ?_
        have hb := hp.below X5.out.2.1 (by rw [X3.out.1.hc]; exact Nat.le_refl _)
        have hpo := X4.out.2.2.1
        rw [← X5.out.2.2.1, ← X5.out.2.2.2.1, if_neg (by decide)] at hpo
        refine ⟨hb, .agg #[.slice a1 p.funcs.length c1, .slice a2 p.body.len c2], ?_, ?_⟩
        · rw [hpo]; rfl
        · rw [hpo]
          have hcw := X3.out.1.hc
          have hz := hp.size
          have hzz := HZ.out
          exact (X5.out.2.2.2.2.frame fun b q1 _ => hp.oth b (by omega)).mono (by omega) (by omega)
  · have he' : ¬ (e0 : Int) = 0 := by omega
    have row1 := X1.out.1.row
    have x0 := cell_of_row w1 c 0 _ _ _ row1
    have x1 := cell_of_row w1 c 1 _ _ _ row1
    have f0 := frozen_of_row w1 c 0 _ _ row1
    have f1 := frozen_of_row w1 c 1 _ _ row1
    simp at x0 x1
    clear row1
    go_wp2_with fail
    have hp := put2 X1.out.1.row (.slice none 0 0) (.slice none 0 0)
    refine bodyPost_ret (parse_results rfl rfl rfl hp.row) rfl ?_
    have hpb := parse_bad0 wrapI s (by rw [← HL.out.2.2]; exact he)
    rw [← HL.out.2.1, ← HL.out.2.2] at hpb
    have hb := hp.below X1.out.1.below (by rw [X1.out.1.hc]; exact Nat.le_refl _)
    refine ⟨hb, .agg #[.slice none 0 0, .slice none 0 0], ?_, ?_⟩
    · rw [hpb]; rfl
    · rw [hpb]; exact PrR.nil _ _ _ hb.size
end Go.Proofs.YtcldcigopkfmmaaGreatDoor
