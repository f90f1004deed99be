/- The statement ScopesOrder: its walk. -/
import Derived.Test.YtmkhfonafcikdaaGreatDoorScUsedLU
import Derived.Deep.RegionLaw
namespace Go.Proofs.YtmkhfonafcikdaaGreatDoor
open Go.RowKit Go.My Go.Nd

/-- The other program: its box, its list of functions, so many of them. -/
structure OrSt (w0 wb W : World) (g : Tags) (pq : Nat) (vb : Value) (fs : List Nd.Fn) (k : Nat) (vq : Value) : Prop where
  since : Since wb W g
  box : Blk W g pq 740 (.cells #[vq, vb] 25 (0, 0))
  own : ∃ els : List Fl, els.length = k ∧ (∀ j (h1 : j < els.length) (h2 : j < fs.reverse.length), FlIs w0 (· < w0.heap.size) false els[j] fs.reverse[j]) ∧ Owns W g 741 57 3 vq k (flCells els)
theorem OrSt.turn {w0 wb W W' : World} {g g' : Tags} {pq : Nat} {vb : Value} {fs : List Nd.Fn} {k : Nat} {vq : Value} {T : List Nat} (h : OrSt w0 wb W g pq vb fs k vq) (T' : Turn W g W' g' T) (h0 : 0 ∉ T) (h1 : 740 ∉ T) (h2 : 741 ∉ T) : OrSt w0 wb W' g' pq vb fs k vq := by
  obtain ⟨els, k1, k2, k3⟩ := h.own
  exact ⟨h.since.turn T' h0, h.box.turn T' h1, els, k1, k2, k3.turn T' h2⟩
def OrAt (w0 wb : World) (pq : Nat) (vb : Value) (fs : List Nd.Fn) (gk : Nat) (v4 : Value) (wr : World) : Prop :=
  ∃ (m : Nat) (g : Tags) (vq : Value), m ≤ fs.length ∧ gk = m ∧ v4 = .int .i64 ((m : Int) - 1) ∧ OrSt w0 wb wr g pq vb fs (fs.length - m) vq

theorem OrSt.funcs {w0 wb W : World} {g : Tags} {pq : Nat} {vb vq : Value} {fs : List Nd.Fn} (h : OrSt w0 wb W g pq vb fs fs.length vq) (hw : Below w0.heap.size w0 W) (hl : fs.length ≤ 1048576) : FuncsIn W (· < W.heap.size) false vq fs.reverse := by
  obtain ⟨els, k1, k2, k3⟩ := h.own
  refine funcs_of_owns k3 k1 (by simp) (by omega) (fun j h1 h2 => ?_) (Nat.le_refl _)
  have := k2 j h1 h2
  exact ⟨this.name, (this.args.below hw).mono fun b _ hb => Nat.lt_of_lt_of_le hb hw.size, (this.body.below hw).mono fun b _ hb => Nat.lt_of_lt_of_le hb hw.size⟩

theorem or_snoc {w0 wb W W1 : World} {g g1 : Tags} {pq : Nat} {vb vq : Value} {fs : List Nd.Fn} {m : Nat} {ao : Option Addr} {cap : Nat} (h : OrSt w0 wb W g pq vb fs (fs.length - (m + 1)) vq) (hm : m < fs.length) {v1 v2 : Value}
    (hF : FlIs w0 (· < w0.heap.size) false ⟨(fs[m]).name, v1, v2⟩ fs[m]) {o : Obj} {T0 : Turn W g (W.alloc o) (g.ext W.heap.size 742) []} {els : List Fl} (k1 : els.length = fs.length - (m + 1)) (k2 : ∀ j (h1 : j < els.length) (h2 : j < fs.reverse.length), FlIs w0 (· < w0.heap.size) false els[j] fs.reverse[j])
    (hT : Turn (W.alloc o) (g.ext W.heap.size 742) W1 g1 [741]) (hO : Owns W1 g1 741 57 3 (.slice ao (fs.length - (m + 1) + 1) cap) (fs.length - (m + 1) + 1) (flCells els ++ [.string (tx (fs[m]).name), v1, v2])) :
    OrSt w0 wb (W1.setCell ⟨pq, 0, none⟩ (.slice ao (fs.length - (m + 1) + 1) cap)) g1 pq vb fs (fs.length - m) (.slice ao (fs.length - (m + 1) + 1) cap) := by
  have TT := T0.trans hT (V := [741]) (by simp) (by simp)
  have b1 := h.box.turn TT (by simp)
  have p := Put.one b1.1 0 (.slice ao (fs.length - (m + 1) + 1) cap)
  have TS := Turn.setCell W1 g1 ⟨pq, 0, none⟩ (.slice ao (fs.length - (m + 1) + 1) cap) p.size p.os p.tape p.output
  rw [show g1 (Addr.block ⟨pq, 0, none⟩) = 740 from b1.2] at TS
  have e1 : fs.length - (m + 1) + 1 = fs.length - m := by omega
  refine ⟨(h.since.turn TT (by simp)).turn TS (by simp), ⟨by simpa using p.row, b1.2⟩, els ++ [⟨(fs[m]).name, v1, v2⟩], by simp [k1]; omega, fun j h1 h2 => ?_, ?_⟩
  · by_cases hj : j < els.length
    · rw [List.getElem_append_left hj]; exact k2 j hj h2
    · have hj2 : j = els.length := by rw [List.length_append, List.length_singleton] at h1; omega
      subst hj2
      rw [List.getElem_append_right (Nat.le_refl _)]
      simp only [Nat.sub_self, List.getElem_singleton]
      have e2 : fs.reverse[els.length]'h2 = fs[m] := by
        rw [List.getElem_reverse]
        congr 1
        omega
      rw [e2]; exact hF
  · rw [flCells_append, ← e1]
    exact hO.turn TS (by simp)

theorem OrSt.cells {w0 wb W : World} {g : Tags} {pq : Nat} {vb vq : Value} {fs : List Nd.Fn} {k : Nat} (h : OrSt w0 wb W g pq vb fs k vq) : W.cell? ⟨pq, 0, none⟩ = some vq ∧ W.cell? ⟨pq, 1, none⟩ = some vb := by
  have q0 := cell_of_row W pq 0 _ _ _ h.box.1
  have q1 := cell_of_row W pq 1 _ _ _ h.box.1
  exact ⟨by simpa using q0, by simpa using q1⟩
theorem OrSt.later {w0 wb W W' : World} {g : Tags} {pq : Nat} {vb vq : Value} {fs : List Nd.Fn} {k : Nat} (h : OrSt w0 wb W g pq vb fs k vq) (hb : Below W.heap.size W W') : OrSt w0 wb W' (g.ext W.heap.size 743) pq vb fs k vq := h.turn (Turn.of_below hb g 743) (by simp) (by simp) (by simp)
def OiAt (w0 wb : World) (pq : Nat) (vb vq : Value) (fs : List Nd.Fn) (gk : Nat) (v5 : Value) (wr : World) : Prop :=
  ∃ (i : Nat) (g : Tags), i ≤ fs.length ∧ gk = fs.length - i ∧ v5 = .int .i64 (i : Int) ∧ OrSt w0 wb wr g pq vb fs fs.length vq

theorem rev_small {p : Pr} (h : SmallP p) : SmallP (revP p) := ⟨by simp [revP]; exact h.funcs, fun f hf => h.each f (by simpa [revP] using hf), h.body⟩

set_option maxRecDepth 100000 in
set_option maxHeartbeats 16000000 in
theorem order_any (w : World) (v1 v2 : Value) (p : Pr) (h1 : FuncsIn w (fun b => b < w.heap.size) false v1 p.funcs) (h2 : Nodes w (fun b => b < w.heap.size) false v2 p.body) (hps : psz p ≤ 1048576) :
    Calls Tryz.prog 9 #[.agg #[v1, v2]] w fun e w' => e = .returned (.bool true) ∧ Below w.heap.size w w' := by
  obtain ⟨a1, c1, rfl⟩ := h1.form
  obtain ⟨a2, c2, rfl⟩ := h2.form
  have hS := small_of_psz hps
  have hA := Below.alloc (Below.refl w.heap.size w) (Nat.le_refl _) (.cells #[.slice a1 p.funcs.length c1, .slice a2 p.body.len c2] 25)
  have hrow := heap_alloc_new w (.cells #[.slice a1 p.funcs.length c1, .slice a2 p.body.len c2] 25)
  obtain ⟨wb, hwb⟩ : ∃ wb, wb = w.alloc (.cells #[.slice a1 p.funcs.length c1, .slice a2 p.body.len c2] 25) := ⟨_, rfl⟩
  rw [← hwb] at hA hrow
  have hlt : w.heap.size < wb.heap.size := by rw [hwb]; simp
  have UP := Lib.hid (fun (W : World) (h : Below wb.heap.size wb W) => show W.cell? ⟨w.heap.size, 0, none⟩ = some (.slice a1 p.funcs.length c1) ∧ W.cell? ⟨w.heap.size, 1, none⟩ = some (.slice a2 p.body.len c2) ∧ w.heap.size ≤ W.heap.size ∧ FuncsIn W (· < w.heap.size) false (.slice a1 p.funcs.length c1) p.funcs ∧ Nodes W (· < w.heap.size) false (.slice a2 p.body.len c2) p.body ∧ Below w.heap.size w W from by
    have hb := hA.trans (h.mono hA.size)
    exact ⟨(World.cell?_of_block (h.block _ hlt)).trans (cell_of_row wb _ 0 _ _ _ hrow), (World.cell?_of_block (h.block _ hlt)).trans (cell_of_row wb _ 1 _ _ _ hrow), hb.size, h1.below hb, h2.below hb, hb⟩)
  have HS := Lib.hid hS
  have H1 := Lib.hid h1
  have hr := hS.funcs
  have l0 : (0 : Int) ≤ (p.funcs.length : Int) := by omega
  have l1 : (p.funcs.length : Int) ≤ 1048576 := by omega
  have lw : IntKind.i64.wrap ((p.funcs.length : Int) - 1) = (p.funcs.length : Int) - 1 := IntWalk.i64_in _ (by omega)
  clear h1 h2 hS hA hrow hlt hps hr
  go_enter Tryz.func9, Tryz.ntmps9
  go_upto_region 1 with fail
  rw [← hwb]
  clear hwb
  go_wp2_with fail
  refine (alive11_t (w := wb)).mono ?_
  rintro e w1 ⟨rfl, hb1⟩
  have B1 := Lib.hid hb1
  obtain ⟨p0, p1, _⟩ := UP.out w1 hb1
  clear hb1
  go_wp2_with fail
  refine (progSize_t (UP.out w1 B1.out).2.2.1 (UP.out w1 B1.out).2.2.2.1 (UP.out w1 B1.out).2.2.2.2.1).mono ?_
  rintro e w2 ⟨mz, rfl, hb2⟩
  have B2 := Lib.hid (B1.out.trans (hb2.mono B1.out.size))
  clear hb2 p0 p1
  obtain ⟨p0, p1, _⟩ := UP.out w2 B2.out
  by_cases hm : mz ≤ 1500
  · go_upto_region 5 with fail
    obtain ⟨pq, hpq⟩ : ∃ pq, pq = w2.heap.size := ⟨_, rfl⟩
    obtain ⟨g3, hst⟩ : ∃ g, OrSt w wb (w2.alloc (.cells #[.slice none 0 0, .slice a2 p.body.len c2] 25)) g pq (.slice a2 p.body.len c2) p.funcs 0 (.slice none 0 0) := by
      have S2 := (Since.start wb).turn (Turn.of_below B2.out (fun _ => 0) 0) (by simp)
      have T3 := Turn.alloc w2 (Tags.ext (fun _ => 0) wb.heap.size 0) 740 (.cells #[.slice none 0 0, .slice a2 p.body.len c2] 25)
      have B3 : Blk (w2.alloc (.cells #[.slice none 0 0, .slice a2 p.body.len c2] 25)) ((Tags.ext (fun _ => 0) wb.heap.size 0).ext w2.heap.size 740) pq 740 (.cells #[.slice none 0 0, .slice a2 p.body.len c2] 25 (0, 0)) := by
        rw [hpq]; exact Blk.alloc w2 (Tags.ext (fun _ => 0) wb.heap.size 0) 740 _
      exact ⟨_, S2.turn T3 (by simp), B3, [], rfl, (fun j h => by cases h), Owns.nil _ _ _ _ _⟩
    have X0 := Lib.hid hst
    obtain ⟨w3, hw3⟩ : ∃ w3, w3 = w2.alloc (.cells #[.slice none 0 0, .slice a2 p.body.len c2] 25) := ⟨_, rfl⟩
    rw [← hw3] at X0
    rw [← hw3, ← hpq]
    clear p0 p1
    obtain ⟨p0, p1, _⟩ := UP.out w3 X0.out.since.below
    clear hst hw3 hpq hm
    go_wp2_with fail
    clear p0 p1
    go_loopg [4] p.funcs.length (fun gk v4 wr => OrAt w wb pq (.slice a2 p.body.len c2) p.funcs gk v4 wr)
    case atStart => exact ⟨p.funcs.length, g3, _, Nat.le_refl _, rfl, rfl, by rw [Nat.sub_self]; exact X0.out⟩
    case round =>
      obtain ⟨mm, g, vq, hm, hgk, rfl, hS⟩ := hrel
      have HGK := Lib.hid hgk
      clear hgk
      cases mm with
      | succ m =>
        have m0 : (0 : Int) ≤ (m : Int) := by omega
        have m1 : (m : Int) < (p.funcs.length : Int) := by omega
        have mw : IntKind.i64.wrap ((m : Int) - 1) = (m : Int) - 1 := IntWalk.i64_in _ (by omega)
        rw [show (((m + 1 : Nat)) : Int) - 1 = (m : Int) from by omega]
        obtain ⟨els, k1, k2, k3⟩ := hS.own
        obtain ⟨aq, cq, rfl⟩ := k3.form
        obtain ⟨p0, p1, _⟩ := UP.out wr hS.since.below
        have q0 := cell_of_row wr pq 0 _ _ _ hS.box.1
        have q1 := frozen_of_row wr pq 0 _ _ hS.box.1
        obtain ⟨_, _, e1, _, _, _, _, hcc⟩ := H1.out
        obtain ⟨b, off, v1, v2, e2, hSb, hN⟩ := hcc m hm
        cases e1
        cases e2
        obtain ⟨a3, c3, r1⟩ := hN.args.form
        obtain ⟨a4, c4, r2⟩ := hN.body.form
        subst r1
        subst r2
        have hblk := (UP.out wr hS.since.below).2.2.2.2.2.block b hSb
        have d0 := (World.cell?_of_block hblk).trans hN.d0
        have d1 := (World.cell?_of_block hblk).trans hN.d1
        have d2 := (World.cell?_of_block hblk).trans hN.d2
        have hN1 := hN.name
        have hN2 := hN.args
        have hN3 := hN.body
        obtain ⟨f, hf⟩ : ∃ f, f = p.funcs[m]'hm := ⟨_, rfl⟩
        rw [← hf] at d0 d1 d2 hN1 hN2 hN3
        have hFl : FlIs w (· < w.heap.size) false ⟨f.name, .slice a3 f.args.length c3, .slice a4 f.body.len c4⟩ f := ⟨⟨rfl, hN1⟩, hN2, hN3⟩
        have X := Lib.hid (And.intro hS (And.intro hFl (And.intro k1 (And.intro k2 k3))))
        have hnl : p.funcs.length - (m + 1) ≤ 1048576 := by have := HS.out.funcs; omega
        obtain ⟨nq, hnq⟩ : ∃ nq, nq = p.funcs.length - (m + 1) := ⟨_, rfl⟩
        rw [← hnq] at q0 hnl X
        have HNQ := Lib.hid hnq
        simp at q0
        have HM := Lib.hid (show ∃ h : m < p.funcs.length, f = p.funcs[m] from ⟨hm, hf⟩)
        clear hS k1 k2 k3 hcc hblk hSb hN hFl hm hnq hN1 hN2 hN3 hf
        go_upto_region 8 with fail
        have TD := Turn.drew wr g
        have q0a : (wr.alloc (.cells #[.string (tx f.name), .slice a3 f.args.length c3, .slice a4 f.body.len c4] 57)).cell? ⟨pq, 0, none⟩ = some (.slice aq nq cq) := by
          have := cell_of_row _ pq 0 _ _ _ (X.out.1.box.turn (Turn.alloc wr g 742 (.cells #[.string (tx f.name), .slice a3 f.args.length c3, .slice a4 f.body.len c4] 57)) (by simp)).1
          simpa using this
        have X1 := Lib.hid (And.intro (X.out.1.turn TD (by simp) (by simp) (by simp)) (X.out.2.2.2.2.turn TD (by simp)))
        (go_region_law (refine step_append_t rfl (.tmp 25) (.tmp 31) rfl fnElem (g := g.ext wr.drew.heap.size 742) (tg := 741) rfl (X1.out.2.turn (Turn.alloc wr.drew g 742 (.cells #[.string (tx f.name), .slice a3 f.args.length c3, .slice a4 f.body.len c4] 57)) (by simp)) rfl (Src.lit (n := 1) #[.string (tx f.name), .slice a3 f.args.length c3, .slice a4 f.body.len c4] 57 rfl rfl) (by simp [Value.oneCell']) (by unfold maxLen; omega) (by omega) ?_; intro ao cap w5 g5 O5 T5; have b5 := (X1.out.1.box.turn (Turn.alloc wr.drew g 742 (.cells #[.string (tx f.name), .slice a3 f.args.length c3, .slice a4 f.body.len c4] 57)) (by simp)).turn T5 (by simp); have e0 := cell_of_row w5 pq 0 _ _ _ b5.1; have e1 := frozen_of_row w5 pq 0 _ _ b5.1; simp at e0; have X5 := Lib.hid (And.intro T5 O5); clear O5 T5 b5))
        all_goals
          go_wp2_with fail
          have HO := Lib.hid (show OrSt w wb (w5.setCell ⟨pq, 0, none⟩ (.slice ao (nq + 1) cap)) g5 pq (.slice a2 p.body.len c2) p.funcs (p.funcs.length - m) (.slice ao (nq + 1) cap) from by
            obtain ⟨hm, hf⟩ := HM.out
            have x1 := X1.out.1
            have x2 := X.out.2
            have x5 := X5.out
            rw [HNQ.out, hf] at *
            exact or_snoc x1 hm x2.1 x2.2.1 x2.2.2.1 x5.1 x5.2 (T0 := Turn.alloc _ _ _ _))
          go_roundg m
          case measure => rw [HGK.out]; exact Nat.lt_succ_self m
          case rel => exact ⟨m, g5, _, Nat.le_of_lt HM.out.1, rfl, rfl, HO.out⟩
      | zero =>
        rw [show (((0 : Nat)) : Int) - 1 = -1 from rfl]
        rw [Nat.sub_zero] at hS
        obtain ⟨els, _, _, k3⟩ := hS.own
        obtain ⟨aq, cq, rfl⟩ := k3.form
        have X := Lib.hid hS
        have hlen : p.funcs.length = (revP p).funcs.length := by simp [revP]
        have HLEN := Lib.hid hlen
        clear hS k3 hm hlen
        have GO := Lib.hid (fun (W : World) (g : Tags) (h : OrSt w wb W g pq (.slice a2 p.body.len c2) p.funcs p.funcs.length (.slice aq p.funcs.length cq)) => show W.cell? ⟨w.heap.size, 0, none⟩ = some (.slice a1 p.funcs.length c1) ∧ W.cell? ⟨w.heap.size, 1, none⟩ = some (.slice a2 p.body.len c2) ∧ W.cell? ⟨pq, 0, none⟩ = some (.slice aq p.funcs.length cq) ∧ W.cell? ⟨pq, 1, none⟩ = some (.slice a2 p.body.len c2) ∧
            FuncsIn W (· < W.heap.size) false (.slice aq p.funcs.length cq) (revP p).funcs ∧ Nodes W (· < W.heap.size) false (.slice a2 p.body.len c2) (revP p).body from by
          have hu := UP.out W h.since.below
          exact ⟨hu.1, hu.2.1, h.cells.1, h.cells.2, h.funcs hu.2.2.2.2.2 HS.out.funcs, hu.2.2.2.2.1.mono fun b _ hb => Nat.lt_of_lt_of_le hb hu.2.2.1⟩)
        go_upto_region 9 with fail
        have XD := Lib.hid (X.out.turn (Turn.drew wr g) (by simp) (by simp) (by simp))
        obtain ⟨p0, p1, q0, q1, _⟩ := GO.out wr g X.out
        go_cut [38] from 34 to 38 (fun v38 wx => v38 = .bool false ∧ ∃ g, OrSt w wb wx g pq (.slice a2 p.body.len c2) p.funcs p.funcs.length (.slice aq p.funcs.length cq))
        case first =>
          go_region_law (first
            | (go_simp; go_at_call_of 12 (Value.agg #[Value.slice a1 p.funcs.length c1, Value.slice a2 p.body.len c2]); refine (scheck_t (UP.out _ XD.out.since.below).2.2.1 (UP.out _ XD.out.since.below).2.2.2.1 (UP.out _ XD.out.since.below).2.2.2.2.1 HS.out).mono ?_; rintro e w5 ⟨rfl, hb5⟩; have X5 := Lib.hid (XD.out.later hb5); obtain ⟨r0, r1, r2, r3, _⟩ := GO.out w5 _ X5.out; clear hb5)
            | (go_simp; go_at_call_of 12 (Value.agg #[Value.slice aq p.funcs.length cq, Value.slice a2 p.body.len c2]); refine (scheck_t (p := revP p) (Nat.le_refl _) (GO.out w5 _ X5.out).2.2.2.2.1 (GO.out w5 _ X5.out).2.2.2.2.2 (rev_small HS.out)).mono ?_; rintro e w6 ⟨rfl, hb6⟩; rw [scheck_rev]; have X6 := Lib.hid (X5.out.later hb6); clear hb6))
          all_goals
            go_wp2_with fail
            go_meet
            case rel => exact ⟨by simp, _, X6.out⟩
        case rest =>
          obtain ⟨rfl, g7, h7⟩ := hcut
          have X7 := Lib.hid h7
          clear h7 p0 p1 q0 q1
          obtain ⟨p0, p1, q0, q1, _⟩ := GO.out wc g7 X7.out
          go_wp2_with fail
          clear p0 p1 q0 q1
          go_loopg [5] p.funcs.length (fun gk v5 wr => OiAt w wb pq (.slice a2 p.body.len c2) (.slice aq p.funcs.length cq) p.funcs gk v5 wr)
          case atStart => exact ⟨0, g7, Nat.zero_le _, rfl, rfl, X7.out⟩
          case round =>
            obtain ⟨i, g8, hi, rfl, rfl, hS8⟩ := hrel
            have i0 : (0 : Int) ≤ (i : Int) := by omega
            have X8 := Lib.hid hS8
            obtain ⟨p0, p1, q0, q1, _⟩ := GO.out wr g8 hS8
            by_cases hlt : i < p.funcs.length
            · have i1 : (i : Int) < (p.funcs.length : Int) := by omega
              have iw : IntKind.i64.wrap ((p.funcs.length : Int) - 1 - (i : Int)) = (p.funcs.length : Int) - 1 - (i : Int) := IntWalk.i64_in _ (by omega)
              have HLR := Lib.hid (show locals wrapI (revP p) ((p.funcs.length : Int) - 1 - (i : Int)) = locals wrapI p (i : Int) from by
                rw [← locals_rev wrapI p i hlt]
                congr 1
                omega)
              have HLT := Lib.hid hlt
              clear hS8 hlt hi
              go_upto_region 14 with fail
              have XD8 := Lib.hid (X8.out.turn (Turn.drew wr g8) (by simp) (by simp) (by simp))
              go_cut [58] from 39 to 58 (fun v58 wx => v58 = .bool false ∧ ∃ g, OrSt w wb wx g pq (.slice a2 p.body.len c2) p.funcs p.funcs.length (.slice aq p.funcs.length cq))
              case first =>
                go_region_law (first
                  | (go_simp; go_at_call_of 15 (Value.agg #[Value.slice a1 p.funcs.length c1, Value.slice a2 p.body.len c2]); refine slocals_t (UP.out _ XD8.out.since.below).2.2.1 (UP.out _ XD8.out.since.below).2.2.2.1 (UP.out _ XD8.out.since.below).2.2.2.2.1 HS.out (i : Int) fun v9 w9 g9 S9 O9 L9 => ?_; obtain ⟨a9, c9, rfl⟩ := O9.form; have X9 := Lib.hid (And.intro (XD8.out.later S9.below) (And.intro O9 L9)); obtain ⟨r0, r1, r2, r3, _⟩ := GO.out w9 _ X9.out.1; clear S9 O9 L9)
                  | (go_simp; go_at_call_of 15 (Value.agg #[Value.slice aq p.funcs.length cq, Value.slice a2 p.body.len c2]); refine slocals_t (p := revP p) (Nat.le_refl _) (GO.out w9 _ X9.out.1).2.2.2.2.1 (GO.out w9 _ X9.out.1).2.2.2.2.2 (rev_small HS.out) ((p.funcs.length : Int) - 1 - (i : Int)) fun v10 w10 g10 S10 O10 L10 => ?_; rw [HLR.out] at O10 L10; obtain ⟨a10, c10, rfl⟩ := O10.form; have X10 := Lib.hid (And.intro (X9.out.1.later S10.below) (And.intro (texts_of_owns O10 L10 (by have := locals_len HS.out (i : Int); omega)) (((texts_of_owns X9.out.2.1 X9.out.2.2 (by have := locals_len HS.out (i : Int); omega)).mono (T := (· < w9.heap.size)) fun b hb _ => hb).below S10.below))); clear S10 O10 L10)
                  | (go_simp; go_at_call 18; refine (sameTexts_t X10.out.2.2 X10.out.2.1).mono ?_; rintro e w11 ⟨rfl, hb11⟩; rw [show (locals wrapI p (i : Int) == locals wrapI p (i : Int)) = true from beq_self_eq_true _]; have X11 := Lib.hid (X10.out.1.later hb11); clear hb11))
                all_goals
                  go_wp2_with fail
                  go_meet
                  case rel => exact ⟨by simp, _, X11.out⟩
              case rest =>
                obtain ⟨rfl, g12, h12⟩ := hcut
                have X12 := Lib.hid h12
                clear h12 p0 p1 q0 q1
                go_wp2_with fail
                go_roundg (p.funcs.length - (i + 1))
                case measure => have := HLT.out; omega
                case rel => exact ⟨i + 1, g12, HLT.out, rfl, by go_num, X12.out⟩
            · obtain rfl : i = p.funcs.length := by omega
              clear hS8 hlt hi
              go_upto_region 16 with fail
              have XD8 := Lib.hid (X8.out.turn (Turn.drew wr g8) (by simp) (by simp) (by simp))
              go_region_law (first
                | (go_simp; go_at_call_of 15 (Value.agg #[Value.slice a1 p.funcs.length c1, Value.slice a2 p.body.len c2]); refine slocals_t (UP.out _ XD8.out.since.below).2.2.1 (UP.out _ XD8.out.since.below).2.2.2.1 (UP.out _ XD8.out.since.below).2.2.2.2.1 HS.out (-1) fun v9 w9 g9 S9 O9 L9 => ?_; obtain ⟨a9, c9, rfl⟩ := O9.form; have X9 := Lib.hid (And.intro (XD8.out.later S9.below) (And.intro O9 L9)); obtain ⟨r0, r1, r2, r3, _⟩ := GO.out w9 _ X9.out.1; clear S9 O9 L9)
                | (go_simp; go_at_call_of 15 (Value.agg #[Value.slice aq p.funcs.length cq, Value.slice a2 p.body.len c2]); refine slocals_t (p := revP p) (Nat.le_refl _) (GO.out w9 _ X9.out.1).2.2.2.2.1 (GO.out w9 _ X9.out.1).2.2.2.2.2 (rev_small HS.out) (-1) fun v10 w10 g10 S10 O10 L10 => ?_; rw [locals_rev_body] at O10 L10; obtain ⟨a10, c10, rfl⟩ := O10.form; have X10 := Lib.hid (And.intro (X9.out.1.later S10.below) (And.intro (texts_of_owns O10 L10 (by have := locals_len HS.out (-1); omega)) (((texts_of_owns X9.out.2.1 X9.out.2.2 (by have := locals_len HS.out (-1); omega)).mono (T := (· < w9.heap.size)) fun b hb _ => hb).below S10.below))); clear S10 O10 L10)
                | (go_simp; go_at_call 18; refine (sameTexts_t X10.out.2.2 X10.out.2.1).mono ?_; rintro e w11 ⟨rfl, hb11⟩; rw [show (locals wrapI p (-1) == locals wrapI p (-1)) = true from beq_self_eq_true _]; have X11 := Lib.hid (X10.out.1.later hb11); clear hb11))
              all_goals
                go_wp2_with fail
                go_ret
                exact ⟨by first | rfl | simp, (UP.out _ X11.out.since.below).2.2.2.2.2⟩
  · have hm2 : (1500 : Int) < mz := by omega
    clear hm
    go_wp2_with fail
    refine (alive11_t (w := w2)).mono ?_
    rintro e w3 ⟨rfl, hb3⟩
    have B3 := Lib.hid (B2.out.trans (hb3.mono B2.out.size))
    clear hb3 p0 p1
    go_wp2_with fail
    go_ret
    exact ⟨rfl, (UP.out w3 B3.out).2.2.2.2.2⟩
end Go.Proofs.YtmkhfonafcikdaaGreatDoor
