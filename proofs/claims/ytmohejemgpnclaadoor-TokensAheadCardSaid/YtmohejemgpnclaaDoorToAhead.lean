/- Tokens: the walk of TokensAhead. -/
import Derived.Test.YtmohejemgpnclaaDoorToSigns
import Derived.Test.YtmohejemgpnclaaDoorToAhPlain
namespace Go.To
theorem scan_pos : ∀ (f p : Nat) (l : List UInt8) (x : T), x ∈ (scan f p l).1 → x.pos ≤ p + l.length := by
  intro f
  induction f with
  | zero => intro p l x h; cases h
  | succ f ih =>
    intro p l x h
    rw [scan] at h
    split at h
    · cases h
    · split at h
      · cases h
      · rename_i h1
        rcases List.mem_cons.1 h with rfl | h
        · exact Nat.le_add_right _ _
        · have h2 := ih _ _ _ h
          have h3 := tok_le l
          have h4 := sil_le (l.drop (tok l).2) false
          rw [List.length_drop] at h4
          rw [List.length_drop, List.length_drop] at h2
          omega
theorem all_pos (s : List UInt8) (x : T) (h : x ∈ (all s).1) : x.pos ≤ s.length := by
  have h1 := scan_pos _ _ _ _ h
  have h2 := sil_le s false
  rw [List.length_drop] at h1
  omega
end Go.To
namespace Go.Proofs.YtmohejemgpnclaaDoor
open Go.RowKit Go.My

theorem wrap_sub_nat (i n k : Nat) (hi : i ≤ 6000) (hn : n ≤ i) (hk : k = i - n) : IntKind.i64.wrap ((i : Int) - (n : Int)) = (k : Int) := by
  rw [IntWalk.i64_in _ (by omega)]; omega

/-- Between two rounds. -/
def AhAt (w : World) (va vb vc : Value) (xs ys zs : List To.T) (gk : Nat) (v14 : Value) (wr : World) : Prop :=
  ∃ (i : Nat) (g : Tags), i ≤ zs.length ∧ gk = zs.length - i ∧ v14 = .int .i64 (i : Int) ∧ Turn w (fun _ => 0) wr g [] ∧ Toks wr g 601 va xs ∧ Toks wr g 602 vb ys ∧ Toks wr g 603 vc zs

set_option maxRecDepth 100000 in
set_option maxHeartbeats 8000000 in
theorem ahead_t {w : World} (s t : List UInt8) (hs9 : s.length ≤ 140737488355328) (ht9 : t.length ≤ 140737488355328) {Q : Ending → World → Prop} (h : ∀ w' g', Turn w (fun _ => 0) w' g' [] → Q (.returned (.bool true)) w') :
    Calls Tryd.prog 7 #[.string (bs s), .string (bs t)] w Q := by
  have H := Lib.hid h
  have hs1 := bs_size s
  have hs2 := bs_size t
  clear h
  have l0 : (0 : Int) ≤ (s.length : Int) := by omega
  have l1 : (0 : Int) ≤ (t.length : Int) := by omega
  have l2 : (s.length : Int) ≤ 140737488355328 := by omega
  have l3 : (t.length : Int) ≤ 140737488355328 := by omega
  by_cases hlong : 3000 < s.length + t.length
  · have hl1 : (3000 : Int) < (s.length : Int) + (t.length : Int) := by omega
    clear hlong
    go_enter Tryd.func7, Tryd.ntmps7
    go_wp2_with fail
    refine alive_t (fun _ => 0) fun w2 g2 T2 => ?_
    have X2 := Lib.hid T2
    clear T2
    go_wp2_with fail
    refine alive_t g2 fun w3 g3 T3 => ?_
    have X3 := Lib.hid (X2.out.trans T3 (V := []) (by simp) (by simp))
    clear T3 X2
    go_wp2_with fail
    exact H.out w3 g3 X3.out
  · have hl1 : (s.length : Int) + (t.length : Int) ≤ 3000 := by omega
    have HA := Lib.hid (To.all_nl s t)
    obtain ⟨u, hu⟩ : ∃ u, u = s ++ [10] := ⟨_, rfl⟩
    obtain ⟨v, hv⟩ : ∃ v, v = s ++ 10 :: t := ⟨_, rfl⟩
    have huv : v = u ++ t := by rw [hv, hu]; simp
    have hvl : v.length ≤ 65536 := by rw [hv, List.length_append, List.length_cons]; omega
    have hadd1 : ∀ wx, (Op.stringOp .add (bs s) ⟨#[10]⟩).run Tryd.prog wx = .ok (.string (bs u)) wx := by rw [hu]; exact add_s s [10] (by simp; omega)
    have hadd2 : ∀ wx, (Op.stringOp .add (bs u) (bs t)).run Tryd.prog wx = .ok (.string (bs v)) wx := by rw [huv]; exact add_s u t (by rw [hu, List.length_append, List.length_cons, List.length_nil]; omega)
    rw [← hv] at HA
    clear hu hv huv
    cases ha : (To.all s).2 with
    | some p =>
      have hr : To.read s = ([], p, 4) := by unfold To.read; rw [if_neg (by omega), ha]
      have hrv : To.read v = ([], p, 4) := by unfold To.read; rw [if_neg (by omega), HA.out, ha]
      obtain ⟨r, hrt⟩ : ∃ r, r = To.read t := ⟨_, rfl⟩
      clear hlong ha hvl HA
      go_enter Tryd.func7, Tryd.ntmps7
      go_wp2_with fail
      refine alive_t (fun _ => 0) fun w2 g2 T2 => ?_
      have X2 := Lib.hid T2
      clear T2
      go_wp2_with fail
      refine read_k g2 601 s fun a3 c3 w3 g3 T3 _ => ?_
      rw [hr]
      have X3 := Lib.hid (X2.out.trans T3 (V := []) (by simp) (by simp))
      clear T3 X2 hr
      go_wp2_with fail
      refine read_k g3 602 t fun a4 c4 w4 g4 T4 _ => ?_
      rw [← hrt]
      have X4 := Lib.hid (X3.out.trans T4 (V := []) (by simp) (by simp))
      clear T4 X3 hrt
      go_wp2_with fail
      refine read_k g4 603 v fun a5 c5 w5 g5 T5 _ => ?_
      rw [hrv]
      have X5 := Lib.hid (X4.out.trans T5 (V := []) (by simp) (by simp))
      clear T5 X4 hrv
      go_wp2_with fail
      exact H.out w5 g5 X5.out
    | none =>
      obtain ⟨xs, hxs⟩ : ∃ xs, xs = (To.all s).1 := ⟨_, rfl⟩
      have hr : To.read s = (xs, 0, 0) := by unfold To.read; rw [if_neg (by omega), ha, hxs]
      cases hb : (To.all t).2 with
      | some q =>
        have hrt : To.read t = ([], q, 4) := by unfold To.read; rw [if_neg (by omega), hb]
        have hrv : To.read v = ([], q + (s.length + 1), 4) := by unfold To.read; rw [if_neg (by omega), HA.out, ha, hb]; rfl
        have hq : q ≤ 65536 := by
          obtain ⟨_, _, _, _, _, hp⟩ := To.all_bad t q hb
          omega
        have q0 : (0 : Int) ≤ (q : Int) := by omega
        have q1 : (q : Int) ≤ 65536 := by omega
        have hq3 : ((q + (s.length + 1) : Nat) : Int) = (s.length : Int) + 1 + (q : Int) := by omega
        have HQ := Lib.hid hq3
        clear hlong ha hb hvl HA hxs hq hq3
        go_enter Tryd.func7, Tryd.ntmps7
        go_wp2_with fail
        refine alive_t (fun _ => 0) fun w2 g2 T2 => ?_
        have X2 := Lib.hid T2
        clear T2
        go_wp2_with fail
        refine read_k g2 601 s fun a3 c3 w3 g3 T3 _ => ?_
        rw [hr]
        have X3 := Lib.hid (X2.out.trans T3 (V := []) (by simp) (by simp))
        clear T3 X2 hr
        go_wp2_with fail
        refine read_k g3 602 t fun a4 c4 w4 g4 T4 _ => ?_
        rw [hrt]
        have X4 := Lib.hid (X3.out.trans T4 (V := []) (by simp) (by simp))
        clear T4 X3 hrt
        go_wp2_with fail
        refine read_k g4 603 v fun a5 c5 w5 g5 T5 _ => ?_
        rw [hrv]
        have X5 := Lib.hid (X4.out.trans T5 (V := []) (by simp) (by simp))
        clear T5 X4 hrv
        simp only [HQ.out]
        go_wp2_with fail
        exact H.out w5 g5 X5.out
      | none =>
        obtain ⟨ys, hys⟩ : ∃ ys, ys = (To.all t).1 := ⟨_, rfl⟩
        obtain ⟨zs, hzs⟩ : ∃ zs, zs = xs ++ ys.map (To.T.on (s.length + 1)) := ⟨_, rfl⟩
        have hrt : To.read t = (ys, 0, 0) := by unfold To.read; rw [if_neg (by omega), hb, hys]
        have hrv : To.read v = (zs, 0, 0) := by unfold To.read; rw [if_neg (by omega), HA.out, ha, hb, hzs, hxs, hys]; rfl
        have hpos : ∀ x ∈ ys, x.pos ≤ t.length := by rw [hys]; exact To.all_pos t
        have hzl : zs.length = xs.length + ys.length := by rw [hzs, List.length_append, List.length_map]
        have hxl := To.all_len s
        have hyl := To.all_len t
        rw [← hxs] at hxl
        rw [← hys] at hyl
        have hzx : ∀ i (h1 : i < xs.length) (h2 : i < zs.length), zs[i] = xs[i] := by intro i h1 h2; subst hzs; exact List.getElem_append_left h1
        have hzy : ∀ i (h0 : xs.length ≤ i) (h1 : i - xs.length < ys.length) (h2 : i < zs.length), zs[i] = To.T.on (s.length + 1) (ys[i - xs.length]) := by
          intro i h0 h1 h2
          subst hzs
          rw [List.getElem_append_right h0, List.getElem_map]
        have HZ := Lib.hid (And.intro hzx (And.intro hzy (And.intro hpos hzl)))
        have x3 : (xs.length : Int) ≤ 3000 := by omega
        have y3 : (ys.length : Int) ≤ 3000 := by omega
        have z3 : (zs.length : Int) ≤ 6000 := by omega
        have HL := Lib.hid (show (zs.length : Int) = (xs.length : Int) + (ys.length : Int) by omega)
        clear hlong ha hb hvl HA hxs hys hzs hpos hzl hxl hyl hzx hzy
        go_enter Tryd.func7, Tryd.ntmps7
        go_wp2_with fail
        refine alive_t (fun _ => 0) fun w2 g2 T2 => ?_
        have X2 := Lib.hid T2
        clear T2
        go_wp2_with fail
        refine read_k g2 601 s fun a3 c3 w3 g3 T3 K3 => ?_
        rw [hr] at K3 ⊢
        have X3 := Lib.hid (And.intro (X2.out.trans T3 (V := []) (by simp) (by simp)) K3)
        clear T3 X2 hr K3
        go_wp2_with fail
        refine read_k g3 602 t fun a4 c4 w4 g4 T4 K4 => ?_
        rw [hrt] at K4 ⊢
        have X4 := Lib.hid (And.intro (X3.out.1.trans T4 (V := []) (by simp) (by simp)) (And.intro (X3.out.2.turn T4 (by simp)) K4))
        clear T4 X3 hrt K4
        go_wp2_with fail
        refine read_k g4 603 v fun a5 c5 w5 g5 T5 K5 => ?_
        rw [hrv] at K5 ⊢
        have X5 := Lib.hid (And.intro (X4.out.1.trans T5 (V := []) (by simp) (by simp)) (And.intro (X4.out.2.1.turn T5 (by simp)) (And.intro (X4.out.2.2.turn T5 (by simp)) K5)))
        clear T5 X4 hrv K5
        have hzi := HL.out
        have hzr := Lib.hid hzi
        go_wp2_with fail
        clear hzi
        go_loopg [14] zs.length (fun gk v14 wr => AhAt w (.slice a3 xs.length c3) (.slice a4 ys.length c4) (.slice a5 zs.length c5) xs ys zs gk v14 wr)
        case atStart => exact ⟨0, g5, Nat.zero_le _, rfl, rfl, X5.out⟩
        case round =>
          obtain ⟨i, g, hi, rfl, rfl, hT, hka, hkb, hkc⟩ := hrel
          have HX := Lib.hid (And.intro hT (And.intro hka (And.intro hkb hkc)))
          have i0 : (0 : Int) ≤ (i : Int) := by omega
          clear hT hka hkb hkc X5
          by_cases hlt : i < zs.length
          · have i2 : (i : Int) < (zs.length : Int) := by omega
            obtain ⟨ao, cap, hv, _, _, hc⟩ := HX.out.2.2.2
            cases hv
            obtain ⟨b0, off, rfl, _, hbl, hc⟩ := hc (by omega)
            obtain ⟨c0, c1, c2⟩ := hc i hlt
            by_cases hx : i < xs.length
            · have i3 : (i : Int) < (xs.length : Int) := by omega
              obtain ⟨ao, cap, hv, _, _, hd⟩ := HX.out.2.1
              cases hv
              obtain ⟨b1, off1, rfl, _, _, hd⟩ := hd (by omega)
              obtain ⟨d0, d1, d2⟩ := hd i hx
              have he := HZ.out.1 i hx hlt
              rw [he] at c0 c1 c2
              have hdec : decide (i < xs.length) = true := by simp [hx]
              clear hc hd he hbl hzr
              generalize xs[i] = x at *
              clear hlt hi
              go_wp2_with fail
              go_quiet (fail)
              have T2 := Turn.drewN wr g nq
              have X2 := Lib.hid (And.intro (HX.out.1.trans T2 (V := []) (by simp) (by simp)) (And.intro (HX.out.2.1.turn T2 (by simp)) (And.intro (HX.out.2.2.1.turn T2 (by simp)) (HX.out.2.2.2.turn T2 (by simp)))))
              clear T2 HX c0 c1 c2 d0 d1 d2
              generalize wr.drewN nq = w2 at *
              have hge : (xs.length : Int) ≤ (i : Int) → False := by omega
              go_wp2_with fail
              go_roundg (zs.length - (i + 1))
              case measure => omega
              case rel => exact ⟨i + 1, g, by omega, rfl, by go_num, X2.out⟩
            · obtain ⟨k, hk⟩ : ∃ k, k = i - xs.length := ⟨_, rfl⟩
              have i3 : (xs.length : Int) ≤ (i : Int) := by omega
              have hky : k < ys.length := by have := HL.out; omega
              obtain ⟨ao, cap, hv, _, _, hd⟩ := HX.out.2.2.1
              cases hv
              obtain ⟨b1, off1, rfl, _, hbl1, hd⟩ := hd (by omega)
              obtain ⟨d0, d1, d2⟩ := hd k hky
              have he := HZ.out.2.1 i (by omega) (by omega) hlt
              have hp := HZ.out.2.2.1 _ (List.getElem_mem hky)
              simp only [← hk] at he
              rw [he] at c0 c1 c2
              have hdec : decide (i < xs.length) = false := by simp [hx]
              have hdec2 : decide (xs.length ≤ i) = true := by simp; omega
              have hwr : IntKind.i64.wrap ((i : Int) - (xs.length : Int)) = (k : Int) := wrap_sub_nat i xs.length k (by omega) (by omega) hk
              have k0 : (0 : Int) ≤ (k : Int) := by omega
              have k1 : (k : Int) < (ys.length : Int) := by omega
              clear hc hd hzr
              have HLT := Lib.hid hlt
              generalize ys[k] = x at *
              have HE := Lib.hid he
              clear he
              have c2' : wr.cell? ⟨b0, off + i * 3 + 2, none⟩ = some (.int .i64 ((x.pos : Int) + (s.length : Int) + 1)) := by rw [c2]; simp only [To.T.on]; congr 2
              have c0' : wr.cell? ⟨b0, off + i * 3, none⟩ = some (.int .u8 (x.kind : Int)) := c0
              have c1' : wr.cell? ⟨b0, off + i * 3 + 1, none⟩ = some (.string (bs x.text)) := c1
              have p0 : (0 : Int) ≤ (x.pos : Int) := by omega
              have p1 : (x.pos : Int) ≤ 3000 := by omega
              clear hi hx c0 c1 c2 hk hky hp
              go_wp2_with fail
              go_quiet (fail)
              have T2 := Turn.drewN wr g nq
              have X2 := Lib.hid (And.intro (HX.out.1.trans T2 (V := []) (by simp) (by simp)) (And.intro (HX.out.2.1.turn T2 (by simp)) (And.intro (HX.out.2.2.1.turn T2 (by simp)) (HX.out.2.2.2.turn T2 (by simp)))))
              have hcell : ∀ a, (wr.drewN nq).cell? a = wr.cell? a := fun a => by unfold World.cell?; rw [heap_drewN']
              have d0' := (hcell _).trans d0
              have d1' := (hcell _).trans d1
              have d2' := (hcell _).trans d2
              clear T2 HX c0' c1' c2' d0 d1 d2 hcell
              obtain ⟨w2, hw2⟩ : ∃ w2, w2 = wr.drewN nq := ⟨_, rfl⟩
              rw [← hw2] at d0' d1' d2' X2 ⊢
              clear hw2
              obtain ⟨bx, hbx⟩ : ∃ bx, bx = w2.heap.size := ⟨_, rfl⟩
              have T3 := Turn.alloc w2 g 604 (.cells #[.int .u8 (x.kind : Int), .string (bs x.text), .int .i64 ((x.pos : Int) + (s.length : Int) + 1)] 30)
              have B3 := Box1.alloc w2 g 30 604 #[.int .u8 (x.kind : Int), .string (bs x.text), .int .i64 ((x.pos : Int) + (s.length : Int) + 1)]
              have X3 := Lib.hid (And.intro (X2.out.1.trans T3 (V := []) (by simp) (by simp)) (And.intro (X2.out.2.1.turn T3 (by simp)) (And.intro (X2.out.2.2.1.turn T3 (by simp)) (And.intro (X2.out.2.2.2.turn T3 (by simp)) B3))))
              clear T3 B3 X2 hbl hbl1
              go_upto_region 20 with fail
              rw [← hbx] at X3 ⊢
              generalize g.ext bx 604 = g5 at X3
              generalize w2.alloc (.cells #[.int .u8 (x.kind : Int), .string (bs x.text), .int .i64 ((x.pos : Int) + (s.length : Int) + 1)] 30) = w5 at X3 ⊢
              clear hbx d0' d1' d2'
              have e0 : w5.cell? ⟨bx, 0, none⟩ = some (.int .u8 (x.kind : Int)) := (X3.out.2.2.2.2.cell 0).1
              have e1 : w5.cell? ⟨bx, 1, none⟩ = some (.string (bs x.text)) := (X3.out.2.2.2.2.cell 1).1
              have e2 : w5.cell? ⟨bx, 2, none⟩ = some (.int .i64 ((x.pos : Int) + (s.length : Int) + 1)) := (X3.out.2.2.2.2.cell 2).1
              obtain ⟨ao, cap, hv, _, _, hc⟩ := X3.out.2.2.2.1
              cases hv
              obtain ⟨b9, off9, hb9, _, _, hc⟩ := hc (by have := HLT.out; omega)
              cases hb9
              obtain ⟨c0, c1, c2⟩ := hc i HLT.out
              rw [HE.out] at c0 c1 c2
              have c2' : w5.cell? ⟨b0, off + i * 3 + 2, none⟩ = some (.int .i64 ((x.pos : Int) + (s.length : Int) + 1)) := by rw [c2]; simp only [To.T.on]; congr 2
              have c0' : w5.cell? ⟨b0, off + i * 3, none⟩ = some (.int .u8 (x.kind : Int)) := c0
              have c1' : w5.cell? ⟨b0, off + i * 3 + 1, none⟩ = some (.string (bs x.text)) := c1
              clear c0 c1 c2 hc
              go_wp2_with fail
              go_quiet (fail)
              have T2 := Turn.drewN w5 g5 nq
              have X4 := Lib.hid (And.intro (X3.out.1.trans T2 (V := []) (by simp) (by simp)) (And.intro (X3.out.2.1.turn T2 (by simp)) (And.intro (X3.out.2.2.1.turn T2 (by simp)) (X3.out.2.2.2.1.turn T2 (by simp)))))
              clear T2 X3 c0' c1' c2' e0 e1 e2
              generalize w5.drewN nq = w6 at *
              go_wp2_with fail
              go_roundg (zs.length - (i + 1))
              case measure => have := HLT.out; omega
              case rel => exact ⟨i + 1, g5, HLT.out, rfl, by go_num, X4.out⟩
          · obtain rfl : i = zs.length := by omega
            clear hlt hi i0
            go_wp2_with fail
            exact H.out _ g HX.out.1

theorem ahead_any (w : World) (s : ByteArray) (hs : s.size ≤ 140737488355328) (t : ByteArray) (ht : t.size ≤ 140737488355328) : Calls Tryd.prog 7 #[.string s, .string t] w fun e w' => e = .returned (.bool true) ∧ Below w.heap.size w w' := by
  obtain ⟨l, rfl⟩ : ∃ l, s = bs l := ⟨_, bs_of s⟩
  obtain ⟨k, rfl⟩ : ∃ k, t = bs k := ⟨_, bs_of t⟩
  rw [bs_size] at hs ht
  exact ahead_t l k hs ht fun w' g' T => ⟨rfl, below_of' T⟩
end Go.Proofs.YtmohejemgpnclaaDoor
