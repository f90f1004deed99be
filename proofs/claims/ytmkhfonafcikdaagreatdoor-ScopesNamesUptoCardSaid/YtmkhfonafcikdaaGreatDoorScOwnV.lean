/- Scopes: a function's own names. -/
import Derived.Test.YtmkhfonafcikdaaGreatDoorScAddV
import Derived.Test.YtmkhfonafcikdaaGreatDoorScWalk1V
import Derived.Test.YtmkhfonafcikdaaGreatDoorTrC2
import Derived.StillTailTactics
import Derived.BigRegionIn
import Derived.Shelf.RegionOpen
namespace Go.Nd
/-- What statements of some nodes set. -/
def letL (l : List Nd) : List Tx := (l.filter (·.kind == 8)).map (·.text)
theorem lets_flat (xs : Ns) : lets xs = letL xs.flat := rfl
theorem letL_cons (x : Nd) (l : List Nd) : letL (x :: l) = if x.kind = 8 then x.text :: letL l else letL l := by
  unfold letL
  rw [List.filter_cons]
  by_cases h : x.kind = 8
  · simp [h]
  · simp [h]
theorem addAll_cons (l : List Tx) (s : Tx) (ss : List Tx) : addAll l (s :: ss) = addAll (addN l s) ss := rfl
theorem addAll_append (l a b : List Tx) : addAll l (a ++ b) = addAll (addAll l a) b := by unfold addAll; rw [List.foldl_append]
end Go.Nd
namespace Go.Proofs.YtmkhfonafcikdaaGreatDoor
open Go.RowKit Go.Maps Go.My Go.Nd
attribute [local go_sem] Oper.semAt_some

set_option maxRecDepth 100000 in
theorem walkc_t {w : World} {a : Option Addr} {n c : Nat} : Calls Tryz.prog 102 #[.slice a n c] w fun e w' => e = .returned (.func (.func 148) #[] #[.pointer (some ⟨w.heap.size, 0, none⟩)]) ∧ w' = w.alloc (.cells #[.slice a n c] 23) := by
  go_enter Tryz.func102, Tryz.ntmps102
  go_wp2_with fail
  go_ret
  exact ⟨rfl, rfl⟩

/-- The names in block nb, a variable that points there, and what stood before. -/
structure OwSt (w0 W : World) (g : Tags) (bb nb : Nat) (cur : List Tx) (k : Nat) : Prop where
  since : Since w0 W g
  var : Blk W g bb 704 (.cells #[.pointer (some ⟨nb, 0, none⟩)] 71 (0, 0))
  nam : NamAt W g 700 nb cur k
theorem OwSt.turn {w0 W W' : World} {g g' : Tags} {bb nb : Nat} {cur : List Tx} {k : Nat} {T : List Nat} (h : OwSt w0 W g bb nb cur k) (T' : Turn W g W' g' T) (h0 : 0 ∉ T) (h4 : 704 ∉ T) (ha : 700 ∉ T) (hb : 701 ∉ T) (hc : 702 ∉ T) : OwSt w0 W' g' bb nb cur k :=
  ⟨h.since.turn T' h0, h.var.turn T' h4, h.nam.turn T' ha hb hc⟩

def OwAt (w0 : World) (bb nb : Nat) (args : List Tx) (gk : Nat) (v13 : Value) (wr : World) : Prop :=
  ∃ (i : Nat) (g : Tags), i ≤ args.length ∧ gk = args.length - i ∧ v13 = .int .i64 (i : Int) ∧ OwSt w0 wr g bb nb (addAll [] (args.take i)) i

/-- While the nodes come: so many are still to come. -/
def RwSt (w0 W : World) (g : Tags) (bb nb D : Nat) (r : Loop) (all : List Tx) (rest : List Nd) : Prop :=
  ∃ cur k, OwSt w0 W g bb nb cur k ∧ Blk W g (D + 1) 510 (.loop r) ∧ Blk W g D 511 (.deferred (some [])) ∧ addAll cur (letL rest) = all ∧ k + rest.length ≤ 2000000
theorem RwSt.turn {w0 W W' : World} {g g' : Tags} {bb nb D : Nat} {r : Loop} {all : List Tx} {rest : List Nd} {T : List Nat} (h : RwSt w0 W g bb nb D r all rest) (T' : Turn W g W' g' T) (h0 : 0 ∉ T) (h4 : 704 ∉ T) (ha : 700 ∉ T) (hb : 701 ∉ T) (hc : 702 ∉ T) (hd : 510 ∉ T) (he : 511 ∉ T) : RwSt w0 W' g' bb nb D r all rest := by
  obtain ⟨cur, k, h1, h2, h3, h4', h5⟩ := h
  exact ⟨cur, k, h1.turn T' h0 h4 ha hb hc, h2.turn T' hd, h3.turn T' he, h4', h5⟩

theorem ow_start {w0 W : World} {g : Tags} {bb nb lb : Nat} {cur : List Tx} {k : Nat} {o : Obj} (h : OwSt w0 W g bb nb cur k) (hb : Blk W g lb 705 o) (r : Loop) : ∃ g', OwSt w0 ((W.alloc (.deferred (some []))).alloc (.loop r)) g' bb nb cur k ∧ Blk ((W.alloc (.deferred (some []))).alloc (.loop r)) g' lb 705 o ∧
    Blk ((W.alloc (.deferred (some []))).alloc (.loop r)) g' (W.heap.size + 1) 510 (.loop r) ∧ Blk ((W.alloc (.deferred (some []))).alloc (.loop r)) g' W.heap.size 511 (.deferred (some [])) := by
  have T0 := Turn.alloc W g 511 (.deferred (some []))
  have d0 := Blk.alloc W g 511 (.deferred (some []))
  generalize g.ext W.heap.size 511 = g0 at T0 d0
  have z0 : (W.alloc (.deferred (some []))).heap.size = W.heap.size + 1 := World.size_alloc _ _
  generalize W.alloc (.deferred (some [])) = W0 at *
  have T1 := Turn.alloc W0 g0 510 (.loop r)
  have l0 := Blk.alloc W0 g0 510 (.loop r)
  rw [z0] at T1 l0
  have T := T0.trans T1 (V := []) (by simp) (by simp)
  exact ⟨_, h.turn T (by simp) (by simp) (by simp) (by simp) (by simp), hb.turn T (by simp), l0, d0.turn T1 (by simp)⟩

set_option maxRecDepth 100000 in
set_option maxHeartbeats 8000000 in
theorem sown_t {w : World} {B : Nat} {tw : Bool} {va vb : Value} {args : List Tx} {body : Ns} (hB : B ≤ w.heap.size) (h1 : TextsIn w (· < B) tw va args) (h2 : Nodes w (· < B) tw vb body) (hsz : args.length + body.flat.length ≤ 2000000) {Q : Ending → World → Prop}
    (hQ : ∀ nb w' g' k, Since w w' g' → NamAt w' g' 700 nb (ownN args body) k → Q (.returned (.pointer (some ⟨nb, 0, none⟩))) w') :
    Calls Tryz.prog 47 #[va, vb] w Q := by
  have HQ := Lib.hid hQ
  obtain ⟨a1, c1, rfl⟩ := h1.form
  obtain ⟨a2, c2, rfl⟩ := h2.form
  have HT := Lib.hid h1
  have HN := Lib.hid h2
  have HB := Lib.hid hB
  have l0 : (0 : Int) ≤ (args.length : Int) := by omega
  have l1 : (args.length : Int) ≤ 2000000 := by omega
  clear hQ h1 h2 hB
  refine (callsIn_wide (n := 5)).1 (callsIn_of_wp_marks Tryz.func47 rfl trivial ?_ rfl)
  simp only [Tryz.ntmps47, List.size_toArray, List.length_cons, List.length_nil, Nat.reduceAdd, Nat.reduceSub, Array.replicate_succ, Array.replicate_zero, List.push_toArray, List.append_toArray, List.nil_append, List.cons_append]
  refine wpIn_wide.2 ?_
  go_upto_region 2 with fail
  have hstart : ∃ g, OwSt w ((w.alloc (.cells #[.slice none 0 0, .map none] 74)).alloc (.cells #[.pointer (some ⟨w.heap.size, 0, none⟩)] 71)) g (w.heap.size + 1) w.heap.size [] 0 := by
    have T1 := Turn.alloc w (fun _ => 0) 700 (.cells #[.slice none 0 0, .map none] 74)
    have B1 := Blk.alloc w (fun _ => 0) 700 (.cells #[.slice none 0 0, .map none] 74 (0, 0))
    have S1 := (Since.start w).turn T1 (by simp)
    have z1 : (w.alloc (.cells #[.slice none 0 0, .map none] 74)).heap.size = w.heap.size + 1 := World.size_alloc _ _
    generalize w.alloc (.cells #[.slice none 0 0, .map none] 74) = w1 at *
    generalize Tags.ext (fun _ => 0) w.heap.size 700 = g1 at *
    have T2 := Turn.alloc w1 g1 704 (.cells #[.pointer (some ⟨w.heap.size, 0, none⟩)] 71)
    have B2 := Blk.alloc w1 g1 704 (.cells #[.pointer (some ⟨w.heap.size, 0, none⟩)] 71 (0, 0))
    rw [z1] at B2 T2
    exact ⟨_, S1.turn T2 (by simp), B2, Nat.le_refl _, (fun s h => by cases h), .inl ⟨rfl, ⟨B1.turn T2 (by simp)⟩⟩⟩
  obtain ⟨g0, hst⟩ := hstart
  obtain ⟨nb, hnb⟩ : ∃ nb, nb = w.heap.size := ⟨_, rfl⟩
  obtain ⟨w2, hw2⟩ : ∃ w2, w2 = (w.alloc (.cells #[.slice none 0 0, .map none] 74)).alloc (.cells #[.pointer (some ⟨w.heap.size, 0, none⟩)] 71) := ⟨_, rfl⟩
  rw [← hw2, ← hnb] at hst
  rw [← hw2, ← hnb]
  obtain ⟨bb, hbb⟩ : ∃ bb, bb = nb + 1 := ⟨_, rfl⟩
  rw [← hbb] at hst ⊢
  have X0 := Lib.hid hst
  clear hst hw2 hnb hbb
  go_wp2_with fail
  go_loopg [13] args.length (fun gk v13 wr => OwAt w bb nb args gk v13 wr)
  case atStart => exact ⟨0, g0, Nat.zero_le _, rfl, rfl, X0.out⟩
  case round =>
    obtain ⟨i, g, hi, rfl, rfl, hS⟩ := hrel
    have i0 : (0 : Int) ≤ (i : Int) := by omega
    have X := Lib.hid hS
    have v0 := cell_of_row wr bb 0 _ _ _ hS.var.1
    simp at v0
    by_cases hlt : i < args.length
    · have i1 : (i : Int) < (args.length : Int) := by omega
      obtain ⟨_, _, he, _, _, _, _, hcell⟩ := HT.out.below (hS.since.below.mono HB.out)
      obtain ⟨b, off, e, hbS, hc, hl⟩ := hcell i hlt
      cases he
      cases e
      have hstep : addAll [] (args.take (i + 1)) = addN (addAll [] (args.take i)) args[i] := by
        rw [List.take_succ_eq_append_getElem hlt, addAll_append]
        rfl
      obtain ⟨s, hs⟩ : ∃ s, s = args[i] := ⟨_, rfl⟩
      rw [← hs] at hc hl hstep
      have HL := Lib.hid (And.intro hl (And.intro hstep hlt))
      clear hs hl hstep hlt hcell hS
      go_wp2_with fail
      refine add_t X.out.nam (by omega) HL.out.1 fun w' g' hT hN => ?_
      have X1 := Lib.hid (show OwSt w w' g' bb nb (addAll [] (args.take (i + 1))) (i + 1) from ⟨X.out.since.turn hT (by simp), X.out.var.turn hT (by simp), by rw [HL.out.2.1]; exact hN⟩)
      clear hT hN v0
      go_wp2_with fail
      go_roundg (args.length - (i + 1))
      case measure => have := HL.out.2.2; omega
      case rel => exact ⟨i + 1, g', HL.out.2.2, rfl, by go_num, X1.out⟩
    · obtain rfl : i = args.length := by omega
      rw [List.take_length] at hS X
      clear hlt hS hi
      go_wp2_with fail
      refine walkc_t.mono ?_
      rintro e w3 ⟨rfl, hw3⟩
      have TA := Turn.alloc wr g 705 (.cells #[.slice a2 body.len c2] 23)
      have BA := Blk.alloc wr g 705 (.cells #[.slice a2 body.len c2] 23 (0, 0))
      have XA := X.out.turn TA (by simp) (by simp) (by simp) (by simp) (by simp)
      rw [← hw3] at TA BA XA
      obtain ⟨g3, hg3⟩ : ∃ g3, g3 = g.ext wr.heap.size 705 := ⟨_, rfl⟩
      rw [← hg3] at BA XA
      obtain ⟨lb, hlb⟩ : ∃ lb, lb = wr.heap.size := ⟨_, rfl⟩
      rw [← hlb] at BA ⊢
      have X3 := Lib.hid (And.intro XA BA)
      clear TA BA XA hw3 hlb hg3 v0 X X0
      go_wp2_with fail
      refine wp_range2 rfl (enters_of Tryz.func148 (by kernel_rfl) rfl) fun r e1 e2 e3 e4 e5 e6 => ?_
      simp only [List.append_toArray, List.cons_append, List.nil_append]
      have HE := Lib.hid (And.intro e1 (And.intro e2 (And.intro e3 (And.intro e4 (And.intro e5 e6)))))
      clear e1 e2 e3 e4 e5 e6
      obtain ⟨g5, hst5⟩ := ow_start X3.out.1 X3.out.2 r
      generalize w3.heap.size = D at *
      generalize (w3.alloc (.deferred (some []))).alloc (.loop r) = W5 at *
      have HST := Lib.hid hst5
      have HBW := Lib.hid hst5.1.since.below
      clear hst5
      refine Calls.mono (walk1_t (w0 := w) (w := W5) (g := g5) (B := B) (tw := tw) (l := D + 1) (lb := lb) (TB := [510, 700, 701, 702]) (xs := body) (J := fun r' W g => RwSt w W g bb nb D r (ownN args body) r') (Jx := fun _ => False)
        (R := fun W => ∃ g, RwSt w W g bb nb D r (ownN args body) [] ) ?h0 ?stay ?below ?yields HB.out (by decide) ?hlb (HN.out.below (HBW.out.mono HB.out)) (fun W g h => ⟨g, h⟩) (fun W h => h.elim)) ?_
      case h0 => exact ⟨_, _, HST.out.1, HST.out.2.2.1, HST.out.2.2.2, rfl, hsz⟩
      case stay => exact fun r' W g W' g' h T => h.turn T (by simp) (by simp) (by simp) (by simp) (by simp) (by simp) (by simp)
      case below => exact fun r' W g ⟨_, _, h, _⟩ => h.since.below
      case hlb => exact cell_of_row _ _ 0 _ _ _ HST.out.2.1.1
      case yields =>
        intro x r' W g v ⟨cur, k, hO, hL, hD, he, hk⟩ hv
        obtain ⟨a4, c4, a5, c5, a6, c6, rfl, hkd, htx, n1, n2, n3⟩ := hv
        refine yields_of hL HE.out.1 HE.out.2.1 HE.out.2.2.1 HE.out.2.2.2.1 HE.out.2.2.2.2.1 HE.out.2.2.2.2.2 ?_
        have T1 := Turn.alloc W g 706 (.cells #[.int .u8 (x.kind : Int), .string (tx x.text), .slice a4 x.l.len c4, .slice a5 x.body.len c5, .slice a6 x.els.len c6] 61)
        have bt := Blk.alloc W g 706 (.cells #[.int .u8 (x.kind : Int), .string (tx x.text), .slice a4 x.l.len c4, .slice a5 x.body.len c5, .slice a6 x.els.len c6] 61 (0, 0))
        have hO1 := hO.turn T1 (by simp) (by simp) (by simp) (by simp) (by simp)
        have hL1 := hL.turn T1 (by simp)
        have hD1 := hD.turn T1 (by simp)
        obtain ⟨tb, htb⟩ : ∃ tb, tb = W.heap.size := ⟨_, rfl⟩
        have HX := Lib.hid (And.intro T1 (And.intro bt (And.intro hO1 (And.intro hL1 hD1))))
        have HK := Lib.hid (And.intro he (And.intro hk (And.intro hkd htx)))
        clear T1 bt hO hO1 hL hL1 hD hD1 he hk n1 n2 n3 hkd htx
        gi_wp2
        refine ⟨⟨_, HX.out.2.2.2.1⟩, ?_⟩
        obtain ⟨T2, hL2⟩ := HX.out.2.2.2.1.put (.loop { state := .busy, pending := r.pending, fn := r.fn, tmps := r.tmps, params := r.params, assign := r.assign, body := r.body, defers := r.defers })
        have bt2 := HX.out.2.1.turn T2 (by simp)
        have hO2 := HX.out.2.2.1.turn T2 (by simp) (by simp) (by simp) (by simp) (by simp)
        have hD2 := HX.out.2.2.2.2.turn T2 (by simp)
        have T3 := HX.out.1.trans T2 (V := [510, 700, 701, 702]) (by simp) (by simp)
        rw [← htb] at bt2 ⊢
        clear T2 htb
        generalize (W.alloc (.cells #[.int .u8 (x.kind : Int), .string (tx x.text), .slice a4 x.l.len c4, .slice a5 x.body.len c5, .slice a6 x.els.len c6] 61)).putObj (D + 1) (.loop { state := .busy, pending := r.pending, fn := r.fn, tmps := r.tmps, params := r.params, assign := r.assign, body := r.body, defers := r.defers }) = W2 at *
        generalize g.ext W.heap.size 706 = g7 at *
        clear HX
        have q0 := cell_of_row W2 tb 0 _ _ _ bt2.1
        have q1 := cell_of_row W2 tb 1 _ _ _ bt2.1
        have p0 := cell_of_row W2 bb 0 _ _ _ hO2.var.1
        simp at q0 q1 p0
        have HY := Lib.hid (And.intro hO2 (And.intro hL2 (And.intro hD2 T3)))
        have k0 : (0 : Int) ≤ (x.kind : Int) := by omega
        clear bt2 hO2 hL2 hD2 T3
        by_cases h8 : x.kind = 8
        · have h8' : (x.kind : Int) = 8 := by omega
          have HE8 := Lib.hid (show addAll (addN cur x.text) (letL r') = ownN args body ∧ k + 1 + r'.length ≤ 2000000 from ⟨by have := HK.out.1; rw [letL_cons, if_pos h8, addAll_cons] at this; exact this, by have := HK.out.2.1; rw [List.length_cons] at this; omega⟩)
          have hkk : k ≤ 4000000 := by have := HE8.out.2; omega
          clear h8
          gi_wp2
          refine ⟨trivial, CallsIn.inRound _ (callsIn_wide.2 (add_t HY.out.1.nam hkk HK.out.2.2.2 fun w8 g8 T8 N8 => ?_))⟩
          have hL8 := HY.out.2.1.turn T8 (by simp)
          have hO8 : OwSt w w8 g8 bb nb (addN cur x.text) (k + 1) := ⟨HY.out.1.since.turn T8 (by simp), HY.out.1.var.turn T8 (by simp), N8⟩
          have hD8 := HY.out.2.2.1.turn T8 (by simp)
          have HZ := Lib.hid (And.intro hL8 (And.intro hO8 (And.intro hD8 (HY.out.2.2.2.trans T8 (V := [510, 700, 701, 702]) (fun _ h => h) (by simp)))))
          clear hL8 hO8 hD8 T8 N8 q0 q1 p0
          gi_wp2
          obtain ⟨T9, hL9⟩ := HZ.out.1.put (.loop r)
          exact ⟨g8, HZ.out.1, rfl, g8, ⟨_, _, HZ.out.2.1.turn T9 (by simp) (by simp) (by simp) (by simp) (by simp), hL9, HZ.out.2.2.1.turn T9 (by simp), HE8.out.1, HE8.out.2⟩, HZ.out.2.2.2.trans T9 (fun _ h => h) (by simp)⟩
        · have h8' : ¬ (x.kind : Int) = 8 := by omega
          have HE8 := Lib.hid (show addAll cur (letL r') = ownN args body ∧ k + r'.length ≤ 2000000 from ⟨by have := HK.out.1; rw [letL_cons, if_neg h8] at this; exact this, by have := HK.out.2.1; rw [List.length_cons] at this; omega⟩)
          clear h8
          gi_wp2
          obtain ⟨T9, hL9⟩ := HY.out.2.1.put (.loop r)
          exact ⟨g7, HY.out.2.1, rfl, g7, ⟨_, _, HY.out.1.turn T9 (by simp) (by simp) (by simp) (by simp) (by simp), hL9, HY.out.2.2.1.turn T9 (by simp), HE8.out.1, HE8.out.2⟩, HY.out.2.2.2.trans T9 (fun _ h => h) (by simp)⟩
      rintro e W6 ⟨⟨v, rfl⟩, g6, hR⟩
      obtain ⟨cur, k, hO, hL, hD, he, hk⟩ := hR
      have hend := run_endLoop (P := Tryz.prog) hL.1 (by rw [HE.out.1]; simp)
      rw [HE.out.2.1] at hend
      refine ⟨none, _, hend, ?_⟩
      obtain ⟨T7, hL7⟩ := hL.put (.loop { state := .exhausted, pending := none, fn := r.fn, tmps := r.tmps, params := r.params, assign := r.assign, body := r.body, defers := r.defers })
      have hO7 := hO.turn T7 (by simp) (by simp) (by simp) (by simp) (by simp)
      have hD7 := hD.turn T7 (by simp)
      clear hend hO hL hD T7 hL7 HST HBW
      generalize W6.putObj (D + 1) (.loop { state := .exhausted, pending := none, fn := r.fn, tmps := r.tmps, params := r.params, assign := r.assign, body := r.body, defers := r.defers }) = W7 at *
      have p0 := cell_of_row W7 bb 0 _ _ _ hO7.var.1
      simp at p0
      have HR := Lib.hid (And.intro hO7 (And.intro hD7 he))
      clear hO7 hD7 he hk
      go_wp2_with fail
      refine ⟨by simp, .inl ⟨_, _, rfl, run_takeDeferred HR.out.2.1.1, ?_⟩⟩
      obtain ⟨T8, _⟩ := HR.out.2.1.put (.deferred none)
      have hq := HQ.out nb _ _ k (HR.out.1.since.turn T8 (by simp)) (by
        have := HR.out.1.nam.turn T8 (by simp) (by simp) (by simp)
        rw [← HR.out.2.2]
        exact this)
      exact ⟨_, results_tmp rfl _ _ _, by simpa using hq⟩
end Go.Proofs.YtmkhfonafcikdaaGreatDoor
