/- Frames: the document's reader. -/
import Derived.Test.YtolkphbnneoloaaDoorFcLists
import Derived.Test.YtolkphbnneoloaaDoorFrPlain2
import Derived.IntWalk
namespace Go.My
/-- What stands behind k elements. -/
theorem Owns.behind {w : World} {g : Tags} {t : Nat} {e : TypeId} {a ad : Option Addr} {n cap : Nat} {xs : List Value} (h : Owns w g t e 1 (.slice a n cap) n xs) (k : Nat) (hk : k ≤ n) (h1 : k < cap → ad = a.map (·.add k)) (h2 : k = cap → ad = a) : Owns w g t e 1 (.slice ad (n - k) (cap - k)) (n - k) (xs.drop k) := by
  obtain ⟨r, ho, hr⟩ := h
  refine ⟨r, ?_, hr⟩
  rcases ho.2 with ⟨hv, hn, hg⟩ | ⟨b, off, c, cur, hv, hg, hh, h3, h4, h5, h6⟩
  · simp only [Value.slice.injEq] at hv
    obtain ⟨rfl, hn', rfl⟩ := hv
    have hk0 : k = 0 := by omega
    subst hk0
    rw [h2 rfl]
    exact ho
  · simp only [Value.slice.injEq] at hv
    obtain ⟨rfl, _, rfl⟩ := hv
    by_cases hc : k < cap
    · rw [h1 hc, Option.map_some, add_none]
      exact ho.drop k hk
    · rw [h2 (by omega)]
      exact ho.drop_all k (by omega) hk
end Go.My
namespace Go.Proofs.YtolkphbnneoloaaDoor
open Go.RowKit Go.My

/-- The document's reader: 730, its bytes: 731. -/
def RefRd (w : World) (g : Tags) (rb : Nat) (buf : List UInt8) (broken : Bool) : Prop :=
  ∃ v, Bx w g rb 63 730 #[v, .bool broken] ∧ Owns w g 731 bytesU8 1 v buf.length (buf.map byteCell)

theorem RefRd.turn {w w' : World} {g g' : Tags} {T : List Nat} {rb : Nat} {buf : List UInt8} {broken : Bool} (h : RefRd w g rb buf broken) (k : Turn w g w' g' T) (h1 : 730 ∉ T) (h2 : 731 ∉ T) : RefRd w' g' rb buf broken := by
  obtain ⟨v, hb, ho⟩ := h
  exact ⟨v, hb.turn k h1, ho.turn k h2⟩

theorem rnew_t (w : World) (g : Tags) {Q : Ending → World → Prop} (h : ∀ rb w' g', Turn w g w' g' [] → RefRd w' g' rb [] false → Q (.returned (.pointer (some ⟨rb, 0, none⟩))) w') : Calls Tryd.prog 14 #[] w Q := by
  have H := Lib.hid h
  clear h
  go_enter Tryd.func14, Tryd.ntmps14
  go_wp2_with fail
  exact H.out _ _ _ (Turn.alloc w g 730 _) ⟨_, Bx.alloc w g _ 730 _, Owns.nil _ _ _ _ _⟩

theorem rleft {w : World} {g : Tags} {rb : Nat} {buf : List UInt8} {broken : Bool} (hR : RefRd w g rb buf broken) {Q : Ending → World → Prop} (h : Q (.returned (.int .i64 buf.length)) w) : Calls Tryd.prog 19 #[.pointer (some ⟨rb, 0, none⟩)] w Q := by
  obtain ⟨v, hb, ho⟩ := hR
  obtain ⟨a, c, rfl⟩ := ho.form
  have c0 := (hb.cell 0).1
  simp at c0
  have H := Lib.hid h
  clear h hb ho
  go_enter Tryd.func19, Tryd.ntmps19
  go_wp2_with fail
  exact H.out

theorem rbroken {w : World} {g : Tags} {rb : Nat} {buf : List UInt8} (hR : RefRd w g rb buf true) {v : Value} {Q : Ending → World → Prop} (h : Q (.returned (.tuple #[.slice none 0 0, .int .i64 10])) w) : Calls Tryd.prog 16 #[.pointer (some ⟨rb, 0, none⟩), v] w Q := by
  obtain ⟨u, hb, ho⟩ := hR
  have c1 := (hb.cell 1).1
  simp at c1
  have H := Lib.hid h
  clear h hb ho
  go_enter Tryd.func16, Tryd.ntmps16
  go_wp2_with fail
  exact H.out

theorem rcame_start {w w2 : World} {g g2 : Tags} {rb : Nat} {v v2 : Value} {b : Bool} {l : List UInt8} {m : Nat} (hB : Bx w g rb 63 730 #[v, .bool b]) (hO : Owns w2 g2 731 5 1 v2 m (l.map byteCell)) (hm : m = l.length) (hT : Turn w g w2 g2 [731]) :
    (w2.cell? ⟨rb, 0, none⟩ = some v ∧ w2.frozen? ⟨rb, 0, none⟩ = false) ∧ Turn w g (w2.setCell ⟨rb, 0, none⟩ v2) g2 [730, 731] ∧ RefRd (w2.setCell ⟨rb, 0, none⟩ v2) g2 rb l b := by
  subst hm
  have B2 := hB.turn hT (by decide)
  obtain ⟨T3, B3⟩ := B2.store 0 v2
  have c := B2.cell 0
  exact ⟨⟨by simpa using c.1, c.2⟩, hT.trans T3 (V := [730, 731]) (by simp) (by simp), v2, B3, hO.turn T3 (by decide)⟩

/-- A copy in new memory. -/
theorem fresh_piece {w w6 : World} (g : Tags) {v6 : Value} {d : Nat} {l : List UInt8} {k6 : Option Nat} (hO : Own w6 5 1 v6 (0 + d) ([] ++ l.map byteCell) k6) (hS : Step w w6 none) (hk : k6 = none ∨ ∃ k, k6 = some k ∧ w.heap.size ≤ k) (t : Nat) :
    ∃ a6 c6, v6 = .slice a6 d c6 ∧ Turn w g w6 (g.ext w.heap.size t) [] ∧ Bytes w6 (g.ext w.heap.size t) t (.slice a6 d c6) l := by
  rw [Nat.zero_add, List.nil_append] at hO
  obtain ⟨a6, c6, rfl⟩ := own_form hO
  refine ⟨a6, c6, rfl, Turn.of_below ⟨hS.os, hS.tape, hS.output, hS.size, fun k hk => hS.block k hk (by simp)⟩ g t, ?_⟩
  exact RowIn.mono hO.row fun b hb hk' => by
    rcases hk with hk | ⟨k, hk, hge⟩
    · rw [hk] at hk'; cases hk'
    · rw [hk] at hk'; cases hk'; exact Tags.ext_new _ _ _ _ hge

/-- Between two rounds. -/
def RefAt (w : World) (g : Tags) (rb : Nat) (bs : List UInt8) (gk : Nat) (v6 : Value) (wr : World) : Prop :=
  ∃ (done : List (List UInt8)) (rest : List UInt8) (g' : Tags), Fr.all bs = (done ++ (Fr.all rest).1, (Fr.all rest).2) ∧ gk = rest.length ∧ done.length * 4 + rest.length ≤ bs.length ∧ Turn w g wr g' [730, 731, 732, 733] ∧ RefRd wr g' rb rest false ∧ Lists wr g' 732 733 v6 done

/-- One frame more is told. -/
theorem rcame_more {w0 w5 w6 w7 : World} {g0 g1 g7 : Tags} {rb : Nat} {v v2 : Value} {m : Nat} {l : List UInt8} {o : Obj} {u7 : Value} {ls : List (List UInt8)} (hT5 : Turn w0 g0 w5 g1 [730, 731, 732, 733]) (hT6 : Turn w5 g1 w6 (g1.ext w5.heap.size 733) [])
    (hT7 : Turn (w6.alloc o) ((g1.ext w5.heap.size 733).ext w6.heap.size 734) w7 g7 [732]) (hB : Bx w5 g1 rb 63 730 #[v, .bool false]) (hO : Owns w5 g1 731 bytesU8 1 v2 m (l.map byteCell)) (hL : Lists w7 g7 732 733 u7 ls) :
    (w7.cell? ⟨rb, 0, none⟩ = some v ∧ w7.frozen? ⟨rb, 0, none⟩ = false) ∧ Turn w0 g0 (w7.setCell ⟨rb, 0, none⟩ v2) g7 [730, 731, 732, 733] ∧ Bx (w7.setCell ⟨rb, 0, none⟩ v2) g7 rb 63 730 #[v2, .bool false] ∧ Owns (w7.setCell ⟨rb, 0, none⟩ v2) g7 731 bytesU8 1 v2 m (l.map byteCell) ∧ Lists (w7.setCell ⟨rb, 0, none⟩ v2) g7 732 733 u7 ls := by
  have T := (hT6.trans (Turn.alloc w6 _ 734 o) (V := []) (by simp) (by simp)).trans hT7 (V := [732]) (by simp) (by simp)
  have B2 := hB.turn T (by decide)
  obtain ⟨T3, B3⟩ := B2.store 0 v2
  have c := B2.cell 0
  exact ⟨⟨by simpa using c.1, c.2⟩, (hT5.trans T (V := [730, 731, 732, 733]) (fun _ h => h) (by simp)).trans T3 (V := [730, 731, 732, 733]) (fun _ h => h) (by simp), B3, (hO.turn T (by decide)).turn T3 (by decide), hL.turn T3 (by decide) (by decide)⟩

theorem all_more {bs rs r2 pc : List UInt8} {done : List (List UInt8)} (h : Fr.all bs = (done ++ (Fr.all rs).1, (Fr.all rs).2)) (hs : Fr.all rs = (pc :: (Fr.all r2).1, (Fr.all r2).2)) : Fr.all bs = ((done ++ [pc]) ++ (Fr.all r2).1, (Fr.all r2).2) := by
  rw [h, hs]
  generalize Fr.all r2 = r
  simp
theorem whole_said {rs pc : List UInt8} {d : Nat} (h4 : 4 ≤ rs.length) (hm : d ≤ Fr.most) (hp : 4 + d ≤ rs.length) (hd : d = Fr.num4 rs) (hpc : pc = (rs.drop 4).take d) : Fr.all rs = (pc :: (Fr.all (rs.drop (4 + d))).1, (Fr.all (rs.drop (4 + d))).2) := by
  subst hd; subst hpc
  exact Fr.all_whole rs h4 hm hp

set_option maxRecDepth 100000 in
set_option maxHeartbeats 8000000 in
theorem rcame {w : World} {g : Tags} {rb : Nat} {buf : List UInt8} (hR : RefRd w g rb buf false) {tv : Nat} {v : Value} {c : List UInt8} (hv : Bytes w g tv v c) (hsz : buf.length + c.length ≤ 1000000000) (htv : tv < 730)
    {fs : List (List UInt8)} {rest : List UInt8} {k : Bool} (hall : Fr.all (buf ++ c) = (fs, rest, k)) {n : Int} (hn : (if k then 3 else 0) = n) {Q : Ending → World → Prop}
    (h : ∀ ao cap w' g', Turn w g w' g' [730, 731, 732, 733] → Lists w' g' 732 733 (.slice ao fs.length cap) fs → RefRd w' g' rb rest k → Q (.returned (.tuple #[.slice ao fs.length cap, .int .i64 n])) w') :
    Calls Tryd.prog 16 #[.pointer (some ⟨rb, 0, none⟩), v] w Q := by
  obtain ⟨vb, hb, ho⟩ := hR
  obtain ⟨a0, c0, rfl⟩ := ho.form
  obtain ⟨va, vc, rfl⟩ : ∃ va vc, v = .slice va c.length vc := by obtain ⟨x, y, e, _⟩ := BytesIn.open_ hv; exact ⟨x, y, e⟩
  have e0 := (hb.cell 0).1
  have e1 := (hb.cell 1).1
  have e2 := (hb.cell 0).2
  simp at e0 e1
  have H := Lib.hid h
  have X0 := Lib.hid (And.intro hb (And.intro ho hv.src))
  have HA := Lib.hid (And.intro hall hn)
  clear h hb ho hv hall hn
  go_enter Tryd.func16, Tryd.ntmps16
  go_wp2_with (refine wpList_append_t _ rfl (.tmp 16) (.tmp 17) rfl u8Elem (v := .slice a0 buf.length c0) (y := .slice va c.length vc) rfl X0.out.2.1 rfl X0.out.2.2 (byteCells_one _) (by unfold maxLen; omega) (by omega) ?_; intro a2 c2 w2 g2 O2 T2; rw [← List.map_append] at O2; have X2 := Lib.hid (rcame_start X0.out.1 O2 (by simp) T2); clear O2 T2; obtain ⟨q0, q1⟩ := X2.out.1)
  have X3 := Lib.hid X2.out.2
  clear X2 q0 q1 e0 e1 e2 X0
  generalize w2.setCell ⟨rb, 0, none⟩ (.slice a2 (buf.length + c.length) c2) = w3 at X3 ⊢
  obtain ⟨bs, hbs⟩ : ∃ bs, bs = buf ++ c := ⟨_, rfl⟩
  rw [← hbs] at X3 HA
  have hbl : bs.length ≤ 1000000000 := by rw [hbs, List.length_append]; exact hsz
  have HBL := Lib.hid hbl
  clear hbs hbl hsz
  go_loopg [6] bs.length (fun gk v6 wr => RefAt w g rb bs gk v6 wr)
  case atStart => exact ⟨[], bs, g2, by simp, rfl, by simp, X3.out.1.mono (by simp), X3.out.2, Lists.nil _ _ _ _⟩
  case round =>
    obtain ⟨done, rs, g1, hal, rfl, hrm, hT, hR, hL⟩ := hrel
    obtain ⟨vb, hb, ho⟩ := hR
    obtain ⟨a, cp, rfl⟩ := ho.form
    obtain ⟨la, lc, rfl⟩ := hL.form
    have e0 := (hb.cell 0).1
    have e1 := (hb.cell 1).1
    have f0 := (hb.cell 0).2
    have f1 := (hb.cell 1).2
    simp at e0 e1
    have X := Lib.hid (And.intro hal (And.intro hrm (And.intro hT (And.intro hb (And.intro ho hL)))))
    have r0 : (0 : Int) ≤ (rs.length : Int) := by omega
    have r1 : (rs.length : Int) ≤ 1000000000 := by have := HBL.out; omega
    clear hal hrm hT hb hL X3
    by_cases h4 : rs.length < 4
    · have r4 : (rs.length : Int) < 4 := by omega
      have HS := Lib.hid (Fr.all_short rs h4)
      clear h4 ho
      go_wp2_with fail
      have hal := X.out.1
      rw [HS.out, HA.out.1] at hal
      simp only [List.append_nil] at hal
      cases hal
      have hn : n = 0 := by have := HA.out.2; simpa using this.symm
      rw [← hn]
      exact H.out la lc wr g1 X.out.2.2.1 X.out.2.2.2.2.2 ⟨_, X.out.2.2.2.1, X.out.2.2.2.2.1⟩
    · have r4 : (4 : Int) ≤ (rs.length : Int) := by omega
      obtain ⟨b, off, cap', hv, hgb, hcap, hcm, hbl, hc⟩ := ho.cell (by omega)
      cases hv
      have cell : ∀ i, i < 4 → ∃ x : UInt8, rs[i]?.getD 0 = x ∧ wr.cell? ⟨b, off + i, none⟩ = some (.int .u8 (x.toNat : Int)) := by
        intro i hi
        refine ⟨rs[i]'(by omega), by rw [List.getElem?_eq_getElem (by omega)]; rfl, ?_⟩
        rw [(hc i (by omega)).1, List.getElem?_map, List.getElem?_eq_getElem (by omega)]; rfl
      obtain ⟨x0, y0, z0⟩ := cell 0 (by decide)
      obtain ⟨x1, y1, z1⟩ := cell 1 (by decide)
      obtain ⟨x2, y2, z2⟩ := cell 2 (by decide)
      obtain ⟨x3, y3, z3⟩ := cell 3 (by decide)
      rw [Nat.add_zero] at z0
      have hnum : (Fr.num4 rs : Int) = (x0.toNat : Int) * 16777216 + (x1.toNat : Int) * 65536 + (x2.toNat : Int) * 256 + (x3.toNat : Int) := by
        unfold Fr.num4; rw [y0, y1, y2, y3]; omega
      have HN := Lib.hid hnum
      have b0 := x0.toNat_lt
      have b1 := x1.toNat_lt
      have b2 := x2.toNat_lt
      have b3 := x3.toNat_lt
      obtain ⟨q0, hq0⟩ : ∃ q0 : Int, q0 = (x0.toNat : Int) := ⟨_, rfl⟩
      obtain ⟨q1, hq1⟩ : ∃ q1 : Int, q1 = (x1.toNat : Int) := ⟨_, rfl⟩
      obtain ⟨q2, hq2⟩ : ∃ q2 : Int, q2 = (x2.toNat : Int) := ⟨_, rfl⟩
      obtain ⟨q3, hq3⟩ : ∃ q3 : Int, q3 = (x3.toNat : Int) := ⟨_, rfl⟩
      rw [← hq0] at z0 HN
      rw [← hq1] at z1 HN
      rw [← hq2] at z2 HN
      rw [← hq3] at z3 HN
      have u0 : 0 ≤ q0 ∧ q0 < 256 := by omega
      have u1 : 0 ≤ q1 ∧ q1 < 256 := by omega
      have u2 : 0 ≤ q2 ∧ q2 < 256 := by omega
      have u3 : 0 ≤ q3 ∧ q3 < 256 := by omega
      clear y0 y1 y2 y3 hq0 hq1 hq2 hq3 b0 b1 b2 b3 hnum cell hc
      have k0 : IntKind.i64.wrap q0 = q0 := IntWalk.i64_in _ (by omega)
      have k1 : IntKind.i64.wrap q1 = q1 := IntWalk.i64_in _ (by omega)
      have k2 : IntKind.i64.wrap q2 = q2 := IntWalk.i64_in _ (by omega)
      have k3 : IntKind.i64.wrap q3 = q3 := IntWalk.i64_in _ (by omega)
      have m0 : IntKind.i64.wrap (q0 * 16777216) = q0 * 16777216 := IntWalk.i64_in _ (by omega)
      have m1 : IntKind.i64.wrap (q1 * 65536) = q1 * 65536 := IntWalk.i64_in _ (by omega)
      have m2 : IntKind.i64.wrap (q2 * 256) = q2 * 256 := IntWalk.i64_in _ (by omega)
      have s1 : IntKind.i64.wrap (q0 * 16777216 + q1 * 65536) = q0 * 16777216 + q1 * 65536 := IntWalk.i64_in _ (by omega)
      have s2 : IntKind.i64.wrap (q0 * 16777216 + q1 * 65536 + q2 * 256) = q0 * 16777216 + q1 * 65536 + q2 * 256 := IntWalk.i64_in _ (by omega)
      have s3 : IntKind.i64.wrap (q0 * 16777216 + q1 * 65536 + q2 * 256 + q3) = q0 * 16777216 + q1 * 65536 + q2 * 256 + q3 := IntWalk.i64_in _ (by omega)
      obtain ⟨d, hd⟩ : ∃ d, d = Fr.num4 rs := ⟨_, rfl⟩
      rw [← hd] at HN
      go_upto_region 6 with fail
      go_cut [7] (fun v7 wx => v7 = .int .i64 (d : Int) ∧ ∃ nq, wx = wr.drewN nq)
      case first =>
        go_wp2_with fail
        go_quiet (fail)
        rw [← HN.out]
        go_wp2_with fail
        go_meet
        case rel => exact ⟨rfl, _, rfl⟩
      case rest =>
      obtain ⟨rfl, nq, rfl⟩ := hcut
      clear k0 k1 k2 k3 m0 m1 m2 s1 s2 s3 z0 z1 z2 z3
      have HD := Lib.hid hd
      clear hd HN u0 u1 u2 u3
      have d0 : (0 : Int) ≤ (d : Int) := by omega
      have T5 := Turn.drewN wr g1 nq
      have hcell : ∀ a, (wr.drewN nq).cell? a = wr.cell? a := fun a => by unfold World.cell?; rw [heap_drewN']
      have hfroz : ∀ a, (wr.drewN nq).frozen? a = wr.frozen? a := fun a => by unfold World.frozen?; rw [heap_drewN']
      have e0' := (hcell _).trans e0
      have e1' := (hcell _).trans e1
      have f0' := (hfroz _).trans f0
      have f1' := (hfroz _).trans f1
      have X5 := Lib.hid (And.intro X.out.1 (And.intro X.out.2.1 (And.intro (X.out.2.2.1.trans T5 (V := [730, 731, 732, 733]) (fun _ h => h) (by simp)) (And.intro (X.out.2.2.2.1.turn T5 (by simp)) (And.intro (X.out.2.2.2.2.1.turn T5 (by simp)) (X.out.2.2.2.2.2.turn T5 (by simp) (by simp)))))))
      clear hcell hfroz e0 e1 f0 f1 X T5 ho
      obtain ⟨w5, hw5⟩ : ∃ w5, w5 = wr.drewN nq := ⟨_, rfl⟩
      rw [← hw5] at e0' e1' f0' f1' X5 ⊢
      clear hw5
      have h4' : 4 ≤ rs.length := by omega
      by_cases hg : Fr.most < d
      · have g1' : (65536 : Int) < (d : Int) := by unfold Fr.most at hg; omega
        have HS := Lib.hid (Fr.all_great rs h4' (HD.out ▸ hg))
        clear hg h4 h4'
        obtain ⟨T6, B6⟩ := X5.out.2.2.2.1.store 1 (.bool true)
        obtain ⟨T7, B7⟩ := B6.store 0 (.slice none 0 0)
        have X7 := Lib.hid (And.intro ((X5.out.2.2.1.trans T6 (V := [730, 731, 732, 733]) (fun _ h => h) (by simp)).trans T7 (V := [730, 731, 732, 733]) (fun _ h => h) (by simp)) (And.intro B7 ((X5.out.2.2.2.2.2.turn T6 (by simp) (by simp)).turn T7 (by simp) (by simp))))
        clear T6 T7 B6 B7
        go_wp2_with fail
        have hal := X5.out.1
        rw [HS.out, HA.out.1] at hal
        simp only [List.append_nil] at hal
        cases hal
        have hn : n = 3 := by have := HA.out.2; simpa using this.symm
        rw [← hn]
        exact H.out la lc _ g1 X7.out.1 X7.out.2.2 ⟨_, X7.out.2.1, Owns.nil _ _ _ _ _⟩
      · have g1' : (d : Int) ≤ 65536 := by unfold Fr.most at hg; omega
        have hdm : d ≤ Fr.most := by omega
        have w1' : IntKind.i64.wrap (4 + (d : Int)) = 4 + (d : Int) := IntWalk.i64_in _ (by omega)
        by_cases hp : rs.length < 4 + d
        · have g2' : (rs.length : Int) < 4 + (d : Int) := by omega
          have HS := Lib.hid (Fr.all_part rs h4' (HD.out ▸ hdm) (HD.out ▸ hp))
          clear hg h4 h4' hp hdm
          go_wp2_with fail
          have hal := X5.out.1
          rw [HS.out, HA.out.1] at hal
          simp only [List.append_nil] at hal
          cases hal
          have hn : n = 0 := by have := HA.out.2; simpa using this.symm
          rw [← hn]
          exact H.out la lc _ g1 X5.out.2.2.1 X5.out.2.2.2.2.2 ⟨_, X5.out.2.2.2.1, X5.out.2.2.2.2.1⟩
        · have g2' : 4 + (d : Int) ≤ (rs.length : Int) := by omega
          have hp' : 4 + d ≤ rs.length := by omega
          obtain ⟨ad1, hsl, ha1, ha2⟩ := slice_lh (P := Tryd.prog) Tryd.underlying22 (by kernel_rfl) (some ⟨b, off, none⟩) rs.length cp 4 (4 + d) 4 (4 + (d : Int)) rfl (by omega) (by omega) (by omega)
          obtain ⟨ad, rfl, hada⟩ : ∃ ad : Addr, ad1 = some ad ∧ (4 < 4 + d → ad = ⟨b, off + 4, none⟩) := by
            by_cases hcp : 4 < cp
            · exact ⟨_, ha1 hcp, fun _ => add_none _ _ _⟩
            · exact ⟨_, ha2 (by omega), fun h => by omega⟩
          have hB := Bytes.cut X5.out.2.2.2.2.1.bytes 4 (4 + d) (cp - 4) (by omega) hp' ⟨by omega, by omega⟩ hada
          rw [Nat.add_sub_cancel_left] at hsl hB
          have hpl := Fr.length_piece rs (HD.out ▸ hp')
          rw [← HD.out] at hpl
          obtain ⟨pc, hpc⟩ : ∃ pc, pc = (rs.drop 4).take d := ⟨_, rfl⟩
          rw [← hpc] at hB hpl
          have HS := Lib.hid (whole_said h4' hdm hp' HD.out hpc)
          obtain ⟨ad2, hsl2, hb1, hb2⟩ := slice_lk (P := Tryd.prog) Tryd.underlying22 (by kernel_rfl) .i64 (some ⟨b, off, none⟩) rs.length cp (4 + d) (4 + (d : Int)) (by omega) hp'
          have hO2 := X5.out.2.2.2.2.1.behind (4 + d) hp' hb1 hb2
          rw [← List.map_drop] at hO2
          have hsrc := hB.src
          rw [hpl] at hsrc
          have Y := Lib.hid (And.intro hsrc (And.intro hpl (And.intro hpc (And.intro hO2 hp'))))
          have hdl : (done.length : Int) ≤ 1000000000 := by have := X5.out.2.1; have := HBL.out; omega
          have hdl2 : done.length + 1 ≤ 1000000000 := by have := X5.out.2.1; have := HBL.out; omega
          clear hg h4 h4' hp hdm hp' ha1 ha2 hada hB hpl hpc hb1 hb2 hO2 hsrc
          go_upto_region 13 with (first
            | (at_builtin; refine wpList_append _ rfl (.const (.slice none 0 0)) (.tmp 85) rfl u8Elem (v := .slice none 0 0) rfl (Own.nil _ _ _) (y := .slice (some ad) d (cp - 4)) rfl Y.out.1 (byteCells_one _) (by unfold maxLen; omega) (by omega) ?_; intro v6 w6 k6 O6 S6 K6; obtain ⟨a6, c6, hv6, T6, L6⟩ := fresh_piece g1 O6 S6 K6 733; subst hv6; have X6 := Lib.hid (And.intro T6 (And.intro L6 (X5.out.2.2.2.2.2.turn T6 (by simp) (by simp)))); clear O6 S6 K6 T6 L6)
            | (at_builtin; refine append_one rfl (.tmp 78) (.tmp 87) rfl (g := (g1.ext w5.heap.size 733).ext w6.heap.size 734) (t := 732) (t' := 733) (v := .slice la done.length lc) (u := .slice a6 d c6) (k := w6.heap.size) rfl (X6.out.2.2.turn (Turn.alloc _ _ 734 _) (by simp) (by simp)) rfl rfl (X6.out.2.1.turn (Turn.alloc _ _ 734 _) (by simp)) (by decide) hdl2 ?_; intro a7 c7 w7 g7 L7 T7; have X7 := Lib.hid (rcame_more X5.out.2.2.1 X6.out.1 T7 X5.out.2.2.2.1 Y.out.2.2.2.1 L7); clear L7 T7; obtain ⟨e2, e3⟩ := X7.out.1))
          as_aux_lemma =>
            go_wp2_with fail
            generalize w7.setCell ⟨rb, 0, none⟩ (.slice ad2 (rs.length - (4 + d)) (cp - (4 + d))) = w8 at X7 ⊢
            have hal := all_more X5.out.1 HS.out
            have hrm : (done ++ [pc]).length * 4 + (rs.drop (4 + d)).length ≤ bs.length := by
              have := X5.out.2.1; have := Y.out.2.2.2.2; rw [List.length_append, List.length_drop]; simp; omega
            have hlt : (rs.drop (4 + d)).length < rs.length := by have := Y.out.2.2.2.2; rw [List.length_drop]; omega
            have hO : Owns w8 g7 731 bytesU8 1 (.slice ad2 (rs.length - (4 + d)) (cp - (4 + d))) (rs.drop (4 + d)).length ((rs.drop (4 + d)).map byteCell) := by
              have := X7.out.2.2.2.1; rw [List.length_drop]; exact this
            have Z := Lib.hid (And.intro hal (And.intro hrm (And.intro hlt (And.intro hO (And.intro X7.out.2.1 (And.intro X7.out.2.2.1 X7.out.2.2.2.2))))))
            clear hal hrm hlt hO X7 X6 X5 Y HS
            go_roundg ((rs.drop (4 + d)).length)
            case measure => exact Z.out.2.2.1
            case rel => exact ⟨done ++ [pc], rs.drop (4 + d), g7, Z.out.1, rfl, Z.out.2.1, Z.out.2.2.2.2.1, ⟨_, Z.out.2.2.2.2.2.1, Z.out.2.2.2.1⟩, Z.out.2.2.2.2.2.2⟩
end Go.Proofs.YtolkphbnneoloaaDoor
