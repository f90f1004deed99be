/- The statement TreesParses: its walk. -/
import Derived.Test.YtcldcigopkfmmaaGreatDoorRrParseQ
import Derived.Test.YtcldcigopkfmmaaGreatDoorNdSamePQ
import Derived.Test.YtcldcigopkfmmaaGreatDoorGkApartQ
import Derived.Test.YtcldcigopkfmmaaGreatDoorTrD1
namespace Go.Nd
theorem cn_sz' : ∀ xs : Ns, xs.cn ≤ 1 + 3 * xs.sz := by
  intro xs
  induction xs with
  | nil => exact Nat.le_refl _
  | cons k t l b e r i1 i2 i3 i4 =>
    show l.cn + b.cn + e.cn + r.cn ≤ 1 + 3 * (1 + t.length + l.sz + b.sz + e.sz + r.sz)
    omega
theorem fn3_sz' (fs : List Nd.Fn) : (fs.map fn3).sum ≤ 3 * (fs.map fsz).sum := by
  induction fs with
  | nil => exact Nat.le_refl _
  | cons f fs ih =>
    have h := cn_sz' f.body
    have e : fsz f = 1 + f.name.length + (f.args.map (fun x : List UInt8 => x.length + 1)).sum + f.body.sz := rfl
    simp only [List.map_cons, List.sum_cons, fn3]
    omega
theorem pr3_small' {p : Pr} (h : psz p ≤ 140000) : pr3 p ≤ 1000000 := by
  have h1 := fn3_sz' p.funcs
  have h2 := cn_sz' p.body
  unfold psz at h
  unfold pr3
  omega
theorem sum_len {α : Type} (f : α → Nat) (hf : ∀ x, 1 ≤ f x) (l : List α) : l.length ≤ (l.map f).sum := by
  induction l with
  | nil => exact Nat.le_refl _
  | cons a l ih => have := hf a; simp only [List.length_cons, List.map_cons, List.sum_cons]; omega
theorem single_le_sum' {l : List Nat} {a : Nat} (h : a ∈ l) : a ≤ l.sum := by
  induction l with
  | nil => cases h
  | cons b l ih =>
    rw [List.sum_cons]
    rcases List.mem_cons.1 h with rfl | h
    · omega
    · have := ih h; omega
theorem args_small {p : Pr} (h : psz p ≤ 140000) : ∀ f ∈ p.funcs, f.args.length ≤ 1000000000 := by
  intro f hf
  have h1 : fsz f ≤ (p.funcs.map fsz).sum := single_le_sum' (List.mem_map.2 ⟨f, hf, rfl⟩)
  have h2 := sum_len (fun x : List UInt8 => x.length + 1) (fun _ => by omega) f.args
  have e : fsz f = 1 + f.name.length + (f.args.map (fun x : List UInt8 => x.length + 1)).sum + f.body.sz := rfl
  unfold psz at h
  omega
end Go.Nd
namespace Go.Proofs.YtcldcigopkfmmaaGreatDoor
open Go.RowKit Go.My Go.Nd

theorem FsF.lt' {w : World} {F : List Nat} {v : Value} {fs : List Nd.Fn} (h : FsF w F v fs) : ∀ b ∈ F, b < w.heap.size := by
  obtain ⟨els, k, rfl, _, ho, _, hok⟩ := h
  intro b hb
  rcases List.mem_append.1 hb with hb | hb
  · exact ho.lt b (by simpa using hb)
  · obtain ⟨x, hx, hb⟩ := List.mem_flatMap.1 hb
    rcases List.mem_append.1 hb with hb | hb
    · exact (hok x hx).args.lt b hb
    · exact (hok x hx).body.lt b hb

/-- The lists of a program's two copies, each in a block of its own. -/
structure TpSt (w W : World) (p : Pr) (t1 t2 u1 u2 : Value) (F1 F2 G1 G2 : List Nat) : Prop where
  f1 : FsF W F1 t1 p.funcs
  f2 : LF W TN F2 t2 p.body
  g1 : FsF W G1 u1 p.funcs
  g2 : LF W TN G2 u2 p.body
  nodup : (F1 ++ F2 ++ (G1 ++ G2)).Nodup
  new : ∀ b ∈ F1 ++ F2 ++ (G1 ++ G2), w.heap.size ≤ b
theorem TpSt.frame {w W W' : World} {p : Pr} {t1 t2 u1 u2 : Value} {F1 F2 G1 G2 : List Nat} (h : TpSt w W p t1 t2 u1 u2 F1 F2 G1 G2) (hs : ∀ b ∈ F1 ++ F2 ++ (G1 ++ G2), W'.heap[b]? = W.heap[b]?) : TpSt w W' p t1 t2 u1 u2 F1 F2 G1 G2 :=
  ⟨h.f1.frame fun b hb => hs b (by simp [hb]), h.f2.frame fun b hb => hs b (by simp [hb]), h.g1.frame fun b hb => hs b (by simp [hb]), h.g2.frame fun b hb => hs b (by simp [hb]), h.nodup, h.new⟩
theorem TpSt.lt {w W : World} {p : Pr} {t1 t2 u1 u2 : Value} {F1 F2 G1 G2 : List Nat} (h : TpSt w W p t1 t2 u1 u2 F1 F2 G1 G2) : ∀ b ∈ F1 ++ F2 ++ (G1 ++ G2), b < W.heap.size := by
  intro b hb
  rcases List.mem_append.1 hb with hb | hb
  · rcases List.mem_append.1 hb with hb | hb
    · exact h.f1.lt' b hb
    · exact h.f2.lt b hb
  · rcases List.mem_append.1 hb with hb | hb
    · exact h.g1.lt' b hb
    · exact h.g2.lt b hb
theorem TpSt.later {w W W' : World} {p : Pr} {t1 t2 u1 u2 : Value} {F1 F2 G1 G2 : List Nat} (h : TpSt w W p t1 t2 u1 u2 F1 F2 G1 G2) (hb : Below W.heap.size W W') : TpSt w W' p t1 t2 u1 u2 F1 F2 G1 G2 := h.frame fun b hm => hb.block b (h.lt b hm)
theorem tp_st {w w1 w2 w3 : World} {p : Pr} {t1 t2 u1 u2 : Value} (h0 : w.heap.size ≤ w1.heap.size) (h1 : PrR w1 w.heap.size w1.heap.size (.agg #[t1, t2]) p) {n : Nat} (hn : w1.heap.size ≤ n) (h2 : PrR w2 n w2.heap.size (.agg #[u1, u2]) p) (b12 : Below w1.heap.size w1 w2) (b23 : Below w2.heap.size w2 w3) : ∃ F1 F2 G1 G2, TpSt w w3 p t1 t2 u1 u2 F1 F2 G1 G2 := by
  obtain ⟨m, x1, x2, e, l1, l2, ⟨F1, f1, r1⟩, ⟨F2, f2, r2⟩⟩ := h1
  cases e
  obtain ⟨m', y1, y2, e, k1, k2, ⟨G1, g1, q1⟩, ⟨G2, g2, q2⟩⟩ := h2
  cases e
  have b13 := b12.trans (b23.mono b12.size)
  have rr := r1.app r2 l1 l2
  have qq := q1.app q2 k1 k2
  have all := (rr.mono (Nat.le_refl _) hn).app qq (by omega) (Nat.le_trans k1 k2)
  exact ⟨F1, F2, G1, G2, f1.frame fun b hb => b13.block b (by have := (r1.2 b hb).2; omega), f2.frame fun b hb => b13.block b (by have := (r2.2 b hb).2; omega), g1.frame fun b hb => b23.block b (by have := (q1.2 b hb).2; omega), g2.frame fun b hb => b23.block b (by have := (q2.2 b hb).2; omega), all.1, fun b hb => (all.2 b hb).1⟩

set_option maxRecDepth 100000 in
set_option maxHeartbeats 8000000 in
theorem parses_any (w : World) (a : ByteArray) (ha : a.size ≤ 9223372036854775807) (htab : Lib.TabIs Tryz.prog w "internal/strconv.uint64pow10" .u64 Lib.pow10Tab) :
    Calls Tryz.prog 4 #[.string a] w fun e w' => e = .returned (.bool true) ∧ Below w.heap.size w w' := by
  obtain ⟨s, rfl⟩ : ∃ s, a = bs s := ⟨a.data.toList, by apply ByteArray.ext; simp [bs]⟩
  have hs0 := bs_size s
  have HTB := Lib.hid (Lib.tabBelow_of_tabIs htab)
  rw [bs_size] at ha
  have HA := Lib.hid ha
  clear htab ha
  go_enter Tryz.func4, Tryz.ntmps4
  go_upto_region 1 with fail
  go_cut [25] from 13 to 25 (fun v25 wx => wx = w ∧ ∃ b : Bool, v25 = .bool b ∧ (b = false → s.length ≤ 66000))
  case first =>
    have hA := HA.out
    by_cases h1 : 5000 < s.length
    · by_cases h2 : s.length < 65530
      · have i1 : (5000 : Int) < (s.length : Int) := by omega
        have i2 : (s.length : Int) < 65530 := by omega
        clear h1 h2 hA
        go_wp2_with fail
        go_meet
        case rel => exact ⟨rfl, true, rfl, fun e => by cases e⟩
      · have i1 : (5000 : Int) < (s.length : Int) := by omega
        have i2 : (65530 : Int) ≤ (s.length : Int) := by omega
        by_cases h3 : 66000 < s.length
        · have i3 : (66000 : Int) < (s.length : Int) := by omega
          clear h1 h2 h3 hA
          go_wp2_with fail
          go_meet
          case rel => exact ⟨rfl, true, rfl, fun e => by cases e⟩
        · have i3 : (s.length : Int) ≤ 66000 := by omega
          have H3 := Lib.hid (show s.length ≤ 66000 by omega)
          clear h1 h2 h3 hA
          go_wp2_with fail
          go_meet
          case rel => exact ⟨rfl, _, rfl, fun _ => H3.out⟩
    · have i1 : (s.length : Int) ≤ 5000 := by omega
      have i3 : (s.length : Int) ≤ 66000 := by omega
      have H3 := Lib.hid (show s.length ≤ 66000 by omega)
      clear h1 hA
      go_wp2_with fail
      go_meet
      case rel => exact ⟨rfl, _, rfl, fun _ => H3.out⟩
  case rest =>
    obtain ⟨hwc, b, rfl, hbl⟩ := hcut
    obtain rfl : w = _ := hwc.symm
    cases b with
    | true =>
      go_wp2_with fail
      go_ret
      exact ⟨rfl, Below.refl _ _⟩
    | false =>
      have HBL := Lib.hid (hbl rfl)
      clear hbl
      have HBULK := Lib.hid (show psz (parse wrapI s).1 ≤ 140000 by have := parse_bulk wrapI s; have := HBL.out; omega)
      obtain ⟨r, hr⟩ : ∃ r, r = parse wrapI s := ⟨_, rfl⟩
      obtain ⟨p, at_, er⟩ := r
      have HR := Lib.hid hr
      clear hr
      go_wp2_with fail
      refine (parse_t s).mono ?_
      rintro e w1 ⟨hb1, pv, rfl, hp1⟩
      rw [← HR.out] at hp1 ⊢
      simp only at hp1 ⊢
      obtain ⟨a1, c1, a2, c2, rfl⟩ := hp1.form
      obtain ⟨hA1, hn1, hz1⟩ := Put.new w1 #[.slice a1 p.funcs.length c1, .slice a2 p.body.len c2] TPr
      obtain ⟨b1, hb1e⟩ : ∃ b1, b1 = w1.heap.size := ⟨_, rfl⟩
      obtain ⟨w1', hw1⟩ : ∃ w1', w1' = w1.alloc (.cells #[.slice a1 p.funcs.length c1, .slice a2 p.body.len c2] TPr) := ⟨_, rfl⟩
      rw [← hw1] at hA1 hn1 hz1
      rw [← hb1e] at hn1
      have X1 := Lib.hid (And.intro hb1 (And.intro hp1 (And.intro hA1 (And.intro hn1 hz1))))
      clear hb1 hp1 hA1 hn1 hz1
      go_upto_region 4 with fail
      rw [← hw1, ← hb1e]
      clear hw1 hb1e
      go_wp2_with fail
      refine (parse_t s).mono ?_
      rintro e w2 ⟨hb2, pv, rfl, hp2⟩
      rw [← HR.out] at hp2 ⊢
      simp only at hp2 ⊢
      obtain ⟨a3, c3, a4, c4, rfl⟩ := hp2.form
      obtain ⟨hA2, hn2, hz2⟩ := Put.new w2 #[.slice a3 p.funcs.length c3, .slice a4 p.body.len c4] TPr
      obtain ⟨b2, hb2e⟩ : ∃ b2, b2 = w2.heap.size := ⟨_, rfl⟩
      obtain ⟨w2', hw2⟩ : ∃ w2', w2' = w2.alloc (.cells #[.slice a3 p.funcs.length c3, .slice a4 p.body.len c4] TPr) := ⟨_, rfl⟩
      rw [← hw2] at hA2 hn2 hz2
      rw [← hb2e] at hn2
      have X2 := Lib.hid (And.intro hb2 (And.intro hp2 (And.intro hA2 (And.intro hn2 hz2))))
      clear hb2 hp2 hA2 hn2 hz2
      go_upto_region 5 with fail
      rw [← hw2, ← hb2e]
      have HB2 := Lib.hid hb2e
      clear hw2 hb2e
      go_wp2_with fail
      refine (rparse_t s).mono ?_
      rintro e w3 ⟨hb3, pv, rfl, hp3⟩
      rw [← HR.out] at hp3 ⊢
      simp only at hp3 ⊢
      obtain ⟨a5, c5, a6, c6, rfl⟩ := hp3.form
      obtain ⟨hA3, hn3, hz3⟩ := Put.new w3 #[.slice a5 p.funcs.length c5, .slice a6 p.body.len c6] TPr
      obtain ⟨b3, hb3e⟩ : ∃ b3, b3 = w3.heap.size := ⟨_, rfl⟩
      obtain ⟨w4, hw4⟩ : ∃ w4, w4 = w3.alloc (.cells #[.slice a5 p.funcs.length c5, .slice a6 p.body.len c6] TPr) := ⟨_, rfl⟩
      rw [← hw4] at hA3 hn3 hz3
      rw [← hb3e] at hn3
      have z1 := X1.out.1.size
      have z1' := X1.out.2.2.1.size
      have z2 := X2.out.1.size
      have z2' := X2.out.2.2.1.size
      have z3 := hb3.size
      have z3' := hA3.size
      have b24 : Below w2.heap.size w2 w4 := (X2.out.2.2.1.trans (hb3.mono z2')).trans (hA3.mono (by omega))
      have b14 : Below w1.heap.size w1 w4 := (X1.out.2.2.1.trans (X2.out.1.mono z1')).trans (b24.mono (by omega))
      have b04 : Below w.heap.size w w4 := X1.out.1.trans (b14.mono z1)
      have row1 : w4.heap[b1]? = some (.cells #[.slice a1 p.funcs.length c1, .slice a2 p.body.len c2] TPr (0, 0)) := (b24.block b1 (by have := heap_lt X1.out.2.2.2.1; omega)).trans ((X2.out.1.block b1 (heap_lt X1.out.2.2.2.1)).trans X1.out.2.2.2.1)
      have row2' : w4.heap[b2]? = some (.cells #[.slice a3 p.funcs.length c3, .slice a4 p.body.len c4] TPr (0, 0)) := ((hb3.trans (hA3.mono z3)).block b2 (heap_lt X2.out.2.2.2.1)).trans X2.out.2.2.2.1
      have hn4 : w4.heap.size = w3.heap.size + 1 := hz3
      obtain ⟨F1, F2, G1, G2, hst⟩ := tp_st z1 X1.out.2.1 (n := w1'.heap.size) z1' X2.out.2.1 (X1.out.2.2.1.trans (X2.out.1.mono z1')) b24
      have hpr1 : PrR w4 w.heap.size w4.heap.size (.agg #[.slice a1 p.funcs.length c1, .slice a2 p.body.len c2]) p := (X1.out.2.1.frame fun b _ q2 => b14.block b q2).mono (Nat.le_refl _) (by omega)
      have hpr2 : PrR w4 w.heap.size w4.heap.size (.agg #[.slice a3 p.funcs.length c3, .slice a4 p.body.len c4]) p := (X2.out.2.1.frame fun b _ q2 => b24.block b q2).mono (by omega) (by omega)
      have hpr3 : PrR w4 w.heap.size w4.heap.size (.agg #[.slice a5 p.funcs.length c5, .slice a6 p.body.len c6]) p := (hp3.frame fun b _ q2 => hA3.block b q2).mono (by omega) (by omega)
      have HP1 := Lib.hid (hpr1.parts (· < w4.heap.size) fun b _ h => h)
      have HP2 := Lib.hid (hpr2.parts (· < w4.heap.size) fun b _ h => h)
      have HP3 := Lib.hid (hpr3.parts (· < w4.heap.size) fun b _ h => h)
      have HBW := Lib.hid (show w.heap.size ≤ b2 by have := HB2.out; omega)
      have X4 := Lib.hid (And.intro b04 (And.intro row1 (And.intro row2' (And.intro hn3 hst))))
      have HC := Lib.hid (fun (W : World) (hW : Below w4.heap.size w4 W) => show (W.cell? ⟨b1, 0, none⟩ = some (.slice a1 p.funcs.length c1) ∧ W.cell? ⟨b1, 1, none⟩ = some (.slice a2 p.body.len c2)) ∧ (W.cell? ⟨b2, 0, none⟩ = some (.slice a3 p.funcs.length c3) ∧ W.cell? ⟨b2, 1, none⟩ = some (.slice a4 p.body.len c4)) ∧ W.cell? ⟨b3, 0, none⟩ = some (.slice a5 p.funcs.length c5) ∧ W.cell? ⟨b3, 1, none⟩ = some (.slice a6 p.body.len c6) from
        ⟨⟨(row2 ((hW.block _ (heap_lt row1)).trans row1)).1, (row2 ((hW.block _ (heap_lt row1)).trans row1)).2.1⟩, ⟨(row2 ((hW.block _ (heap_lt row2')).trans row2')).1, (row2 ((hW.block _ (heap_lt row2')).trans row2')).2.1⟩, (row2 ((hW.block _ (heap_lt hn3)).trans hn3)).1, (row2 ((hW.block _ (heap_lt hn3)).trans hn3)).2.1⟩)
      clear hb3 hp3 hA3 hn3 hz3 z1 z1' z2 z2' z3 z3' b24 b14 b04 row1 row2' hn4 hst hpr1 hpr2 hpr3
      go_upto_region 6 with fail
      rw [← hw4, ← hb3e]
      clear hw4 hb3e
      obtain ⟨⟨q0, q1⟩, ⟨q2, q3⟩, q4, q5⟩ := HC.out w4 (Below.refl _ _)
      go_wp2_with fail
      clear q0 q1 q2 q3 q4 q5
      refine (sameProg_t (Nat.le_refl w4.heap.size) HP1.out.1 HP1.out.2 HP3.out.1 HP3.out.2).mono ?_
      rintro e w5 ⟨rfl, hb5⟩
      have K5 := Lib.hid hb5
      obtain ⟨⟨q0, q1⟩, ⟨q2, q3⟩, q4, q5⟩ := HC.out w5 hb5
      clear hb5
      go_wp2_with fail
      clear q0 q1 q2 q3 q4 q5
      refine (sameProg_t K5.out.size (HP2.out.1.below K5.out) (HP2.out.2.below K5.out) (HP3.out.1.below K5.out) (HP3.out.2.below K5.out)).mono ?_
      rintro e w6 ⟨rfl, hb6⟩
      have K6 := Lib.hid (K5.out.trans (hb6.mono K5.out.size))
      clear hb6
      have B12 := Lib.hid (X4.out.1.trans (K6.out.mono X4.out.1.size))
      have ST12 := Lib.hid (X4.out.2.2.2.2.later K6.out)
      obtain ⟨g12, hg12⟩ : ∃ g12, g12 = Tags.ext (fun _ => 0) w.heap.size 1 := ⟨_, rfl⟩
      have S12 := Lib.hid (show Since w w6 g12 from ⟨B12.out, fun b hb => by rw [hg12]; exact Tags.ext_old _ _ _ _ hb⟩)
      have TB12 : Tab w6 g12 := ⟨w.heap.size, HTB.out.on B12.out, S12.out.zero, B12.out.size⟩
      have G12 := Lib.hid (show ∀ b ∈ F1 ++ F2 ++ (G1 ++ G2), g12 b = 1 from fun b hb => by rw [hg12]; exact Tags.ext_new _ _ _ _ (ST12.out.new b hb))
      have B2L := Lib.hid (show b2 < w6.heap.size by have := heap_lt X4.out.2.2.1; have := K6.out.size; omega)
      have GB12 := Lib.hid (show g12 b2 = 1 by rw [hg12]; exact Tags.ext_new _ _ _ _ HBW.out)
      have hbk := bk3_new w6 g12 TB12
      have T13 := Turn.alloc w6 g12 801 (.cells #[.int .i64 0, .slice none 0 0, .slice none 0 0, .slice none 0 0, .slice none 0 0, .slice none 0 0, .slice none 0 0, .slice none 0 0, .slice none 0 0, .slice none 0 0, .slice none 0 0, .slice none 0 0, .slice none 0 0] 40)
      have K13 := Lib.hid (K6.out.alloc K6.out.size (.cells #[.int .i64 0, .slice none 0 0, .slice none 0 0, .slice none 0 0, .slice none 0 0, .slice none 0 0, .slice none 0 0, .slice none 0 0, .slice none 0 0, .slice none 0 0, .slice none 0 0, .slice none 0 0, .slice none 0 0] 40))
      have ST13 := Lib.hid (ST12.out.later (Below.alloc (Below.refl w6.heap.size w6) (Nat.le_refl _) (.cells #[.int .i64 0, .slice none 0 0, .slice none 0 0, .slice none 0 0, .slice none 0 0, .slice none 0 0, .slice none 0 0, .slice none 0 0, .slice none 0 0, .slice none 0 0, .slice none 0 0, .slice none 0 0, .slice none 0 0] 40)))
      have S13 := Lib.hid (S12.out.turn T13 (by simp))
      have G13 := Lib.hid (show ∀ b ∈ F1 ++ F2 ++ (G1 ++ G2), (g12.ext w6.heap.size 801) b = 1 from fun b hb => by rw [Tags.ext_old _ _ _ _ (ST12.out.lt b hb)]; exact G12.out b hb)
      have GB13 := Lib.hid (show (g12.ext w6.heap.size 801) b2 = 1 by rw [Tags.ext_old _ _ _ _ B2L.out]; exact GB12.out)
      have BK := Lib.hid hbk
      obtain ⟨kp, hkp⟩ : ∃ kp, kp = w6.heap.size := ⟨_, rfl⟩
      rw [← hkp] at BK S13 G13 GB13
      clear hbk T13 TB12 hg12
      go_upto_region 9 with fail
      rw [← hkp]
      generalize w6.alloc (.cells #[.int .i64 0, .slice none 0 0, .slice none 0 0, .slice none 0 0, .slice none 0 0, .slice none 0 0, .slice none 0 0, .slice none 0 0, .slice none 0 0, .slice none 0 0, .slice none 0 0, .slice none 0 0, .slice none 0 0] 40) = w13 at *
      generalize g12.ext kp 801 = g13 at *
      clear hkp
      obtain ⟨⟨q0, q1⟩, _, _⟩ := HC.out w13 K13.out
      have HP3' := Lib.hid (And.intro (pr3_small' (p := p) (by have := HBULK.out; rw [← HR.out] at this; exact this)) (args_small (p := p) (by have := HBULK.out; rw [← HR.out] at this; exact this)))
      go_wp2_with fail
      clear q0 q1
      refine prog_add BK.out ST13.out.f1 HP3'.out.2 ST13.out.f2 ST13.out.f1.lt' (fun b hb => by rw [G13.out b (List.mem_append_left _ hb)]; decide) (by have := HP3'.out.1; omega) fun w14 g14 cs14 eT eN eF T14 B14 H14 => ?_
      have hlow : ∀ b ∈ F1 ++ F2 ++ (G1 ++ G2), w14.heap[b]? = w13.heap[b]? := fun b hb => T14.block b (ST13.out.lt b hb) (by rw [G13.out b hb]; decide)
      have ST14 := Lib.hid (ST13.out.frame hlow)
      have G14 := Lib.hid (show ∀ b ∈ F1 ++ F2 ++ (G1 ++ G2), g14 b = 1 from fun b hb => (T14.old b (ST13.out.lt b hb)).trans (G13.out b hb))
      have S14 := Lib.hid (S13.out.turn T14 (by decide))
      have X14 := Lib.hid (And.intro B14 H14)
      have hr2 := K13.out.block b2 (heap_lt X4.out.2.2.1)
      have hr14 := (T14.block b2 (by have := heap_lt X4.out.2.2.1; have := K13.out.size; omega) (by rw [GB13.out]; decide)).trans (hr2.trans X4.out.2.2.1)
      obtain ⟨q2, q3, _, _⟩ := row2 hr14
      clear T14 B14 H14 hlow hr2 hr14 BK
      go_wp2_with fail
      clear q2 q3
      refine prog_add X14.out.1 ST14.out.g1 HP3'.out.2 ST14.out.g2 ST14.out.g1.lt' (fun b hb => by rw [G14.out b (List.mem_append_right _ hb)]; decide) (by have := HP3'.out.1; omega) fun w15 g15 cs15 eT' eN' eF' T15 B15 H15 => ?_
      have hlow : ∀ b ∈ F1 ++ F2 ++ (G1 ++ G2), w15.heap[b]? = w14.heap[b]? := fun b hb => T15.block b (ST14.out.lt b hb) (by rw [G14.out b hb]; decide)
      have G15 := Lib.hid (show ∀ b ∈ F1 ++ F2 ++ (G1 ++ G2), g15 b = 1 from fun b hb => (T15.old b (ST14.out.lt b hb)).trans (G14.out b hb))
      have S15 := Lib.hid (S14.out.turn T15 (by decide))
      have HH := Lib.hid ((X14.out.2.frame fun b hb => hlow b (List.mem_append_left _ hb)).app H15)
      have B15' := Lib.hid B15
      clear T15 B15 H15 hlow X14
      go_wp2_with fail
      refine bk3_apart B15'.out (by simpa using HH.out) ST14.out.nodup (fun b hb => by rw [G15.out b hb]; decide) S15.out fun w17 hb17 => ?_
      have B17 := Lib.hid hb17
      clear hb17
      go_wp2_with fail
      go_ret
      exact ⟨rfl, B17.out⟩
end Go.Proofs.YtcldcigopkfmmaaGreatDoor
