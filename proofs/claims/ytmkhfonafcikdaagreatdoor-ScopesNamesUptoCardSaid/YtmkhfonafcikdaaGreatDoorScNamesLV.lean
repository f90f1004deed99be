/- The statement ScopesNames: its walk. -/
import Derived.Test.YtmkhfonafcikdaaGreatDoorGkApartV
import Derived.Test.YtmkhfonafcikdaaGreatDoorTrC3
import Derived.Test.YtmkhfonafcikdaaGreatDoorTwFV
import Derived.Test.YtmkhfonafcikdaaGreatDoorTwL3V
import Derived.Test.YtmkhfonafcikdaaGreatDoorScLocV
import Derived.Test.YtmkhfonafcikdaaGreatDoorScRLocV
import Derived.Test.YtmkhfonafcikdaaGreatDoorScLibV
import Derived.Test.YtmkhfonafcikdaaGreatDoorScRefLV
import Derived.Test.YtmkhfonafcikdaaGreatDoorScSameV
import Derived.Test.YtmkhfonafcikdaaGreatDoorScLenV
namespace Go.Nd
theorem cn_sz : ∀ xs : Ns, xs.cn ≤ 1 + 3 * xs.sz := by
  intro xs
  induction xs with
  | nil => exact Nat.le_refl _
  | cons k t l b e r i1 i2 i3 i4 =>
    show l.cn + b.cn + e.cn + r.cn ≤ 1 + 3 * (1 + t.length + l.sz + b.sz + e.sz + r.sz)
    omega
theorem fn3_sz (fs : List Nd.Fn) : (fs.map fn3).sum ≤ 3 * (fs.map fsz).sum := by
  induction fs with
  | nil => exact Nat.le_refl _
  | cons f fs ih =>
    have h := cn_sz f.body
    have e : fsz f = 1 + f.name.length + (f.args.map (fun x : List UInt8 => x.length + 1)).sum + f.body.sz := rfl
    simp only [List.map_cons, List.sum_cons, fn3]
    omega
theorem pr3_small {p : Pr} (h : psz p ≤ 1048576) : pr3 p ≤ 4000000 := by
  have h1 := fn3_sz p.funcs
  have h2 := cn_sz p.body
  unfold psz at h
  unfold pr3
  omega
end Go.Nd
namespace Go.Proofs.YtmkhfonafcikdaaGreatDoor
open Go.RowKit Go.My Go.Nd

theorem heap_lt2 {w : World} {b : Nat} {o : Obj} (h : w.heap[b]? = some o) : b < w.heap.size := (Array.getElem?_eq_some_iff.1 h).1
theorem FsF.lt {w : World} {F : List Nat} {v : Value} {fs : List Nd.Fn} (h : FsF w F v fs) : ∀ b ∈ F, b < w.heap.size := by
  obtain ⟨els, k, rfl, _, ho, _, hok⟩ := h
  intro b hb
  rcases List.mem_append.1 hb with hb | hb
  · exact ho.lt b (by simpa using hb)
  · obtain ⟨x, hx, hb⟩ := List.mem_flatMap.1 hb
    rcases List.mem_append.1 hb with hb | hb
    · exact (hok x hx).args.lt b hb
    · exact (hok x hx).body.lt b hb
/-- The lists that the law tells its book: a program's, and two of texts, each in a block of its own. -/
structure NmSt (w0 W : World) (p : Pr) (L : List Tx) (t1 t2 va vb : Value) (F1 F2 : List Nat) (ka kb : Option Nat) : Prop where
  f : FsF W F1 t1 p.funcs
  b : LF W TN F2 t2 p.body
  a1 : Go.My.Own W 9 1 va L.length (strCells L) ka
  a2 : Go.My.Own W 9 1 vb L.length (strCells L) kb
  nodup : (F1 ++ F2 ++ ka.toList ++ kb.toList).Nodup
  new : ∀ b ∈ F1 ++ F2 ++ ka.toList ++ kb.toList, w0.heap.size ≤ b
theorem NmSt.frame {w0 W W' : World} {p : Pr} {L : List Tx} {t1 t2 va vb : Value} {F1 F2 : List Nat} {ka kb : Option Nat} (h : NmSt w0 W p L t1 t2 va vb F1 F2 ka kb) (hs : ∀ b ∈ F1 ++ F2 ++ ka.toList ++ kb.toList, W'.heap[b]? = W.heap[b]?) : NmSt w0 W' p L t1 t2 va vb F1 F2 ka kb :=
  ⟨h.f.frame fun b hb => hs b (by simp [hb]), h.b.frame fun b hb => hs b (by simp [hb]), h.a1.frame fun b hb => hs b (by simp [hb]), h.a2.frame fun b hb => hs b (by simp [hb]), h.nodup, h.new⟩
theorem NmSt.lt {w0 W : World} {p : Pr} {L : List Tx} {t1 t2 va vb : Value} {F1 F2 : List Nat} {ka kb : Option Nat} (h : NmSt w0 W p L t1 t2 va vb F1 F2 ka kb) : ∀ b ∈ F1 ++ F2 ++ ka.toList ++ kb.toList, b < W.heap.size := by
  intro b hb
  rcases List.mem_append.1 hb with hb | hb
  · rcases List.mem_append.1 hb with hb | hb
    · rcases List.mem_append.1 hb with hb | hb
      · exact h.f.lt b hb
      · exact h.b.lt b hb
    · exact h.a1.lt b (by simpa using hb)
  · exact h.a2.lt b (by simpa using hb)
theorem NmSt.later {w0 W W' : World} {p : Pr} {L : List Tx} {t1 t2 va vb : Value} {F1 F2 : List Nat} {ka kb : Option Nat} (h : NmSt w0 W p L t1 t2 va vb F1 F2 ka kb) (hb : Below W.heap.size W W') : NmSt w0 W' p L t1 t2 va vb F1 F2 ka kb :=
  h.frame fun b hm => hb.block b (h.lt b hm)
theorem nm_st {w0 w1 w2 w4 w5 w6 : World} {g5 g6 : Tags} {p : Pr} {L : List Tx} {t1 t2 va vb : Value} {m0 m1 m2 : Nat} (h0 : w0.heap.size ≤ w1.heap.size) (i1 : w1.heap.size ≤ m0) (i2 : m0 ≤ m1) (i3 : m1 ≤ m2) (i4 : m2 ≤ w2.heap.size)
    (hf : FsR w2 m0 m1 t1 p.funcs) (hl : LR w2 TN m1 m2 t2 p.body) (hb24 : Below w2.heap.size w2 w4) (S5 : Since w4 w5 g5) (O5 : Owns w5 g5 701 9 1 va L.length (strCells L)) (S6 : Since w5 w6 g6) (O6 : Owns w6 g6 701 9 1 vb L.length (strCells L)) :
    ∃ F1 F2 ka kb, NmSt w0 w6 p L t1 t2 va vb F1 F2 ka kb := by
  obtain ⟨F1, f1, r1⟩ := hf
  obtain ⟨F2, f2, r2⟩ := hl
  obtain ⟨ka, a1, b1⟩ := O5
  obtain ⟨kb, a2, b2⟩ := O6
  have h24 := hb24.size
  have h45 := S5.below.size
  have h26 : Below w2.heap.size w2 w6 := hb24.trans ((S5.below.trans (S6.below.mono h45)).mono h24)
  have r12 : InR m0 m2 (F1 ++ F2) := r1.app r2 i2 i3
  have ra : ∀ b ∈ ka.toList, w4.heap.size ≤ b ∧ b < w5.heap.size := fun b hb => by
    have hb' : ka = some b := by simpa using hb
    exact ⟨Nat.le_of_not_lt fun hlt => by have := S5.zero b hlt; have := b1 b hb'; omega, a1.lt b hb'⟩
  have rb : ∀ b ∈ kb.toList, w5.heap.size ≤ b ∧ b < w6.heap.size := fun b hb => by
    have hb' : kb = some b := by simpa using hb
    exact ⟨Nat.le_of_not_lt fun hlt => by have := S6.zero b hlt; have := b2 b hb'; omega, a2.lt b hb'⟩
  have q1 : InR w4.heap.size w5.heap.size ka.toList := ⟨by cases ka <;> simp, ra⟩
  have q2 : InR w5.heap.size w6.heap.size kb.toList := ⟨by cases kb <;> simp, rb⟩
  have qall := (((r12.mono (Nat.le_refl _) (show m2 ≤ w4.heap.size by omega)).app q1 (by omega) h45).app q2 (by omega) S6.below.size)
  exact ⟨F1, F2, ka, kb, f1.frame fun b hb => h26.block b (by have := (r1.2 b hb).2; omega), f2.frame fun b hb => h26.block b (by have := (r2.2 b hb).2; omega), a1.frame fun b hb => S6.below.block b (a1.lt b hb), a2, qall.1, fun b hb => by have := (qall.2 b hb).1; omega⟩
/-- The end of it: the book is told all of them, and finds them apart. -/
theorem held_nm {w0 W : World} {p : Pr} {L : List Tx} {t1 t2 : Value} {aa ab : Option Addr} {ca cb n1 n2 : Nat} {F1 F2 : List Nat} {ka kb : Option Nat} {eT eN eF : List Ent} (h : NmSt w0 W p L t1 t2 (.slice aa L.length ca) (.slice ab L.length cb) F1 F2 ka kb) (hH : Held3 W eT eN eF (F1 ++ F2)) :
    Held3 W (eT ++ [⟨aa, L.length, ca, none, 0, 0, n1⟩] ++ [⟨ab, L.length, cb, none, 0, 0, n2⟩]) eN eF (F1 ++ F2 ++ ka.toList ++ kb.toList) := by
  have k1 := (HeldK.one (κ := kText) (e := ⟨aa, L.length, ca, none, 0, 0, n1⟩) h.a1).text
  have k2 := (HeldK.one (κ := kText) (e := ⟨ab, L.length, cb, none, 0, 0, n2⟩) h.a2).text
  have := (hH.app k1).app k2
  simpa using this

set_option maxRecDepth 100000 in
set_option maxHeartbeats 8000000 in
theorem names_any (w : World) (v1 v2 : Value) (p : Pr) (h1 : FuncsIn w (fun b => b < w.heap.size) false v1 p.funcs) (h2 : Nodes w (fun b => b < w.heap.size) false v2 p.body) (hps : psz p ≤ 1048576) (f : Int) (s : Tx) (hs : s.length ≤ 140737488351232)
    (htab : Lib.TabIs Tryz.prog w "internal/strconv.uint64pow10" .u64 Lib.pow10Tab) :
    Calls Tryz.prog 4 #[.agg #[v1, v2], .int .i64 f, .string (bs s)] w fun e w' => e = .returned (.bool true) ∧ Below w.heap.size w w' := by
  have hA := Below.alloc (Below.refl w.heap.size w) (Nat.le_refl _) (.cells #[v1, v2] 25)
  obtain ⟨bx, hbx⟩ : ∃ bx, bx = w.heap.size := ⟨_, rfl⟩
  obtain ⟨w0, hw0⟩ : ∃ w0, w0 = w.alloc (.cells #[v1, v2] 25) := ⟨_, rfl⟩
  have hbox : ∀ w1, Below w0.heap.size w0 w1 → w1.cell? ⟨bx, 0, none⟩ = some v1 ∧ w1.cell? ⟨bx, 1, none⟩ = some v2 := by
    intro w1 hb1
    rw [hw0] at hb1
    rw [hbx]
    have q2 := box_later hb1 0
    have q3 := box_later hb1 1
    simp at q2 q3
    exact ⟨q2, q3⟩
  rw [← hw0] at hA
  have HX := Lib.hid hbox
  have Y0 := Lib.hid hA
  have N1 := Lib.hid (h1.below hA)
  have N2 := Lib.hid (h2.below hA)
  obtain ⟨B, hBe⟩ : ∃ B, B = w.heap.size := ⟨_, rfl⟩
  rw [← hBe] at N1 N2
  have HB := Lib.hid (show B ≤ w0.heap.size from hBe ▸ hA.size)
  clear hBe
  obtain ⟨a1, c1, rfl⟩ := h1.form
  obtain ⟨a2, c2, rfl⟩ := h2.form
  have HSM := Lib.hid (small_of_psz hps)
  have HP3 := Lib.hid (pr3_small hps)
  have HS := Lib.hid hs
  have HTB := Lib.hid (Lib.tabBelow_of_tabIs htab)
  clear hbox hA h1 h2 hps hs htab
  go_enter Tryz.func4, Tryz.ntmps4
  go_upto_region 1 with fail
  rw [← hbx, ← hw0]
  clear hbx hw0
  obtain ⟨q2, q3⟩ := HX.out w0 (Below.refl _ _)
  go_wp2_with fail
  refine (progSize_t HB.out N1.out N2.out).mono ?_
  rintro e w1 ⟨m, rfl, hb⟩
  have K := Lib.hid hb
  clear q2 q3
  obtain ⟨q2, q3⟩ := HX.out w1 hb
  clear hb
  by_cases hm : m ≤ 2000
  · go_wp2_with fail
    refine twin_prog (p := p) (Nat.le_trans HB.out K.out.size) (N1.out.below (K.out.mono HB.out)) (N2.out.below (K.out.mono HB.out)) fun t1 t2 w2 hb2 f1 f2 hmm => ?_
    obtain ⟨u1, k1, rfl⟩ := FuncsIn.form f1
    obtain ⟨u2, k2, rfl⟩ := Nodes.form f2
    have K2 := K.out.trans (hb2.mono K.out.size)
    have hA2 := Below.alloc (Below.refl w2.heap.size w2) (Nat.le_refl _) (.cells #[.slice u1 p.funcs.length k1, .slice u2 p.body.len k2] 25)
    obtain ⟨bz, hbz⟩ : ∃ bz, bz = w2.heap.size := ⟨_, rfl⟩
    obtain ⟨w4, hw4⟩ : ∃ w4, w4 = w2.alloc (.cells #[.slice u1 p.funcs.length k1, .slice u2 p.body.len k2] 25) := ⟨_, rfl⟩
    have hnew : w4.heap[bz]? = some (.cells #[.slice u1 p.funcs.length k1, .slice u2 p.body.len k2] 25 (0, 0)) := by rw [hw4, hbz]; exact heap_alloc_new w2 _
    rw [← hw4] at hA2
    have K4 := K2.trans (hA2.mono K2.size)
    have HF := Lib.hid (show (∀ W, Below w4.heap.size w4 W → FuncsIn W (· < w4.heap.size) true (.slice u1 p.funcs.length k1) p.funcs ∧ Nodes W (· < w4.heap.size) true (.slice u2 p.body.len k2) p.body ∧ FuncsIn W (· < w4.heap.size) false (.slice a1 p.funcs.length c1) p.funcs ∧ Nodes W (· < w4.heap.size) false (.slice a2 p.body.len c2) p.body) from fun W hW =>
      ⟨(FuncsIn.mono (T := (· < w4.heap.size)) (f1.later hA2) fun b hb _ => hb).below hW, (Nodes.mono (T := (· < w4.heap.size)) (f2.later hA2) fun b hb _ => hb).below hW, (FuncsIn.mono (T := (· < w4.heap.size)) (N1.out.below (K4.mono HB.out)) fun b hb _ => hb).below hW, (Nodes.mono (T := (· < w4.heap.size)) (N2.out.below (K4.mono HB.out)) fun b hb _ => hb).below hW⟩)
    have HC := Lib.hid (fun (W : World) (hW : Below w4.heap.size w4 W) => show (W.cell? ⟨bx, 0, none⟩ = some (.slice a1 p.funcs.length c1) ∧ W.cell? ⟨bx, 1, none⟩ = some (.slice a2 p.body.len c2)) ∧ W.cell? ⟨bz, 0, none⟩ = some (.slice u1 p.funcs.length k1) ∧ W.cell? ⟨bz, 1, none⟩ = some (.slice u2 p.body.len k2) from
      ⟨HX.out W (K4.trans (hW.mono K4.size)), (World.cell?_of_block (hW.block bz (heap_lt2 hnew))).trans (cell_of_row w4 bz 0 _ _ _ hnew), (World.cell?_of_block (hW.block bz (heap_lt2 hnew))).trans (cell_of_row w4 bz 1 _ _ _ hnew)⟩)
    have HM := Lib.hid (And.intro hmm hA2)
    have HK := Lib.hid K4
    have hz : bz = w2.heap.size := hbz
    clear q2 q3
    clear f1 f2 K2 K4 hA2 hnew hmm
    go_upto_region 4 with fail
    rw [← hz, ← hw4]
    clear hz hbz hw4
    obtain ⟨_, r0, r1⟩ := HC.out w4 (Below.refl _ _)
    obtain ⟨x1, x2, _, _⟩ := HF.out w4 (Below.refl _ _)
    go_wp2_with fail
    clear r0 r1
    refine slocals_t (Nat.le_refl _) x1.untw x2.untw HSM.out f fun v5 w5 g5 S5 O5 L5 => ?_
    have b5 := S5.below
    obtain ⟨L, hL⟩ : ∃ L, L = locals wrapI p f := ⟨_, rfl⟩
    have hlen := locals_len HSM.out f
    rw [← hL] at O5 L5 hlen
    obtain ⟨a5, c5, rfl⟩ := O5.form
    have T5 := Lib.hid ((texts_of_owns O5 L5 (by omega)).mono (T := (· < w5.heap.size)) fun b hb _ => hb)
    obtain ⟨_, r0, r1⟩ := HC.out w5 b5
    obtain ⟨x1, x2, _, _⟩ := HF.out w5 b5
    have K5 := Lib.hid b5
    have HS5 := Lib.hid (And.intro S5 (And.intro O5 L5))
    have n0 : (0 : Int) ≤ (L.length : Int) := by omega
    have n1 : (L.length : Int) ≤ 2000000 := by omega
    have HL := Lib.hid hL
    clear b5 S5 O5 L5 hlen hL
    go_wp2_with fail
    clear r0 r1
    refine slocals_t K5.out.size x1.untw x2.untw HSM.out f fun v6 w6 g6 S6 O6 L6 => ?_
    rw [← HL.out] at O6 L6
    obtain ⟨a6, c6, rfl⟩ := O6.form
    have T6 := Lib.hid ((texts_of_owns O6 L6 (by omega)).mono (T := (· < w6.heap.size)) fun b hb _ => hb)
    have K6 := Lib.hid (K5.out.trans (S6.below.mono K5.out.size))
    have T56 := Lib.hid (T5.out.below S6.below)
    obtain ⟨⟨m0, m1, m2, i1, i2, i3, i4, lf, lr⟩, hA2⟩ := HM.out
    have hst := nm_st (w0 := w0) K.out.size i1 i2 i3 i4 lf lr hA2 HS5.out.1 HS5.out.2.1 S6 O6
    obtain ⟨F1, F2, ka, kb, hst⟩ := hst
    have ST := Lib.hid hst
    have HS6 := Lib.hid S6.below.size
    clear S6 O6 L6 hst lf lr hA2 i1 i2 i3 i4 x1 x2 T5
    have hls : s.length ≤ 140737488351232 := HS.out
    go_wp2_with fail
    refine (lib_t s HS.out).mono ?_
    rintro e w7 ⟨rfl, hb7⟩
    have K7 := Lib.hid (K6.out.trans (hb7.mono K6.out.size))
    have T7 := Lib.hid (And.intro (T56.out.below (hb7.mono HS6.out)) (T6.out.below hb7))
    obtain ⟨nn, hnn⟩ : ∃ nn, nn = (libOf s).getD 0 := ⟨_, rfl⟩
    obtain ⟨bb, hbb⟩ : ∃ bb, bb = (libOf s).isSome := ⟨_, rfl⟩
    have HN := Lib.hid (And.intro hnn hbb)
    rw [← hnn, ← hbb]
    clear hnn hbb hls
    have HK7 := Lib.hid (show w6.heap.size ≤ w7.heap.size from hb7.size)
    have ST7 := Lib.hid (ST.out.later hb7)
    clear hb7
    go_wp2_with fail
    refine (rlib_t s).mono ?_
    rintro e w8 ⟨rfl, hb8⟩
    rw [← HN.out.1, ← HN.out.2]
    have K8 := Lib.hid (K7.out.trans (hb8.mono K7.out.size))
    have T8 := Lib.hid (And.intro (T7.out.1.below (hb8.mono (Nat.le_trans HS6.out HK7.out))) (T7.out.2.below (hb8.mono HK7.out)))
    have ST8 := Lib.hid (ST7.out.later hb8)
    have HK8 := Lib.hid (Nat.le_trans HK7.out hb8.size)
    clear hb8
    obtain ⟨⟨r0, r1⟩, _⟩ := HC.out w8 K8.out
    obtain ⟨_, _, x3, x4⟩ := HF.out w8 K8.out
    go_wp2_with fail
    clear r0 r1
    refine rlocals_t K8.out.size x3 x4 HSM.out f fun v9 w9 g9 S9 O9 L9 => ?_
    rw [← HL.out] at O9 L9
    obtain ⟨a9, c9, rfl⟩ := O9.form
    have T9 := Lib.hid ((texts_of_owns O9 L9 (by omega)).mono (T := (· < w9.heap.size)) fun b hb _ => hb)
    have K9 := Lib.hid (K8.out.trans (S9.below.mono K8.out.size))
    have TA := Lib.hid (And.intro (T8.out.1.below (S9.below.mono (Nat.le_trans HS6.out HK8.out))) (T8.out.2.below (S9.below.mono HK8.out)))
    have ST9 := Lib.hid (ST8.out.later S9.below)
    have HK9 := Lib.hid (Nat.le_trans HK8.out S9.below.size)
    clear S9 O9 L9 x3 x4
    go_wp2_with fail
    refine (sameTexts_t TA.out.1 T9.out).mono ?_
    rintro e w10 ⟨rfl, hb10⟩
    rw [beq_self_eq_true]
    have K10 := Lib.hid (K9.out.trans (hb10.mono K9.out.size))
    have T10 := Lib.hid (And.intro (TA.out.1.below (hb10.mono (Nat.le_trans HS6.out HK9.out))) (TA.out.2.below (hb10.mono HK9.out)))
    have ST10 := Lib.hid (ST9.out.later hb10)
    clear hb10
    go_wp2_with fail
    refine (sameTexts_t T10.out.2 T10.out.1).mono ?_
    rintro e w11 ⟨rfl, hb11⟩
    rw [beq_self_eq_true]
    have K11 := Lib.hid (K10.out.trans (hb11.mono K10.out.size))
    have ST11 := Lib.hid (ST10.out.later hb11)
    clear hb11
    obtain ⟨⟨r0, r1⟩, r2, r3⟩ := HC.out w11 K11.out
    obtain ⟨x1, x2, x3, x4⟩ := HF.out w11 K11.out
    go_wp2_with fail
    clear r0 r1 r2 r3
    refine (left_prog K11.out.size x1 x2 x3 x4).mono ?_
    rintro e w12 ⟨rfl, hb12⟩
    have K12 := Lib.hid (K11.out.trans (hb12.mono K11.out.size))
    have ST12 := Lib.hid (ST11.out.later hb12)
    clear hb12 x1 x2 x3 x4
    have B12 := Lib.hid (Y0.out.trans ((HK.out.trans (K12.out.mono HK.out.size)).mono Y0.out.size))
    obtain ⟨g12, hg12⟩ : ∃ g12, g12 = Tags.ext (fun _ => 0) w.heap.size 1 := ⟨_, rfl⟩
    have S12 := Lib.hid (show Since w w12 g12 from ⟨B12.out, fun b hb => by rw [hg12]; exact Tags.ext_old _ _ _ _ hb⟩)
    have TB12 : Tab w12 g12 := ⟨w.heap.size, HTB.out.on B12.out, S12.out.zero, B12.out.size⟩
    have G12 := Lib.hid (show ∀ b ∈ F1 ++ F2 ++ ka.toList ++ kb.toList, g12 b = 1 from fun b hb => by rw [hg12]; exact Tags.ext_new _ _ _ _ (Nat.le_trans Y0.out.size (ST12.out.new b hb)))
    have hbk := bk3_new w12 g12 TB12
    have T13 := Turn.alloc w12 g12 801 (.cells #[.int .i64 0, .slice none 0 0, .slice none 0 0, .slice none 0 0, .slice none 0 0, .slice none 0 0, .slice none 0 0, .slice none 0 0, .slice none 0 0, .slice none 0 0, .slice none 0 0, .slice none 0 0, .slice none 0 0] 50)
    have K13 := Lib.hid (K12.out.alloc K12.out.size (.cells #[.int .i64 0, .slice none 0 0, .slice none 0 0, .slice none 0 0, .slice none 0 0, .slice none 0 0, .slice none 0 0, .slice none 0 0, .slice none 0 0, .slice none 0 0, .slice none 0 0, .slice none 0 0, .slice none 0 0] 50))
    have ST13 := Lib.hid (ST12.out.later (Below.alloc (Below.refl w12.heap.size w12) (Nat.le_refl _) (.cells #[.int .i64 0, .slice none 0 0, .slice none 0 0, .slice none 0 0, .slice none 0 0, .slice none 0 0, .slice none 0 0, .slice none 0 0, .slice none 0 0, .slice none 0 0, .slice none 0 0, .slice none 0 0, .slice none 0 0] 50)))
    have S13 := Lib.hid (S12.out.turn T13 (by simp))
    have G13 := Lib.hid (show ∀ b ∈ F1 ++ F2 ++ ka.toList ++ kb.toList, (g12.ext w12.heap.size 801) b = 1 from fun b hb => by rw [Tags.ext_old _ _ _ _ (ST12.out.lt b hb)]; exact G12.out b hb)
    have BK := Lib.hid hbk
    obtain ⟨kp, hkp⟩ : ∃ kp, kp = w12.heap.size := ⟨_, rfl⟩
    rw [← hkp] at BK S13 G13
    clear hbk T13 TB12 hg12
    go_upto_region 11 with fail
    rw [← hkp]
    generalize w12.alloc (.cells #[.int .i64 0, .slice none 0 0, .slice none 0 0, .slice none 0 0, .slice none 0 0, .slice none 0 0, .slice none 0 0, .slice none 0 0, .slice none 0 0, .slice none 0 0, .slice none 0 0, .slice none 0 0, .slice none 0 0] 50) = w13 at *
    generalize g12.ext kp 801 = g13 at *
    clear hkp
    obtain ⟨_, r2, r3⟩ := HC.out w13 K13.out
    have hargs : ∀ f ∈ p.funcs, f.args.length ≤ 1000000000 := fun f hf => by have := HSM.out.each f hf; omega
    have HAR := Lib.hid hargs
    clear hargs
    go_wp2_with fail
    clear r2 r3
    refine prog_add BK.out ST13.out.f HAR.out ST13.out.b ST13.out.f.lt (fun b hb => by rw [G13.out b (List.mem_append_left _ (List.mem_append_left _ hb))]; decide) (by have := HP3.out; omega) fun w14 g14 cs14 eT eN eF T14 B14 H14 => ?_
    have ST14 := Lib.hid (ST13.out.frame fun b hb => T14.block b (ST13.out.lt b hb) (by rw [G13.out b hb]; decide))
    have G14 := Lib.hid (show ∀ b ∈ F1 ++ F2 ++ ka.toList ++ kb.toList, g14 b = 1 from fun b hb => (T14.old b (ST13.out.lt b hb)).trans (G13.out b hb))
    have S14 := Lib.hid (S13.out.turn T14 (by decide))
    have X14 := Lib.hid (And.intro B14 H14)
    clear T14 B14 H14 BK
    go_wp2_with fail
    refine texts_add X14.out.1 (by have := HP3.out; omega) a5 L.length c5 (by omega) fun w15 g15 cs15 T15 B15 => ?_
    have ST15 := Lib.hid (ST14.out.frame fun b hb => T15.block b (ST14.out.lt b hb) (by rw [G14.out b hb]; decide))
    have G15 := Lib.hid (show ∀ b ∈ F1 ++ F2 ++ ka.toList ++ kb.toList, g15 b = 1 from fun b hb => (T15.old b (ST14.out.lt b hb)).trans (G14.out b hb))
    have S15 := Lib.hid (S14.out.turn T15 (by decide))
    have X15 := Lib.hid (And.intro B15 (X14.out.2.frame fun b hb => T15.block b (X14.out.2.lt b hb) (by rw [G14.out b (List.mem_append_left _ (List.mem_append_left _ hb))]; decide)))
    clear T15 B15 X14
    go_wp2_with fail
    refine texts_add X15.out.1 (by have := HP3.out; omega) a6 L.length c6 (by omega) fun w16 g16 cs16 T16 B16 => ?_
    have ST16 := Lib.hid (ST15.out.frame fun b hb => T16.block b (ST15.out.lt b hb) (by rw [G15.out b hb]; decide))
    have G16 := Lib.hid (show ∀ b ∈ F1 ++ F2 ++ ka.toList ++ kb.toList, g16 b = 1 from fun b hb => (T16.old b (ST15.out.lt b hb)).trans (G15.out b hb))
    have S16 := Lib.hid (S15.out.turn T16 (by decide))
    have X16 := Lib.hid (And.intro B16 (X15.out.2.frame fun b hb => T16.block b (X15.out.2.lt b hb) (by rw [G15.out b (List.mem_append_left _ (List.mem_append_left _ hb))]; decide)))
    clear T16 B16 X15
    have HH16 := Lib.hid (held_nm (n1 := 0 + pr3 p + 1) (n2 := 0 + pr3 p + 1 + 1) ST16.out X16.out.2)
    go_wp2_with fail
    refine bk3_apart X16.out.1 HH16.out ST16.out.nodup (fun b hb => by rw [G16.out b hb]; decide) S16.out fun w17 hb17 => ?_
    have B17 := Lib.hid hb17
    clear hb17
    go_wp2_with fail
    go_ret
    exact ⟨rfl, B17.out⟩
  · have hm2 : (2000 : Int) < m := by omega
    clear hm
    go_wp2_with fail
    go_ret
    exact ⟨rfl, Y0.out.trans (K.out.mono Y0.out.size)⟩
theorem names_all (w : World) (v1 v2 : Value) (p : Pr) (h1 : FuncsIn w (fun b => b < w.heap.size) false v1 p.funcs) (h2 : Nodes w (fun b => b < w.heap.size) false v2 p.body) (hps : psz p ≤ 1048576) (f : Int) (_ : (Lit.int .i64 f).wf = true) (a : ByteArray) (ha : a.size ≤ 1048576)
    (htab : Lib.TabIs Tryz.prog w "internal/strconv.uint64pow10" .u64 Lib.pow10Tab) :
    Calls Tryz.prog 4 #[.agg #[v1, v2], .int .i64 f, .string a] w fun e w' => e = .returned (.bool true) ∧ Below w.heap.size w w' := by
  obtain ⟨s, rfl⟩ : ∃ s, a = bs s := ⟨a.data.toList, by apply ByteArray.ext; simp [bs]⟩
  exact names_any w v1 v2 p h1 h2 hps f s (by rw [bs_size] at ha; omega) htab
end Go.Proofs.YtmkhfonafcikdaaGreatDoor
