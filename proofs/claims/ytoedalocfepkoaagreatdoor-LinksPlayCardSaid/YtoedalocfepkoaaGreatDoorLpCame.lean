/- Links: what known, take, Came compute. -/
import Derived.Test.YtoedalocfepkoaaGreatDoorLpEnd
namespace Go.Proofs.YtoedalocfepkoaaGreatDoor
open Go.RowKit Go.My

/-- The cells of an end, two of which are written. -/
theorem known_at {w : World} {g : Tags} {t eb : Nat} {s : Li.St} {q : Nat} {wv : Value} {mb : Nat} {f : Int → Option Value} (hE : EndAt w g t eb s q wv mb f) {n : Nat} (hn : n < Li.M) (hf : Li.far n s.first ≤ s.waits.length) {v : Value} (hL : Lists w g (t + 1) (fun _ => t + 3) v (s.waits.drop (Li.far n s.first))) :
    Turn w g ((w.setCell ⟨eb, 0, none⟩ v).setCell ⟨eb, 1, none⟩ (.int .u32 (n : Int))) g [t, t + 1, t + 2] ∧ EndIs ((w.setCell ⟨eb, 0, none⟩ v).setCell ⟨eb, 1, none⟩ (.int .u32 (n : Int))) g t eb (Li.known s n) q := by
  have T1 := Turn.store w g ⟨eb, 0, none⟩ v (t := t) hE.tag
  have T2 := Turn.store (w.setCell ⟨eb, 0, none⟩ v) g ⟨eb, 1, none⟩ (.int .u32 (n : Int)) (t := t) hE.tag
  have T : Turn w g ((w.setCell ⟨eb, 0, none⟩ v).setCell ⟨eb, 1, none⟩ (.int .u32 (n : Int))) g [t] := T1.trans T2 (by simp) (by simp)
  have h1 := _root_.Go.heap_setCell_same w eb 0 _ _ v hE.cells
  have h2 := _root_.Go.heap_setCell_same _ eb 1 _ _ (.int .u32 (n : Int)) h1
  refine ⟨T.mono (by simp), v, mb, f, ?_⟩
  have e : Li.known s n = { s with waits := s.waits.drop (Li.far n s.first), first := n } := by unfold Li.known; rw [if_pos hf]
  rw [e]
  exact ⟨h2, hE.tag, hL.turn T (by simp) (by simp), hE.map.frame (T.block mb hE.map.lt (by rw [hE.mtag]; simp)), hE.mtag, fun i hi => (hE.early i hi).turn T (by simp <;> omega), ⟨hE.win.1, hn, hE.win.2.2⟩,
    (by show (s.waits.drop _).length ≤ 16; rw [List.length_drop]; have := hE.few; omega), fun b hb => hE.small.1 b (List.mem_of_mem_drop hb), hE.small.2⟩

theorem far_wrap (n a : Nat) (hn : n < Li.M) (ha : a < Li.M) : IntKind.u32.wrap ((n : Int) - (a : Int)) = (Li.far n a : Int) := by
  unfold Li.far Li.M at *
  simp [IntKind.wrap, IntKind.bits, IntKind.signed]
  omega

set_option maxHeartbeats 1000000 in
theorem known_t {w : World} {g : Tags} {t eb : Nat} {s : Li.St} {q : Nat} (hE : EndIs w g t eb s q) (n : Nat) (hn : n < Li.M) {Q : Ending → World → Prop}
    (h : ∀ w' g', Turn w g w' g' [t, t + 1, t + 2] → EndIs w' g' t eb (Li.known s n) q → Q (.returned (.tuple #[])) w') : Calls Tryz.prog 29 #[.pointer (some ⟨eb, 0, none⟩), .int .u32 (n : Int)] w Q := by
  have HE0 := Lib.hid hE
  obtain ⟨wv, mb, f, hE⟩ := hE
  obtain ⟨k0, k1, _, _, _, k5⟩ := hE.cell
  have k50 := k5 0
  have k51 := k5 1
  obtain ⟨wa, wc, rfl⟩ := hE.waits.form
  have H := Lib.hid h
  have HE := Lib.hid hE
  have hw := far_wrap n s.first hn hE.win.2.1
  have hfew : (s.waits.length : Int) ≤ 16 := by have := hE.few; omega
  have hn0 : (0 : Int) ≤ (n : Int) := by omega
  have hn1 : (n : Int) ≤ 4294967295 := by unfold Li.M at hn; omega
  obtain ⟨d, hd⟩ : ∃ d, d = Li.far n s.first := ⟨_, rfl⟩
  have hd1 : d < 4294967296 := by rw [hd]; exact Nat.mod_lt _ (by decide)
  rw [← hd] at hw
  have HD := Lib.hid hd
  clear h hE hd
  by_cases hf : d ≤ s.waits.length
  · have hf1 : (d : Int) ≤ (s.waits.length : Int) := by omega
    obtain ⟨ad, hsl, hs1, hs2⟩ := slice_lk (P := Tryz.prog) Tryz.underlying48 (by kernel_rfl) .u64 wa s.waits.length wc d (d : Int) rfl hf
    have hK := known_at HE.out hn (HD.out ▸ hf) (v := .slice ad (s.waits.length - d) (wc - d)) (HD.out ▸ HE.out.waits.drop d hf hs1 hs2)
    have HK := Lib.hid hK
    clear hs1 hs2 hK
    go_enter Tryz.func29, Tryz.ntmps29
    go_wp2_with fail
    go_end0
    exact H.out _ _ HK.out.1 HK.out.2
  · have hf1 : (s.waits.length : Int) < (d : Int) := by omega
    have hd2 : (d : Int) ≤ 4294967295 := by omega
    have HK := Lib.hid (show Li.known s n = s by unfold Li.known; rw [← HD.out, if_neg hf])
    clear hf
    go_enter Tryz.func29, Tryz.ntmps29
    go_wp2_with fail
    go_end0
    exact H.out _ _ (Turn.refl _ g _) (by rw [HK.out]; exact HE0.out)

/-! ### take -/
theorem bytes_form {w : World} {g : Tags} {t : Nat} {v : Value} {l : List UInt8} (h : Bytes w g t v l) : ∃ ao cap, v = .slice ao l.length cap := by
  obtain ⟨ao, cap, e, _⟩ := BytesIn.open_ h
  exact ⟨ao, cap, e⟩

theorem early_none {w : World} {g : Tags} {t : Nat} {a : Option Value} {b : Option (List UInt8)} (h : Early w g t a b) (hb : b = none) : a = none := by
  subst hb; cases a
  · rfl
  · exact h.elim
theorem early_some {w : World} {g : Tags} {t : Nat} {a : Option Value} {b : Option (List UInt8)} {l : List UInt8} (h : Early w g t a b) (hb : b = some l) : ∃ u, a = some u ∧ Owns w g t 5 1 u l.length (l.map byteCell) := by
  subst hb; cases a
  · exact h.elim
  · exact ⟨_, rfl, h⟩

theorem zeroBytes (w : World) : (zeroValue 42).run Tryz.prog w = .ok (.slice none 0 0) w := by kernel_rfl

theorem wf_u32 (n : Nat) (h : n < Li.M) : (Lit.int .u32 (n : Int)).wf = true := WalkArith.wf_u32 (by unfold Li.M at h; omega)

/-- Marked: something came. -/
theorem mark_at {w : World} {g : Tags} {t eb : Nat} {s : Li.St} {q : Nat} {wv : Value} {mb : Nat} {f : Int → Option Value} (hE : EndAt w g t eb s q wv mb f) :
    Turn w g (w.setCell ⟨eb, 4, none⟩ (.bool true)) g [t] ∧ EndAt (w.setCell ⟨eb, 4, none⟩ (.bool true)) g t eb { s with came := true } q wv mb f := by
  have T1 := Turn.store w g ⟨eb, 4, none⟩ (.bool true) (t := t) hE.tag
  have h1 := _root_.Go.heap_setCell_same w eb 4 _ _ (.bool true) hE.cells
  exact ⟨T1, ⟨h1, hE.tag, hE.waits.turn T1 (by simp) (by simp), hE.map.frame (T1.block mb hE.map.lt (by rw [hE.mtag]; simp)), hE.mtag, fun i hi => (hE.early i hi).turn T1 (by simp <;> omega), ⟨hE.win.1, hE.win.2.1, hE.win.2.2⟩, hE.few, hE.small⟩⟩

/-- Laid by. -/
theorem laid_at {w w1 w2 : World} {g g1 : Tags} {t eb : Nat} {s : Li.St} {q : Nat} {wv : Value} {mb : Nat} {f : Int → Option Value} {n : Nat} {b : List UInt8} {u : Value} (hE : EndAt w g t eb { s with came := true } q wv mb f) (hn : n < Li.M) (he : s.early n = none ∧ Li.far n s.awaited < 16) (hb : b.length ≤ 65536)
    (hw : Li.Win 16 s) (hT : Turn w g w1 g1 []) (hu : Owns w1 g1 (t + 4 + n) 5 1 u b.length (b.map byteCell)) (hM : MapIs Tryz.prog 59 .u32 w2 mb (q + 1) (fun j => if j = (n : Int) then some u else f j)) (hg : w1.grownBy w2 (some mb)) :
    Turn w g w2 (g1.ext w1.heap.size (t + 2)) [t + 2] ∧ EndAt w2 (g1.ext w1.heap.size (t + 2)) t eb (Li.laid s n b) (q + 1) wv mb (fun j => if j = (n : Int) then some u else f j) := by
  have hm1 : mb < w1.heap.size := Nat.lt_of_lt_of_le hE.map.lt hT.size
  have hg1 : g1 mb = t + 2 := (hT.old mb hE.map.lt).trans hE.mtag
  have T2 := Turn.of_step (Step.of_grown hg) g1 (t + 2) (fun k hk => by cases hk; exact hg1)
  have T := hT.trans T2 (V := [t + 2]) (by simp) (by simp)
  have hE2 := hE.turn hT (by simp) (by simp) (by simp) (by simp) (fun n _ => by simp <;> omega)
  refine ⟨T, ?_, (T.old eb hE.lt).trans hE.tag, hE.waits.turn T (by simp) (by simp), hM, (T.old mb hE.map.lt).trans hE.mtag, fun i hi => ?_, Li.win_laid hw n hn b, hE.few, hE.small.1, fun i x hx => ?_⟩
  · exact (T.block eb hE.lt (by rw [hE.tag]; simp)).trans hE.cells
  · show Early _ _ _ (if (i : Int) = (n : Int) then some u else f i) ((Li.laid s n b).early i)
    simp only [Li.laid, if_pos he, Li.withAt]
    by_cases e : i = n
    · subst e
      rw [if_pos rfl, if_pos rfl]
      exact hu.turn T2 (by simp <;> omega)
    · rw [if_neg (by omega), if_neg e]
      exact (hE.early i hi).turn T (by simp <;> omega)
  · simp only [Li.laid, if_pos he, Li.withAt] at hx
    by_cases e : i = n
    · rw [if_pos e] at hx; cases hx; exact hb
    · rw [if_neg e] at hx; exact hE.small.2 i x hx

theorem not_laid {s : Li.St} {n : Nat} {b : List UInt8} (h : ¬ (s.early n = none ∧ Li.far n s.awaited < 16)) : Li.laid s n b = { s with came := true } := by unfold Li.laid; rw [if_neg h]

/-- The owners of what a drain tells. -/
def tt (t a : Nat) : Nat → Nat := fun j => t + 4 + (a + j) % Li.M

/-- At the head of a round of the drain. -/
def DrainAt (w : World) (g : Tags) (t eb tl : Nat) (s0 : Li.St) (q : Nat) (gk : Nat) (vl : Value) (wr : World) : Prop :=
  ∃ s done wv mb f gr ao cap, Li.Win gk s ∧ Li.drain 16 s0 = (done ++ (Li.drain gk s).1, (Li.drain gk s).2) ∧ vl = .slice ao done.length cap ∧ Lists wr gr tl (tt t s0.awaited) (.slice ao done.length cap) done ∧ EndAt wr gr t eb s q wv mb f ∧ Turn w g wr gr [t, t + 1, t + 2, tl] ∧ done.length + gk ≤ 16 ∧ s.awaited = (s0.awaited + done.length) % Li.M

def TookSaid (w : World) (g : Tags) (t eb tl a0 : Nat) (r : List (List UInt8) × Li.St) (q : Nat) (e : Ending) (w' : World) : Prop :=
  ∃ ao cap g', e = .returned (.slice ao r.1.length cap) ∧ Lists w' g' tl (tt t a0) (.slice ao r.1.length cap) r.1 ∧ EndIs w' g' t eb r.2 q ∧ Turn w g w' g' [t, t + 1, t + 2, tl]

theorem drain_start {w w1 : World} {g g1 : Tags} {t eb tl : Nat} {s : Li.St} {q : Nat} {wv : Value} {mb : Nat} {f : Int → Option Value} (hE : EndAt w1 g1 t eb s q wv mb f) (hT : Turn w g w1 g1 [t, t + 2]) : DrainAt w g t eb tl s q 16 (.slice none 0 0) w1 :=
  ⟨s, [], wv, mb, f, g1, none, 0, hE.win, rfl, rfl, Lists.nil _ _ _ _, hE, hT.mono (by simp), by simp, by simp only [List.length_nil, Nat.add_zero]; exact (Nat.mod_eq_of_lt hE.win.1).symm⟩

theorem drain_stop {w wr : World} {g gr : Tags} {t eb tl : Nat} {s0 s : Li.St} {q gk : Nat} {wv : Value} {mb : Nat} {f : Int → Option Value} {done : List (List UInt8)} {ao : Option Addr} {cap : Nat}
    (hd : Li.drain 16 s0 = (done ++ (Li.drain gk s).1, (Li.drain gk s).2)) (hn : s.early s.awaited = none) (hL : Lists wr gr tl (tt t s0.awaited) (.slice ao done.length cap) done) (hE : EndAt wr gr t eb s q wv mb f) (hT : Turn w g wr gr [t, t + 1, t + 2, tl]) (m : Nat) :
    TookSaid w g t eb tl s0.awaited (Li.drain 16 s0) q (.returned (.slice ao done.length cap)) (wr.drewN m) := by
  have e : Li.drain gk s = ([], s) := by cases gk <;> simp [Li.drain, hn]
  rw [e] at hd
  simp only [List.append_nil] at hd
  have T := hT.trans (Turn.drewN wr gr m) (V := [t, t + 1, t + 2, tl]) (by simp) (by simp)
  rw [hd]
  exact ⟨ao, cap, gr, rfl, hL.turn (Turn.drewN wr gr m) (by simp) (fun _ => by simp), ⟨wv, mb, f, hE.turn (Turn.drewN wr gr m) (by simp) (by simp) (by simp) (by simp) (fun n _ => by simp <;> omega)⟩, T⟩

theorem EndAt.mono {w : World} {g : Tags} {t eb : Nat} {s : Li.St} {q q' : Nat} {wv : Value} {mb : Nat} {f : Int → Option Value} (h : EndAt w g t eb s q wv mb f) (hq : q ≤ q') : EndAt w g t eb s q' wv mb f :=
  ⟨h.cells, h.tag, h.waits, h.map.mono hq, h.mtag, h.early, h.win, h.few, h.small⟩

/-- One told, before it is put behind the others. -/
theorem drain_at {wr wd w1 : World} {gr : Tags} {t eb : Nat} {s : Li.St} {q k : Nat} {wv : Value} {mb : Nat} {f : Int → Option Value} (hE : EndAt wr gr t eb s q wv mb f) (hwin : Li.Win (k + 1) s) (hk : k < 16)
    (hM : MapIs Tryz.prog 59 .u32 w1 mb q (fun j => if j = (s.awaited : Int) then none else f j)) (hg : wd.grownBy w1 (some mb)) (T1 : Turn wr gr wd gr []) (hd : wd.heap.size = wr.heap.size) {aw : Int} (haw : aw = ((s.awaited + 1) % Li.M : Nat)) :
    Turn wr gr (w1.setCell ⟨eb, 2, none⟩ (.int .u32 aw)) (gr.ext wr.heap.size (t + 2)) [t, t + 2] ∧
    EndAt (w1.setCell ⟨eb, 2, none⟩ (.int .u32 aw)) (gr.ext wr.heap.size (t + 2)) t eb { s with early := Li.without s.early s.awaited, awaited := (s.awaited + 1) % Li.M } q wv mb (fun j => if j = (s.awaited : Int) then none else f j) := by
  subst haw
  have T2 := Turn.of_step (Step.of_grown hg) gr (t + 2) (fun k hk => by cases hk; exact hE.mtag)
  rw [hd] at T2
  have T12 := T1.trans T2 (V := [t + 2]) (by simp) (by simp)
  have hc1 : w1.heap[eb]? = _ := (T12.block eb hE.lt (by rw [hE.tag]; simp)).trans hE.cells
  have ht1 : (gr.ext wr.heap.size (t + 2)) eb = t := (T12.old eb hE.lt).trans hE.tag
  have T3 := Turn.store w1 (gr.ext wr.heap.size (t + 2)) ⟨eb, 2, none⟩ (.int .u32 (((s.awaited + 1) % Li.M : Nat) : Int)) (t := t) ht1
  have T := T12.trans T3 (V := [t, t + 2]) (by simp) (by simp)
  have h1 := _root_.Go.heap_setCell_same w1 eb 2 _ _ (.int .u32 (((s.awaited + 1) % Li.M : Nat) : Int)) hc1
  have hmt : (gr.ext wr.heap.size (t + 2)) mb = t + 2 := (T.old mb hE.map.lt).trans hE.mtag
  refine ⟨T, h1, ht1, hE.waits.turn T (by simp) (by simp), hM.frame (T3.block mb hM.lt (by rw [hmt]; simp)), hmt, fun i hi => ?_, Li.win_mono (Li.win_next hwin) (by omega), hE.few, hE.small.1, fun i x hx => ?_⟩
  · show Early _ _ _ (if (i : Int) = (s.awaited : Int) then none else f i) (Li.without s.early s.awaited i)
    unfold Li.without
    by_cases e : i = s.awaited
    · subst e; rw [if_pos rfl, if_pos rfl]; trivial
    · rw [if_neg (by omega), if_neg e]
      exact (hE.early i hi).turn T (by simp <;> omega)
  · simp only [Li.without] at hx
    by_cases e : i = s.awaited
    · rw [if_pos e] at hx; cases hx
    · rw [if_neg e] at hx; exact hE.small.2 i x hx

theorem drain_cells {wr wd w1 : World} {gr : Tags} {t eb : Nat} {s : Li.St} {q : Nat} {wv : Value} {mb : Nat} {f : Int → Option Value} (hE : EndAt wr gr t eb s q wv mb f)
    (hg : wd.grownBy w1 (some mb)) (T1 : Turn wr gr wd gr []) (hd : wd.heap.size = wr.heap.size) : w1.cell? ⟨eb, 2, none⟩ = some (.int .u32 (s.awaited : Int)) ∧ w1.frozen? ⟨eb, 2, none⟩ = false := by
  have T2 := Turn.of_step (Step.of_grown hg) gr (t + 2) (fun k hk => by cases hk; exact hE.mtag)
  rw [hd] at T2
  have T12 := T1.trans T2 (V := [t + 2]) (by simp) (by simp)
  have hc1 : w1.heap[eb]? = _ := (T12.block eb hE.lt (by rw [hE.tag]; simp)).trans hE.cells
  exact ⟨by rw [cell_of_row w1 eb _ _ _ _ hc1]; rfl, frozen_of_row w1 eb _ _ _ hc1⟩

theorem drain_next {w wr w2 w3 : World} {g gr g2 g3 : Tags} {t eb tl : Nat} {s0 s : Li.St} {q k : Nat} {wv : Value} {mb : Nat} {f : Int → Option Value} {done : List (List UInt8)} {a3 : Option Addr} {c3 : Nat} {b : List UInt8}
    (hwin : Li.Win (k + 1) s) (hd : Li.drain 16 s0 = (done ++ (Li.drain (k + 1) s).1, (Li.drain (k + 1) s).2)) (hb : s.early s.awaited = some b) (hlen : done.length + (k + 1) ≤ 16)
    (hL : Lists w3 g3 tl (tt t s0.awaited) (.slice a3 (done.length + 1) c3) (done ++ [b])) (haw : s.awaited = (s0.awaited + done.length) % Li.M) (hT : Turn w g wr gr [t, t + 1, t + 2, tl]) (hT2 : Turn wr gr w2 g2 [t, t + 2]) (hE : EndAt w2 g2 t eb { s with early := Li.without s.early s.awaited, awaited := (s.awaited + 1) % Li.M } q wv mb f)
    {o : Obj} (hT3 : Turn (w2.alloc o) (g2.ext w2.heap.size 1000) w3 g3 [tl]) (htl : tl < t) : DrainAt w g t eb tl s0 q k (.slice a3 (done.length + 1) c3) w3 := by
  have T3 := (Turn.alloc w2 g2 1000 o).trans hT3 (V := [tl]) (by simp) (by simp)
  have hE3 := hE.turn T3 (by simp; omega) (by simp; omega) (by simp; omega) (by simp; omega) (fun n _ => by simp <;> omega)
  have e : Li.drain (k + 1) s = (b :: (Li.drain k { s with early := Li.without s.early s.awaited, awaited := (s.awaited + 1) % Li.M }).1, (Li.drain k { s with early := Li.without s.early s.awaited, awaited := (s.awaited + 1) % Li.M }).2) := by
    rw [Li.drain, hb]
  rw [e] at hd
  refine ⟨_, done ++ [b], wv, mb, f, g3, a3, c3, Li.win_next hwin, by rw [hd]; simp, by simp, by simpa using hL, hE3, (hT.trans hT2 (V := [t, t + 1, t + 2, tl]) (by simp) (by simp)).trans T3 (by simp) (by simp), by simp; omega, by simp only [List.length_append, List.length_singleton, haw]; unfold Li.M; omega⟩

theorem not_tt (t a : Nat) (j : Nat) : tt t a j ∉ [t, t + 2] := by unfold tt; simp <;> omega
theorem tt_ne (t a tl : Nat) (h : tl < t) (j : Nat) : tt t a j ≠ tl := by unfold tt; omega

theorem next_wrap (a : Nat) (_ha : a < Li.M) : IntKind.u32.wrap ((a : Int) + 1) = (((a + 1) % Li.M : Nat) : Int) := by
  unfold Li.M at *
  simp [IntKind.wrap, IntKind.bits, IntKind.signed]

set_option maxHeartbeats 2000000 in
theorem take_laid {w : World} {g : Tags} {t eb : Nat} {s : Li.St} {q : Nat} (tl : Nat) (hE : EndIs w g t eb s q) (n : Nat) (hn : n < Li.M) {tv : Nat} {v : Value} {b : List UInt8} (hv : Bytes w g tv v b) (hb : b.length ≤ 65536) (hq : q < 1000000000) (htv : tv < t) (htl : tl < t)
    (he : s.early n = none) (hfar : Li.far n s.awaited < 16) :
    Calls Tryz.prog 28 #[.pointer (some ⟨eb, 0, none⟩), .int .u32 (n : Int), v] w (TookSaid w g t eb tl s.awaited (Li.take s n b) (q + 1)) := by
  have HTL := Lib.hid (show tl ∉ [t, t + 2] by simp; omega)
  have HTL2 := Lib.hid htl
  have htv1 : tv ∉ [t] := by simp; omega
  obtain ⟨wv, mb, f, hE⟩ := hE
  have hwin := hE.win
  obtain ⟨ao, cap, rfl⟩ := bytes_form hv
  obtain ⟨T1, hE1⟩ := mark_at hE
  obtain ⟨k0, k1, k2, k3, k4, k5⟩ := hE.cell
  have k54 := k5 4
  have k2' := hE1.cell.2.2.1
  have k3' := hE1.cell.2.2.2.1
  have hf := early_none (hE1.early n hn) he
  have hlk := hE1.map.look_none Tryz.underlying59 Tryz.underlying58 (zeroBytes _) (wf_u32 n hn) hf
  have hw := far_wrap n s.awaited hn hE.win.1
  have HLAY := Lib.hid (And.intro he hfar)
  obtain ⟨d, hd⟩ : ∃ d, d = Li.far n s.awaited := ⟨_, rfl⟩
  rw [← hd] at hw hfar
  have hf1 : (d : Int) < 16 := by omega
  have HV := Lib.hid (hv.turn T1 htv1)
  have HE := Lib.hid (And.intro T1 (And.intro hE1 hwin))
  have HD := Lib.hid hd
  clear hE hE1 T1 hv k5 hd hf hwin he hfar
  go_enter Tryz.func28, Tryz.ntmps28
  go_upto_region 4 with fail
  go_cut [] (fun wx => DrainAt w g t eb tl (Li.laid s n b) (q + 1) 16 (.slice none 0 0) wx)
  case first =>
    go_region_law (first
      | (go_simp; go_at_call 22; refine clone_f (t + 4 + n) (HV.out.turn (Turn.drew _ g) (by simp)) (by omega) ?_; intro a1 c1 w1 g1 T1 O1; have X1 := Lib.hid (And.intro O1 (((Turn.drew _ g).trans T1 (V := []) (by simp) (by simp)))); clear O1 T1; have e0 := (HE.out.2.1.turn X1.out.2 (by simp) (by simp) (by simp) (by simp) (fun n _ => by simp <;> omega)).cell.2.2.2.1; have hst := (HE.out.2.1.turn X1.out.2 (by simp) (by simp) (by simp) (by simp) (fun n _ => by simp <;> omega)).map.store Tryz.underlying59 Tryz.underlying58 (by unfold maxLen; omega) (wf_u32 n hn) (.slice a1 b.length c1); obtain ⟨w2, hrun, hst⟩ := hst; have HST := Lib.hid hst; clear hst))
    all_goals
      go_wp2_with fail
      go_meet
      case rel =>
        have hl := laid_at HE.out.2.1 hn HLAY.out hb HE.out.2.2 X1.out.2 X1.out.1 HST.out.1 HST.out.2
        exact drain_start hl.2 (HE.out.1.trans hl.1 (by simp) (by simp))
  case rest =>
    have HDR := Lib.hid hcut
    clear hcut
    go_wp2_with fail
    go_loopg [6] 16 (fun gk vl wr => DrainAt w g t eb tl (Li.laid s n b) (q + 1) gk vl wr)
    case atStart => exact HDR.out
    case round =>
      obtain ⟨s1, done, wv1, mb1, f1, gr, la, lc, hwin1, hd1, rfl, hL1, hE1, hT1, hlen1, haw1⟩ := hrel
      have HX := Lib.hid (And.intro hwin1 (And.intro hd1 (And.intro hL1 (And.intro hE1 (And.intro hT1 haw1)))))
      have haw := hE1.win.1
      obtain ⟨_, _, _, _, _, kf⟩ := hE1.cell
      have kd2 := fun m => (hE1.turn (Turn.drewN wr gr m) (by simp) (by simp) (by simp) (by simp) (fun n _ => by simp <;> omega)).cell.2.2.1
      have kd3 := fun m => (hE1.turn (Turn.drewN wr gr m) (by simp) (by simp) (by simp) (by simp) (fun n _ => by simp <;> omega)).cell.2.2.2.1
      have kd2' := kd2 0
      have kd3' := kd3 0
      clear hwin1 hd1 hL1 hT1 HDR kf haw1
      cases hea : s1.early s1.awaited with
      | none =>
        have hl1 := fun m => (hE1.turn (Turn.drewN wr gr m) (by simp) (by simp) (by simp) (by simp) (fun n _ => by simp <;> omega)).map.look_none Tryz.underlying59 Tryz.underlying58 (zeroBytes _) (wf_u32 _ haw) (early_none (hE1.early _ haw) hea)
        have HEA := Lib.hid hea
        clear hE1 hea
        go_wp2_with fail
        go_quiet (fail)
        go_wp2_with fail
        go_ret
        exact drain_stop HX.out.2.1 HEA.out HX.out.2.2.1 HX.out.2.2.2.1 HX.out.2.2.2.2.1 _
      | some bx =>
        obtain ⟨k, rfl⟩ : ∃ k, gk = k + 1 := by
          cases gk with
          | zero => have := Li.win_none HX.out.1 s1.awaited; rw [hea] at this; cases this
          | succ k => exact ⟨k, rfl⟩
        obtain ⟨u, hu, hub⟩ := early_some (hE1.early _ haw) hea
        obtain ⟨ua, uc, rfl⟩ := bytes_form hub.bytes
        have hl1 := fun m => (hE1.turn (Turn.drewN wr gr m) (by simp) (by simp) (by simp) (by simp) (fun n _ => by simp <;> omega)).map.look_some Tryz.underlying59 Tryz.underlying58 (zeroBytes _) (wf_u32 _ haw) hu
        obtain ⟨aw, haw2⟩ : ∃ aw : Int, aw = (((s1.awaited + 1) % Li.M : Nat) : Int) := ⟨_, rfl⟩
        have hnw := (next_wrap s1.awaited haw).trans haw2.symm
        have HAW := Lib.hid haw2
        clear haw2
        have HEA := Lib.hid (And.intro hea hub)
        clear hea hub hu
        have HE1 := Lib.hid hE1
        clear hE1
        go_wp2_with fail
        go_quiet (fail)
        have hds := (HE1.out.turn ((Turn.drewN wr gr nq).trans (Turn.drew _ gr) (V := []) (by simp) (by simp)) (by simp) (by simp) (by simp) (by simp) (fun n _ => by simp <;> omega)).map.drop Tryz.underlying59 Tryz.underlying58 (wf_u32 _ haw) 0
        obtain ⟨w1, hdel, hds⟩ := hds
        have HDS := Lib.hid (drain_at HE1.out HX.out.1 (by omega) hds.1 hds.2 ((Turn.drewN wr gr nq).trans (Turn.drew _ gr) (V := []) (by simp) (by simp)) (by rw [World.size_drew, heap_drewN']) HAW.out)
        have c2 := kd2 nq
        have c3 := kd3 nq
        obtain ⟨c1, c1'⟩ := drain_cells HE1.out hds.2 ((Turn.drewN wr gr nq).trans (Turn.drew _ gr) (V := []) (by simp) (by simp)) (by rw [World.size_drew, heap_drewN'])
        have hlen2 : done.length + 1 ≤ 1000000000 := by omega
        clear hds kd2 kd3 hl1
        go_upto_region 8 with fail
        go_cut [] (fun wx => wx = w1)
        case first =>
          go_region_law (refine step_delete rfl (.tmp 59) (.tmp 63) rfl rfl rfl hdel ?_)
          all_goals
            go_wp2_with fail
            go_meet
            case rel => rfl
        case rest =>
          obtain rfl := hcut
          clear c2 c3 hdel
          obtain ⟨τ, hτ⟩ : ∃ τ, τ = tt t (Li.laid s n b).awaited := ⟨_, rfl⟩
          have L9 := Lib.hid (HX.out.2.2.1.turn HDS.out.1 HTL.out (not_tt t _))
          have B9 := Lib.hid (HEA.out.2.turn HDS.out.1 (by simp <;> omega))
          rw [show t + 4 + s1.awaited = tt t (Li.laid s n b).awaited done.length by unfold tt; rw [HX.out.2.2.2.2.2]] at B9
          have N9 := Lib.hid (tt_ne t (Li.laid s n b).awaited tl HTL2.out)
          rw [← hτ] at L9 B9 N9
          have Hτ := Lib.hid hτ
          clear hτ
          go_wp2_with (at_builtin; go_loud (refine append_one rfl (.tmp 71) (.tmp 73) rfl (g := (gr.ext wr.heap.size (t + 2)).ext _ 1000) (t := tl) (t' := τ) rfl (L9.out.turn (Turn.alloc _ _ 1000 _) List.not_mem_nil (fun _ => List.not_mem_nil)) rfl (by simp) (B9.out.turn (Turn.alloc _ _ 1000 _) List.not_mem_nil) N9.out hlen2 ?_); intro a3 c3 w3 g3 L3 T3; have X3 := Lib.hid (And.intro L3 T3); clear L3 T3)
          go_roundg k
          case measure => omega
          case rel => exact drain_next HX.out.1 HX.out.2.1 HEA.out.1 hlen1 (Hτ.out ▸ X3.out.1) HX.out.2.2.2.2.2 HX.out.2.2.2.2.1 HDS.out.1 HDS.out.2 X3.out.2 htl
end Go.Proofs.YtoedalocfepkoaaGreatDoor
