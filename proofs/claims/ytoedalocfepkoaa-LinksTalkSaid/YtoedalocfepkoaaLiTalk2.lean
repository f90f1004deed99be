/- Links: the walk of LinksTalk. -/
import Derived.Test.YtoedalocfepkoaaLiRun
import Derived.Test.YtoedalocfepkoaaLiBoth2
namespace Go.Proofs.Ytoedalocfepkoaa
open Go.RowKit Go.My

/-- The first j of them. -/
theorem FramesIn.take {w : World} {S : Nat → Prop} {a : Option Addr} {n cap : Nat} {ls : List (List UInt8)} (h : FramesIn w S (.slice a n cap) ls) (j : Nat) (hj : j ≤ ls.length) : FramesIn w S (.slice a j cap) (ls.take j) := by
  obtain ⟨us, ⟨ao, c, hv, h1, h2, h0, h3⟩, hl, hb⟩ := h
  simp only [Value.slice.injEq] at hv
  obtain ⟨rfl, rfl, rfl⟩ := hv
  have e : (us.take j).length = j := by rw [List.length_take]; omega
  refine ⟨us.take j, ⟨a, cap, by rw [e], by omega, h2, h0, fun hx => ?_⟩, by rw [e, List.length_take]; omega, fun i hi hi' => ?_⟩
  · obtain ⟨b, off, ha, hS, hc⟩ := h3 (by intro e2; rw [e2] at hx; simp at hx)
    refine ⟨b, off, ha, hS, fun i u hu => hc i u ?_⟩
    rw [List.getElem?_take] at hu
    split at hu
    · exact hu
    · cases hu
  · rw [List.getElem_take, List.getElem_take]
    exact hb i _ _

theorem slice_h0 {P : Program} {t e : TypeId} (ht : P.underlying t = some (.slice e)) (h1 : (P.info? e).map (·.size) = some 1) (a : Option Addr) (n cap j : Nat) (h : Int) (hh : h = j) (hn : j ≤ cap) :
    ∀ wx, (Instr.slice t (.slice a n cap) none (some (.int .i64 h)) none).run P wx = .ok (.slice a j cap) wx := by
  subst hh
  have he : P.elem t = e := by simp [Program.elem, ht]
  obtain ⟨i, hi, hs⟩ : ∃ i, P.info? e = some i ∧ i.size = 1 := by
    cases h : P.info? e with
    | none => rw [h] at h1; cases h1
    | some i => rw [h] at h1; exact ⟨i, rfl, by simpa using h1⟩
  intro wx
  rw [run_slice_h wx t _ _ _ (by rw [he]; exact ht) .i64 _ (by omega) (by omega), he]
  cases a <;> simp [sizeOf, typeInfo, hi, sliced, Addr.add]

theorem frames_addr {w : World} {S : Nat → Prop} {a : Option Addr} {n cap : Nat} {ls : List (List UInt8)} (h : FramesIn w S (.slice a n cap) ls) : n = ls.length ∧ ls.length ≤ cap ∧ (ls = [] ∨ ∃ b off, a = some ⟨b, off, none⟩) := by
  obtain ⟨ao, c, e, h1, _, _, h3⟩ := h.open_
  simp only [Value.slice.injEq] at e
  obtain ⟨rfl, rfl, rfl⟩ := e
  refine ⟨rfl, h1, ?_⟩
  cases ls with
  | nil => exact .inl rfl
  | cons x l => obtain ⟨b, off, e, _⟩ := h3 (by simp); exact .inr ⟨b, off, e⟩

/-- Argument facts, at a later world. -/
structure ArgsAt (w0 : World) (lv tv bv : Value) (L : List (List UInt8)) (there back : List UInt8) (xb : Nat) (w : World) (g : Tags) : Prop where
  since : Since w0 w g
  box : Box3 w g xb lv tv bv
  left : Frames w g 0 lv L
  there : Bytes w g 0 tv there
  back : Bytes w g 0 bv back

theorem ArgsAt.turn {w0 : World} {lv tv bv : Value} {L : List (List UInt8)} {there back : List UInt8} {xb : Nat} {w : World} {g : Tags} (h : ArgsAt w0 lv tv bv L there back xb w g) {w' : World} {g' : Tags} {T : List Nat} (k : Turn w g w' g' T) (h0 : 0 ∉ T) (h70 : 70 ∉ T) : ArgsAt w0 lv tv bv L there back xb w' g' :=
  ⟨h.since.turn k h0, h.box.turn k h70, h.left.turn k h0, h.there.turn k h0, h.back.turn k h0⟩

/-- Behind a call that made new memory alone. -/
theorem since_turn {w w' : World} {g' : Tags} (h : Since w w' g') (g : Tags) : Turn w g w' (fun b => if b < w.heap.size then g b else g' b) [] :=
  ⟨h.below.os, h.below.tape, h.below.output, h.below.size, fun b hb => if_pos hb, fun b hb _ => h.below.block b hb⟩

theorem zeroed {w : World} {g : Tags} {t : Nat} {v : Value} {l : List UInt8} (h : Bytes w g t v l) : Bytes w (fun _ => 0) 0 v l := BytesIn.mono h fun _ _ _ => rfl
theorem zeroed_f {w : World} {g : Tags} {t : Nat} {v : Value} {l : List (List UInt8)} (h : Frames w g t v l) : Frames w (fun _ => 0) 0 v l := FramesIn.mono h fun _ _ _ => rfl

/-- Rounds, as the program reckons them. -/
theorem rounds_int (a b : Nat) : ((a : Int) + (b : Int) + 12) = ((a + b + 12 : Nat) : Int) := by omega

set_option maxRecDepth 100000 in
set_option maxHeartbeats 8000000 in
theorem talk_in (w : World) (lv tv bv : Value) (L : List (List UInt8)) (there back : List UInt8) (hl : FramesIn w (fun b => b < w.heap.size) lv L) (ht : BytesIn w (fun b => b < w.heap.size) tv there) (hb : BytesIn w (fun b => b < w.heap.size) bv back)
    (h60 : L.length ≤ 60) (hs : total L ≤ 5000) (h1 : there.length ≤ 400) (h2 : back.length ≤ 100) :
    Calls Try.prog 4 #[.agg #[lv, tv, bv]] w fun e w' => e = .returned (.bool true) ∧ Below w.heap.size w w' := by
  obtain ⟨la, lc, rfl⟩ := frames_form hl
  obtain ⟨ta, tc, rfl⟩ := bytes_form (g := fun _ => 0) (t := 0) (BytesIn.mono ht (fun _ _ _ => rfl))
  obtain ⟨ba, bc, rfl⟩ := bytes_form (g := fun _ => 0) (t := 0) (BytesIn.mono hb (fun _ _ _ => rfl))
  have hlb : ∀ b ∈ L, b.length ≤ 65536 := fun b hb => by have := len_le_total L b hb; omega
  obtain ⟨t3, A3, hr3, hA3, hall3⟩ := Li.talk_safe L h60 hlb there back 3
  obtain ⟨t4, hr4, hall4, hw4⟩ := Li.talk_live L h60 hlb there back
  have HP := Lib.hid (And.intro hlb (And.intro hr3 (And.intro hall3 (And.intro hr4 (And.intro hall4 hw4)))))
  have T0 := Turn.alloc w (fun _ => 0) 70 (.cells #[.slice la L.length lc, .slice ta there.length tc, .slice ba back.length bc] 39)
  obtain ⟨xb, hxb⟩ : ∃ xb, xb = w.heap.size := ⟨_, rfl⟩
  have C0 := Lib.hid (show ArgsAt w (.slice la L.length lc) (.slice ta there.length tc) (.slice ba back.length bc) L there back xb (w.alloc (.cells #[.slice la L.length lc, .slice ta there.length tc, .slice ba back.length bc] 39)) (Tags.ext (fun _ => 0) w.heap.size 70) from
    ⟨(Since.start w).turn T0 (by decide), box_at hxb, Frames.turn (FramesIn.mono hl (fun _ _ _ => rfl)) T0 (by decide), Bytes.turn (BytesIn.mono ht (fun _ _ _ => rfl)) T0 (by decide), Bytes.turn (BytesIn.mono hb (fun _ _ _ => rfl)) T0 (by decide)⟩)
  have hs3 : t3.all.length ≤ L.length := by rw [hall3, List.length_take]; omega
  have hs3i : (t3.all.length : Int) ≤ (L.length : Int) := by omega
  obtain ⟨n3, hn3⟩ : ∃ n3, n3 = t3.all.length := ⟨_, rfl⟩
  have hA33 : L.take n3 = t3.all := by rw [hn3, hall3, List.length_take, Nat.min_eq_left hA3]
  rw [← hn3] at hs3 hs3i
  have HN3 := Lib.hid (And.intro hn3 hA33)
  have i60 : (L.length : Int) ≤ 60 := by omega
  have i400 : (there.length : Int) ≤ 400 := by omega
  have i100 : (back.length : Int) ≤ 100 := by omega
  have hfa := frames_addr hl
  have hsl := slice_h0 (P := Try.prog) Try.underlying24 (by kernel_rfl) la L.length lc n3 (n3 : Int) rfl (by omega)
  clear hl ht hb hlb T0 hr3 hall3 hr4 hall4 hw4 hA3 hn3 hA33 hfa
  go_enter Try.func4, Try.ntmps4
  go_wp2_with fail
  rw [← hxb] at C0 ⊢
  clear hxb
  refine alive_t _ (Tags.ext (fun _ => 0) xb 70) 9 fun w1 g1 T1 => ?_
  have C1 := Lib.hid (C0.out.turn T1 (by decide) (by decide))
  obtain ⟨x0, x1, x2⟩ := C1.out.box.cell
  clear T1 C0
  go_wp2_with fail
  refine (size_said _ _ _ L C1.out.left (fun b hb => by have := HP.out.1 b hb; omega) (by omega)).mono ?_
  rintro e w2 ⟨n1, rfl, hn0, hn, rfl⟩
  have hn11 := hn0 (by omega)
  have hn12 : (n1 : Int) ≤ 5000 := by omega
  have hn10 : (0 : Int) ≤ (n1 : Int) := by omega
  clear hn0 hn hn11
  go_wp2_with fail
  refine run_t 3 (zeroed_f C1.out.left) (zeroed C1.out.there) (zeroed C1.out.back) h60 HP.out.1 h1 (by omega) (by decide) rfl HP.out.2.1 fun ea aa ca w3 g3 q3 S3 E3 A3 => ?_
  rw [← HN3.out.1] at A3 ⊢
  have T3 := since_turn S3 g1
  have C3 := Lib.hid (C1.out.turn T3 (by decide) (by decide))
  have X3 := Lib.hid A3
  obtain ⟨x0, x1, x2⟩ := C3.out.box.cell
  clear S3 E3 T3 A3 C1
  go_wp2_with fail
  have hF3 := FramesIn.take C3.out.left n3 hs3
  rw [HN3.out.2] at hF3
  refine (sameFrames_eq w3 _ _ _ _ _ X3.out.frames hF3).mono ?_
  rintro e w4 ⟨rfl, m4, rfl⟩
  have C4 := Lib.hid (C3.out.turn (Turn.drewN w3 _ m4) (by decide) (by decide))
  clear C3 X3 hF3 x0 x1 x2 hsl
  obtain ⟨w5, hw5⟩ : ∃ w5, w5 = w3.drewN m4 := ⟨_, rfl⟩
  rw [← hw5] at C4 ⊢
  clear hw5
  obtain ⟨x0, x1, x2⟩ := C4.out.box.cell
  go_wp2_with fail
  refine run_t (there.length + back.length + 12) (zeroed_f C4.out.left) (zeroed C4.out.there) (zeroed C4.out.back) h60 HP.out.1 h1 (by omega) (by omega) (rounds_int _ _) HP.out.2.2.2.1 fun ea5 aa5 ca5 w6 g6 q6 S6 E6 A6 => ?_
  rw [HP.out.2.2.2.2.1] at A6 ⊢
  have T6 := since_turn S6 (fun b => if b < w1.heap.size then g1 b else g3 b)
  have C6 := Lib.hid (C4.out.turn T6 (by decide) (by decide))
  have X6 := Lib.hid (And.intro A6 E6)
  obtain ⟨y0, y1, y2⟩ := C6.out.box.cell
  clear S6 E6 T6 A6 C4 x0 x1 x2
  go_wp2_with fail
  refine (sameFrames_eq w6 _ _ _ _ _ X6.out.1.frames C6.out.left).mono ?_
  rintro e w7 ⟨rfl, m7, rfl⟩
  have E7 := Lib.hid (And.intro (C6.out.since.turn (Turn.drewN w6 _ m7) (by decide)) (X6.out.2.turn (Turn.drewN w6 _ m7) (by decide)))
  clear C6 X6 y0 y1 y2
  go_wp2_with fail
  refine waits_t E7.out.2 ?_
  rw [HP.out.2.2.2.2.2]
  go_wp2_with fail
  go_ret
  exact ⟨rfl, E7.out.1.below⟩
end Go.Proofs.Ytoedalocfepkoaa
