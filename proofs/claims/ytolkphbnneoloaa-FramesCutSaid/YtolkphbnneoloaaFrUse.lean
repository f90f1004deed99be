/- Frames: the contracts in the form that the statements use; 'alive'. -/
import Derived.Test.YtolkphbnneoloaaFrCame
import Derived.Test.YtolkphbnneoloaaSame
namespace Go.Proofs.Ytolkphbnneoloaa
open Go.RowKit Go.My

/-- The blocks that a reader uses. -/
def Use (rb : Nat) (g : Option Nat) (b : Nat) : Prop := b = rb ∨ g = some b

theorem OwnFrames.reads {w : World} {v : Value} {gl : Option Nat} {ls : List (List UInt8)} {gs : List Nat} (h : OwnFrames w v gl ls gs) : FramesIn w (fun b => b ∈ gs ∨ gl = some b) v ls := by
  refine ⟨List.zipWith frameVal gs ls, (Own.row (n := ls.length) h.own).mono (fun b _ hb => .inr hb), by simp [h.len], fun j hj hj' => ?_⟩
  have hjg : j < gs.length := by rw [h.len]; exact hj'
  rw [List.getElem_zipWith]
  refine ⟨some ⟨gs[j], 0, none⟩, (ls[j]).length, by rw [List.length_map]; rfl, by simp, ?_, (fun e => by cases e), fun _ => ⟨gs[j], 0, rfl, .inl (List.getElem_mem hjg), fun i u hi => ?_⟩⟩
  · have := h.most _ (List.getElem_mem hj'); unfold maxLen; omega
  · rw [cell_of_row w gs[j] (0 + i) _ 5 (0, 0) (h.cells j hjg hj'), ← hi]; simp

/-- What Came leaves, for a caller that reads. -/
def CameSaid (w : World) (rb : Nat) (g : Option Nat) (bs : List UInt8) (e : Ending) (w' : World) : Prop :=
  ∃ vl F v' g', e = .returned (.tuple #[vl, .int .i64 (if (Fr.all bs).2.2 then 3 else 0)]) ∧ FramesIn w' F vl (Fr.all bs).1 ∧ (∀ b, F b → w.heap.size ≤ b) ∧
    Rd w' rb v' g' (Fr.all bs).2.1 (Fr.all bs).2.2 ∧ (∀ b, F b → ¬ Use rb g' b) ∧ (∀ b, Use rb g' b → Use rb g b ∨ w.heap.size ≤ b) ∧
    (∀ k, k < w.heap.size → ¬ Use rb g k → w'.heap[k]? = w.heap[k]?) ∧ Below 0 w w'

theorem came_said {w : World} {rb : Nat} {v : Value} {g : Option Nat} {buf : List UInt8} (hR : Rd w rb v g buf false) {S : Nat → Prop} {va : Value} {c : List UInt8} (hv : BytesIn w S va c) (hsz : buf.length + c.length ≤ 1000000000) :
    Calls Try.prog 9 #[.pointer (some ⟨rb, 0, none⟩), va] w (CameSaid w rb g (buf ++ c)) := by
  have hrb : rb < w.heap.size := (Array.getElem?_eq_some_iff.1 hR.1).1
  refine (came_any w rb v g buf hR S va c hv hsz).mono ?_
  rintro e w' ⟨vl, gl, gs, v', g', he, hF, h1, h2, hR', h3, h4, h5, h6, h7⟩
  refine ⟨vl, _, v', g', he, hF.reads, ?_, hR', ?_, ?_, ?_, h7⟩
  · rintro b (hb | hb)
    · exact h1 b hb
    · exact h2 b hb
  · rintro b hb (hu | hu)
    · rcases hb with hb | hb
      · have := h1 b hb; omega
      · have := h2 b hb; omega
    · rcases hb with hb | hb
      · exact h3 b hb hu
      · exact h4 b hb hu
  · rintro b (hu | hu)
    · exact .inl (.inl hu)
    · rcases h5 with h5 | h5 | ⟨k, h5, h5'⟩
      · exact .inl (.inr (by rw [← h5]; exact hu))
      · rw [h5] at hu; cases hu
      · rw [h5] at hu; cases hu; exact .inr h5'
  · intro k hk hn
    exact h6 k hk (fun e => hn (.inl e)) (fun e => hn (.inr e.symm))

theorem came_broken {w : World} {rb : Nat} {v : Value} {g : Option Nat} {buf : List UInt8} (hR : Rd w rb v g buf true) (va : Value) :
    Calls Try.prog 9 #[.pointer (some ⟨rb, 0, none⟩), va] w fun e w' => e = .returned (.tuple #[.slice none 0 0, .int .i64 10]) ∧ w = w' := by
  obtain ⟨k0, k1, k2, kf⟩ := hR.cell
  clear kf hR
  go_enter Try.func9, Try.ntmps9
  go_wp2
  go_ret2
  exact ⟨rfl, rfl⟩

theorem left_said {w : World} {rb : Nat} {v : Value} {g : Option Nat} {buf : List UInt8} {broken : Bool} (hR : Rd w rb v g buf broken) :
    Calls Try.prog 10 #[.pointer (some ⟨rb, 0, none⟩)] w fun e w' => e = .returned (.int .i64 buf.length) ∧ w = w' := by
  obtain ⟨ao, cap, rfl⟩ := Own.form hR.2.1
  obtain ⟨k0, k1, k2, kf⟩ := hR.cell
  clear kf hR
  go_enter Try.func10, Try.ntmps10
  go_wp2
  go_ret
  exact ⟨rfl, rfl⟩

/-- A new reader. -/
def NewSaid (w : World) (e : Ending) (w' : World) : Prop :=
  ∃ rb, e = .returned (.pointer (some ⟨rb, 0, none⟩)) ∧ rb = w.heap.size ∧ Rd w' rb (.slice none 0 0) none [] false ∧ w' = w.alloc (.cells #[.slice none 0 0, .bool true, .bool false] 25)

theorem new_said (w : World) : Calls Try.prog 14 #[] w (NewSaid w) := by
  go_enter Try.func14, Try.ntmps14
  go_wp2
  go_ret
  exact ⟨w.heap.size, rfl, rfl, ⟨_root_.Go.heap_alloc_new w _, Own.nil _ _ _, by simp⟩, rfl⟩

/-- What Put leaves, for a caller that reads. -/
def PutSaid (w : World) (l : List UInt8) (e : Ending) (w' : World) : Prop :=
  ∃ g, e = .returned (.tuple #[.slice (some ⟨g, 0, none⟩) (l.length + 4) (l.length + 4), .int .i64 0]) ∧ w.heap.size ≤ g ∧ BytesIn w' (fun b => b = g) (.slice (some ⟨g, 0, none⟩) (l.length + 4) (l.length + 4)) (Fr.frame l) ∧
    w'.heap[g]? = some (.cells ((Fr.frame l).map byteCell).toArray 5 (0, 0)) ∧ Below w.heap.size w w'

theorem bytes_of_block {w : World} {g : Nat} {l : List UInt8} {n : Nat} {fr : Nat × Nat} (h : w.heap[g]? = some (.cells (l.map byteCell).toArray 5 fr)) (hn : n = l.length) (hm : l.length ≤ 1000000000) :
    BytesIn w (fun b => b = g) (.slice (some ⟨g, 0, none⟩) n n) l := by
  subst hn
  refine ⟨some ⟨g, 0, none⟩, l.length, by rw [List.length_map], by simp, by unfold maxLen; omega, (fun e => by cases e), fun _ => ⟨g, 0, rfl, rfl, fun i u hi => ?_⟩⟩
  rw [cell_of_row w g (0 + i) _ 5 fr h, ← hi]; simp

theorem put_said {w : World} {S : Nat → Prop} {v : Value} {l : List UInt8} (hv : BytesIn w S v l) (hS : ∀ b, S b → b < w.heap.size) (hn : l.length ≤ 65536) : Calls Try.prog 16 #[v] w (PutSaid w l) :=
  (put_ok w S v l hv hS hn).mono fun _ _ ⟨g, he, hg, hh, hb⟩ => ⟨g, he, hg, bytes_of_block hh (Fr.length_frame l).symm (by rw [Fr.length_frame]; omega), hh, hb⟩

theorem Rd.frame {w w' : World} {rb : Nat} {v : Value} {g : Option Nat} {buf : List UInt8} {broken : Bool} (h : Rd w rb v g buf broken) (hs : ∀ k, Use rb g k → k < w.heap.size → w'.heap[k]? = w.heap[k]?) : Rd w' rb v g buf broken :=
  ⟨(hs rb (.inl rfl) (Array.getElem?_eq_some_iff.1 h.1).1).trans h.1, h.2.1.frame fun k hk => hs k (.inr hk) (h.2.1.lt k hk), h.2.2⟩

theorem Rd.alloc {w : World} {rb : Nat} {v : Value} {g : Option Nat} {buf : List UInt8} {broken : Bool} (h : Rd w rb v g buf broken) (o : Obj) : Rd (w.alloc o) rb v g buf broken := h.frame fun k _ hk => Below.heap_alloc w o k hk

theorem Rd.use_lt {w : World} {rb : Nat} {v : Value} {g : Option Nat} {buf : List UInt8} {broken : Bool} (h : Rd w rb v g buf broken) : ∀ k, Use rb g k → k < w.heap.size := by
  rintro k (hk | hk)
  · rw [hk]; exact (Array.getElem?_eq_some_iff.1 h.1).1
  · exact h.2.1.lt k hk

/-- What Came leaves where what it tells is known. -/
structure CameIs (w : World) (rb : Nat) (g : Option Nat) (fs : List (List UInt8)) (rest : List UInt8) (k : Bool) (w' : World) (ao : Option Addr) (cap : Nat) (F : Nat → Prop) (v' : Value) (g' : Option Nat) : Prop where
  frames : FramesIn w' F (.slice ao fs.length cap) fs
  fresh : ∀ b, F b → w.heap.size ≤ b
  rd : Rd w' rb v' g' rest k
  apart : ∀ b, F b → ¬ Use rb g' b
  use : ∀ b, Use rb g' b → Use rb g b ∨ w.heap.size ≤ b
  keep : ∀ b, b < w.heap.size → ¬ Use rb g b → w'.heap[b]? = w.heap[b]?
  below : Below 0 w w'

theorem came_is {w : World} {rb : Nat} {v : Value} {g : Option Nat} {buf : List UInt8} (hR : Rd w rb v g buf false) {S : Nat → Prop} {va : Value} {c : List UInt8} (hv : BytesIn w S va c) (hsz : buf.length + c.length ≤ 1000000000)
    {fs : List (List UInt8)} {rest : List UInt8} {k : Bool} (hall : Fr.all (buf ++ c) = (fs, rest, k)) {n : Int} (hn : (if k then 3 else 0) = n) {Q : Ending → World → Prop}
    (h : ∀ w' ao cap F v' g', CameIs w rb g fs rest k w' ao cap F v' g' → Q (.returned (.tuple #[.slice ao fs.length cap, .int .i64 n])) w') :
    Calls Try.prog 9 #[.pointer (some ⟨rb, 0, none⟩), va] w Q := by
  refine (came_said hR hv hsz).mono ?_
  rintro e w' ⟨vl, F, v', g', he, hF, h1, hR', h2, h3, h4, h5⟩
  rw [hall] at he hF hR'
  obtain ⟨ao, cap, rfl, _⟩ := hF.open_
  rw [he]
  simp only [hn]
  exact h w' ao cap F v' g' ⟨hF, h1, hR', h2, h3, h4, h5⟩

theorem CameIs.bytes {w w' : World} {rb cap : Nat} {g g' : Option Nat} {fs : List (List UInt8)} {rest : List UInt8} {k : Bool} {ao : Option Addr} {F : Nat → Prop} {v' : Value} (h : CameIs w rb g fs rest k w' ao cap F v' g')
    {S : Nat → Prop} {v : Value} {l : List UInt8} (hB : BytesIn w S v l) (hS : ∀ b, S b → b < w.heap.size → ¬ Use rb g b) : BytesIn w' S v l := hB.frame fun b hb hlt => h.keep b hlt (hS b hb hlt)

theorem CameIs.others {w w' : World} {rb cap : Nat} {g g' : Option Nat} {fs : List (List UInt8)} {rest : List UInt8} {k : Bool} {ao : Option Addr} {F : Nat → Prop} {v' : Value} (h : CameIs w rb g fs rest k w' ao cap F v' g')
    {S : Nat → Prop} {v : Value} {l : List (List UInt8)} (hB : FramesIn w S v l) (hS : ∀ b, S b → b < w.heap.size → ¬ Use rb g b) : FramesIn w' S v l := hB.frame fun b hb hlt => h.keep b hlt (hS b hb hlt)

/-- What the reader does not use, and was there, it will not use. -/
theorem CameIs.notUse {w w' : World} {rb cap : Nat} {g g' : Option Nat} {fs : List (List UInt8)} {rest : List UInt8} {k : Bool} {ao : Option Addr} {F : Nat → Prop} {v' : Value} (h : CameIs w rb g fs rest k w' ao cap F v' g')
    {b : Nat} (hlt : b < w.heap.size) (hn : ¬ Use rb g b) : ¬ Use rb g' b := fun hu => by
  rcases h.use b hu with h1 | h1
  · exact hn h1
  · omega

theorem CameIs.belowAt {w w' : World} {rb cap : Nat} {g g' : Option Nat} {fs : List (List UInt8)} {rest : List UInt8} {k : Bool} {ao : Option Addr} {F : Nat → Prop} {v' : Value} (h : CameIs w rb g fs rest k w' ao cap F v' g')
    {B : Nat} (hB : B ≤ w.heap.size) (hn : ∀ b, b < B → ¬ Use rb g b) : Below B w w' :=
  ⟨h.below.os, h.below.tape, h.below.output, h.below.size, fun b hb => h.keep b (by omega) (hn b hb)⟩

theorem bytes_alloc {w : World} {S : Nat → Prop} {v : Value} {l : List UInt8} (h : BytesIn w S v l) (o : Obj) : BytesIn (w.alloc o) S v l := h.frame fun k _ hk => Below.heap_alloc w o k hk
theorem frames_alloc {w : World} {S : Nat → Prop} {v : Value} {l : List (List UInt8)} (h : FramesIn w S v l) (o : Obj) : FramesIn (w.alloc o) S v l := h.frame fun k _ hk => Below.heap_alloc w o k hk

theorem lit_bytes (w : World) {k : Nat} {n : Nat} (l : List UInt8) (hk : k = w.heap.size) (hn : n = l.length) (hm : l.length ≤ 1000000000) (o : Array Value) (ho : o = (l.map byteCell).toArray) (fr : Nat × Nat) :
    BytesIn (w.alloc (.cells o 5 fr)) (fun b => b = k) (.slice (some ⟨k, 0, none⟩) n n) l := by
  subst hk; subst ho
  exact bytes_of_block (_root_.Go.heap_alloc_new w _) hn hm

set_option maxRecDepth 100000 in
set_option maxHeartbeats 4000000 in
theorem alive_said (w : World) : Calls Try.prog 11 #[] w fun e w' => e = .returned (.bool true) ∧ Below w.heap.size w w' := by
  have kc := fun (w : World) (C : Array Value) (n c : Nat) => Lib.run_convert_bytes_const (P := Try.prog) w 22 5 C n c Try.underlying22 Try.underlying5
  go_enter Try.func11, Try.ntmps11
  go_wp2_with fail
  refine (put_said (lit_bytes w [97, 98] rfl rfl (by decide) _ rfl _) (by simp) (by decide)).mono ?_
  rintro e w1 ⟨gp, rfl, hge, hbp, hhp, hb1⟩
  have H1 := Lib.hid (And.intro hge (And.intro hbp (And.intro hhp hb1)))
  clear hge hbp hhp hb1
  go_wp2_with fail
  refine (new_said _).mono ?_
  rintro e w2 ⟨rb, rfl, hrb, hR2, hw2⟩
  have H2 := Lib.hid (And.intro hrb (And.intro hR2 hw2))
  clear hrb hR2 hw2
  go_wp2_with fail
  refine came_is (H2.out.2.1.alloc _) (lit_bytes w2 [0, 0, 0] rfl rfl (by decide) _ rfl _) (by decide) (fs := []) (rest := [0, 0, 0]) (k := false) (by decide) rfl ?_
  intro w3 a3 c3 F3 v3 g3 h3
  have H3 := Lib.hid h3
  clear h3
  go_wp2_with fail
  refine (left_said H3.out.rd).mono ?_
  rintro e w' ⟨rfl, rfl⟩
  go_wp2_with fail
  refine came_is (H3.out.rd.alloc _) (lit_bytes w3 [1, 120, 0, 0, 0, 0, 0] rfl rfl (by decide) _ rfl _) (by decide) (fs := [[120], []]) (rest := [0]) (k := false) (by decide) rfl ?_
  intro w4 a4 c4 F4 v4 g4 h4
  have H4 := Lib.hid h4
  clear h4
  go_wp2_with fail
  refine (left_said H4.out.rd).mono ?_
  rintro e w' ⟨rfl, rfl⟩
  go_wp2_with fail
  refine came_is (H4.out.rd.alloc _) (lit_bytes w4 [0, 0, 0, 0, 1, 0, 1] rfl rfl (by decide) _ rfl _) (by decide) (fs := [[]]) (rest := []) (k := true) (by decide) rfl ?_
  intro w5 a5 c5 F5 v5 g5 h5
  have H5 := Lib.hid h5
  clear h5
  go_wp2_with fail
  refine (came_broken (H5.out.rd.alloc _) _).mono ?_
  rintro e w6 ⟨rfl, hw6⟩
  have hs0 : w2.heap.size = w1.heap.size + 1 := by rw [H2.out.2.2]; simp
  have hgp : gp < w1.heap.size := (Array.getElem?_eq_some_iff.1 H1.out.2.2.1).1
  have hs3 := H3.out.below.size
  have hs4 := H4.out.below.size
  have hs5 := H5.out.below.size
  rw [World.size_alloc] at hs3 hs4 hs5
  have n2 : ¬ Use rb none gp := by rintro (h | h); · have := H2.out.1; omega
                                   · cases h
  have n3 := H3.out.notUse (b := gp) (by simp; omega) n2
  have n4 := H4.out.notUse (b := gp) (by simp; omega) n3
  have p1 : BytesIn w2 (fun b => b = gp) (.slice (some ⟨gp, 0, none⟩) 6 6) [0, 0, 0, 2, 97, 98] := by
    have h := H1.out.2.1
    have ef : Fr.frame [97, 98] = [0, 0, 0, 2, 97, 98] := by decide
    rw [ef] at h
    rw [H2.out.2.2]; exact bytes_alloc h _
  have p3 := H3.out.bytes (bytes_alloc p1 _) (fun b hb _ => by subst hb; exact n2)
  have p4 := H4.out.bytes (bytes_alloc p3 _) (fun b hb _ => by subst hb; exact n3)
  have p5 := bytes_alloc (H5.out.bytes (bytes_alloc p4 _) (fun b hb _ => by subst hb; exact n4))
  have q5 := frames_alloc (H5.out.others (frames_alloc H4.out.frames _) (fun b hb _ => H4.out.apart b hb))
  have r5 := frames_alloc H5.out.frames
  have t5 := H5.out.rd.alloc
  have hbel : Below w.heap.size w w6 := by
    have hs1 := H1.out.2.2.2.size
    rw [World.size_alloc] at hs1
    have b1 : Below w.heap.size w w1 := ((Below.refl _ w).alloc (Nat.le_refl _) _).trans (H1.out.2.2.2.mono (by simp))
    have b2 : Below w.heap.size w w2 := by rw [H2.out.2.2]; exact b1.alloc b1.size _
    have m2 : ∀ b, b < w.heap.size → ¬ Use rb none b := by
      rintro b hb (h | h)
      · have := H2.out.1; omega
      · cases h
    have m3 : ∀ b, b < w.heap.size → ¬ Use rb g3 b := fun b hb => H3.out.notUse (by simp; omega) (m2 b hb)
    have m4 : ∀ b, b < w.heap.size → ¬ Use rb g4 b := fun b hb => H4.out.notUse (by simp; omega) (m3 b hb)
    have b3 := (b2.alloc b2.size _).trans (H3.out.belowAt (by simp; omega) m2)
    have b4 := (b3.alloc b3.size _).trans (H4.out.belowAt (by simp; omega) m3)
    have b5 := (b4.alloc b4.size _).trans (H5.out.belowAt (by simp; omega) m4)
    rw [← hw6]
    exact b5.alloc b5.size _
  have HB := Lib.hid hbel
  have HT := fun o => left_said (t5 o)
  clear n2 n3 n4 p1 p3 p4 hs0 hgp hs3 hs4 hs5 hbel t5
  obtain ⟨_, _, ea, _, _, _, hx⟩ := (q5 (.cells #[.int .u8 1] 5)).open_
  obtain ⟨bl, off, rfl, _, hcx⟩ := hx (by decide)
  obtain ⟨u0, d0, e0⟩ := hcx 0 (by decide)
  obtain ⟨u1, d1, e1⟩ := hcx 1 (by decide)
  obtain ⟨au1, cu1, hu1, _⟩ := e1.open_
  obtain rfl : u1 = .slice au1 0 cu1 := hu1
  obtain ⟨_, _, eb, _, _, _, hy⟩ := (r5 (.cells #[.int .u8 1] 5)).open_
  obtain ⟨bl5, off5, rfl, _, hcy⟩ := hy (by decide)
  obtain ⟨u5, d5, e5⟩ := hcy 0 (by decide)
  obtain ⟨au5, cu5, hu5, _⟩ := e5.open_
  obtain rfl : u5 = .slice au5 0 cu5 := hu5
  have sp := string_of_bytes (P := Try.prog) _ Try.underlying22 Try.underlying5 Try.underlying9 (p5 (.cells #[.int .u8 1] 5))
  replace e0 : BytesIn _ F4 u0 [120] := e0
  obtain ⟨au0, cu0, hu0, _⟩ := e0.open_
  obtain rfl : u0 = .slice au0 1 cu0 := hu0
  have su := string_of_bytes (P := Try.prog) _ Try.underlying22 Try.underlying5 Try.underlying9 e0
  rw [Nat.add_zero] at d0 d5
  clear hcx hcy hx hy e0 e1 e5 q5 r5 p5 kc
  subst hw6
  go_wp2_with (go_at_call 10; refine (HT _).mono ?_; rintro e w' ⟨rfl, rfl⟩)
  go_ret
  exact ⟨rfl, HB.out⟩
end Go.Proofs.Ytolkphbnneoloaa
