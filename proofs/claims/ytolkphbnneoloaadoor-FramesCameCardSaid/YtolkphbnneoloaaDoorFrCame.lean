/- Frames: what Came computes. -/
import Derived.Test.YtolkphbnneoloaaDoorFrNext
namespace Go.Proofs.YtolkphbnneoloaaDoor
open Go.RowKit Go.My

theorem framesElem : Elem Tryd.prog 45 22 1 24 (.slice none 0 0) := Elem.mk' Tryd.underlying45 (by kernel_rfl) rfl (by decide)

/-- The value of one frame in a block of its own. -/
def frameVal (g : Nat) (l : List UInt8) : Value := .slice (some ⟨g, 0, none⟩) l.length l.length

/-- A list of slices of bytes, each in a block of its own, the list too. -/
structure OwnFrames (w : World) (v : Value) (gl : Option Nat) (ls : List (List UInt8)) (gs : List Nat) : Prop where
  len : gs.length = ls.length
  own : Own w 22 1 v ls.length (List.zipWith frameVal gs ls) gl
  cells : ∀ j (h : j < gs.length) (h' : j < ls.length), w.heap[gs[j]]? = some (.cells ((ls[j]).map byteCell).toArray 5 (0, 0))
  most : ∀ l ∈ ls, l.length ≤ 65536
  nodup : gs.Nodup
  apart : ∀ k, gl = some k → k ∉ gs

theorem OwnFrames.nil (w : World) : OwnFrames w (.slice none 0 0) none [] [] :=
  ⟨rfl, Own.nil _ _ _, fun _ h => absurd h (Nat.not_lt_zero _), fun _ h => absurd h (List.not_mem_nil), List.nodup_nil, fun _ h => by cases h⟩

theorem OwnFrames.lt {w : World} {v : Value} {gl : Option Nat} {ls : List (List UInt8)} {gs : List Nat} (h : OwnFrames w v gl ls gs) : ∀ g ∈ gs, g < w.heap.size := by
  intro g hg
  obtain ⟨j, hj, rfl⟩ := List.mem_iff_getElem.1 hg
  exact (Array.getElem?_eq_some_iff.1 (h.cells j hj (by rw [← h.len]; exact hj))).1

theorem OwnFrames.frame {w w' : World} {v : Value} {gl : Option Nat} {ls : List (List UInt8)} {gs : List Nat} (h : OwnFrames w v gl ls gs)
    (hs : ∀ k, (k ∈ gs ∨ gl = some k) → k < w.heap.size → w'.heap[k]? = w.heap[k]?) : OwnFrames w' v gl ls gs :=
  ⟨h.len, h.own.frame fun k hk => hs k (.inr hk) (h.own.lt k hk), fun j hj hj' => (hs _ (.inl (List.getElem_mem hj)) (h.lt _ (List.getElem_mem hj))).trans (h.cells j hj hj'), h.most, h.nodup, h.apart⟩

/-- One frame more, put behind. -/
theorem OwnFrames.push {w w1 : World} {v v1 : Value} {gl gl1 : Option Nat} {ls : List (List UInt8)} {gs : List Nat} {g : Nat} {l : List UInt8} (h : OwnFrames w v gl ls gs)
    (hg : w.heap[g]? = some (.cells (l.map byteCell).toArray 5 (0, 0))) (hm : l.length ≤ 65536) (hng : g ∉ gs) (hgl : gl ≠ some g)
    (hown : Own w1 22 1 v1 (ls.length + 1) (List.zipWith frameVal gs ls ++ [frameVal g l]) gl1) (hs : Step w w1 gl) (hn : gl1 = gl ∨ ∃ k, gl1 = some k ∧ w.heap.size ≤ k) :
    OwnFrames w1 v1 gl1 (ls ++ [l]) (gs ++ [g]) := by
  have hglt : g < w.heap.size := (Array.getElem?_eq_some_iff.1 hg).1
  refine ⟨by simp [h.len], ?_, ?_, ?_, ?_, ?_⟩
  · rw [List.length_append, List.zipWith_append h.len]
    exact hown
  · intro j hj hj'
    by_cases hlt : j < gs.length
    · rw [List.getElem_append_left hlt, List.getElem_append_left (by rw [← h.len]; exact hlt)]
      rw [hs.block _ (h.lt _ (List.getElem_mem hlt)) (fun e => h.apart _ e.symm (List.getElem_mem hlt))]
      exact h.cells j hlt _
    · have hj0 : j = gs.length := by simp at hj; omega
      subst hj0
      have e1 : (gs ++ [g])[gs.length]'hj = g := by simp
      have e2 : (ls ++ [l])[gs.length]'hj' = l := by simp [h.len]
      rw [e1, e2, hs.block _ hglt (fun e => hgl e.symm)]
      exact hg
  · intro x hx
    rcases List.mem_append.1 hx with hx | hx
    · exact h.most x hx
    · rw [List.mem_singleton.1 hx]; exact hm
  · rw [List.nodup_append]
    refine ⟨h.nodup, by simp, fun a ha b hb => ?_⟩
    rw [List.mem_singleton.1 hb]; intro e; rw [e] at ha; exact hng ha
  · intro k hk
    rw [List.mem_append, List.mem_singleton]
    rcases hn with hn | ⟨k', hk', hge⟩
    · rw [hn] at hk
      rintro (hx | hx)
      · exact h.apart k hk hx
      · rw [hx] at hk; exact hgl hk
    · rw [hk'] at hk; cases hk
      rintro (hx | hx)
      · have := h.lt _ hx; omega
      · omega

/-- How many bytes the reader at rb has left. -/
def leftAt (w : World) (rb : Nat) : Nat := match w.cell? ⟨rb, 0, none⟩ with | some (.slice _ n _) => n | _ => 0

theorem Rd.left {w : World} {rb : Nat} {v : Value} {g : Option Nat} {buf : List UInt8} {broken : Bool} (h : Rd w rb v g buf broken) : leftAt w rb = buf.length := by
  obtain ⟨ao, cap, hv, _⟩ := (bytes_own h.2.1).open_
  rw [leftAt, h.cell.1, hv]

/-- What Came leaves: the frames are told, in memory of their own; the reader has what is left. -/
def CamePost (w : World) (rb : Nat) (g : Option Nat) (bs : List UInt8) (e : Ending) (w' : World) : Prop :=
  ∃ vl gl gs v' g', e = .returned (.tuple #[vl, .int .i64 (if (Fr.all bs).2.2 then 3 else 0)]) ∧ OwnFrames w' vl gl (Fr.all bs).1 gs ∧ (∀ k ∈ gs, w.heap.size ≤ k) ∧ (∀ k, gl = some k → w.heap.size ≤ k) ∧
    Rd w' rb v' g' (Fr.all bs).2.1 (Fr.all bs).2.2 ∧ (∀ k ∈ gs, g' ≠ some k) ∧ (∀ k, gl = some k → g' ≠ some k) ∧ (g' = g ∨ g' = none ∨ ∃ k, g' = some k ∧ w.heap.size ≤ k) ∧
    (∀ k, k < w.heap.size → k ≠ rb → some k ≠ g → w'.heap[k]? = w.heap[k]?) ∧ Below 0 w w'

/-- At the head of a round. -/
structure CameIn (w1 : World) (rb : Nat) (g1 : Option Nat) (bs : List UInt8) (vl : Value) (wr : World) (done : List (List UInt8)) (rest : List UInt8) (gl : Option Nat) (gs : List Nat) (v : Value) : Prop where
  all : Fr.all bs = (done ++ (Fr.all rest).1, (Fr.all rest).2)
  rd : Rd wr rb v g1 rest false
  fr : OwnFrames wr vl gl done gs
  new : ∀ k ∈ gs, w1.heap.size ≤ k
  newl : ∀ k, gl = some k → w1.heap.size ≤ k
  keep : ∀ k, k < w1.heap.size → k ≠ rb → wr.heap[k]? = w1.heap[k]?
  below : Below 0 w1 wr
  room : done.length * 4 + rest.length ≤ bs.length
  old : (∀ k, g1 = some k → k < w1.heap.size) ∧ rb < w1.heap.size

def CameAt (w1 : World) (rb : Nat) (g1 : Option Nat) (bs : List UInt8) (vl : Value) (wr : World) : Prop :=
  ∃ done rest gl gs v, CameIn w1 rb g1 bs vl wr done rest gl gs v

/-- What was before the loop, of the world that Came was called in. -/
def CameFrom (w W1 : World) (rb : Nat) (g g1 : Option Nat) : Prop :=
  (∀ k, k < w.heap.size → k ≠ rb → some k ≠ g → W1.heap[k]? = w.heap[k]?) ∧ Below 0 w W1 ∧ w.heap.size ≤ W1.heap.size ∧ (g1 = g ∨ ∃ k, g1 = some k ∧ w.heap.size ≤ k)

theorem came_stop {w W1 wr : World} {rb : Nat} {g g1 gl : Option Nat} {bs rest : List UInt8} {vl v : Value} {done : List (List UInt8)} {gs : List Nat} (h0 : CameFrom w W1 rb g g1) (h : CameIn W1 rb g1 bs vl wr done rest gl gs v)
    (hr : Fr.all rest = ([], rest, false)) : CamePost w rb g bs (.returned (.tuple #[vl, .int .i64 0])) wr := by
  obtain ⟨a1, a2, a3, a4⟩ := h0
  have e := h.all
  rw [hr] at e
  simp only [List.append_nil] at e
  refine ⟨vl, gl, gs, v, g1, by rw [e]; rfl, by rw [e]; exact h.fr, fun k hk => Nat.le_trans a3 (h.new k hk), fun k hk => Nat.le_trans a3 (h.newl k hk), by rw [e]; exact h.rd, ?_, ?_, ?_, ?_, a2.trans h.below⟩
  · intro k hk hg; have := h.new k hk; have := h.old.1 k hg; omega
  · intro k hk hg; have := h.newl k hk; have := h.old.1 k hg; omega
  · rcases a4 with a4 | a4
    · exact .inl a4
    · exact .inr (.inr a4)
  · intro k hk hkr hkg
    exact (h.keep k (by omega) hkr).trans (a1 k hk hkr hkg)

theorem came_break {w W1 wr : World} {rb : Nat} {g g1 gl : Option Nat} {bs rest : List UInt8} {vl v : Value} {done : List (List UInt8)} {gs : List Nat} (h0 : CameFrom w W1 rb g g1) (h : CameIn W1 rb g1 bs vl wr done rest gl gs v)
    (hr : Fr.all rest = ([], [], true)) : CamePost w rb g bs (.returned (.tuple #[vl, .int .i64 3])) ((wr.setCell ⟨rb, 0, none⟩ (.slice none 0 0)).setCell ⟨rb, 2, none⟩ (.bool true)) := by
  obtain ⟨a1, a2, a3, a4⟩ := h0
  have e := h.all
  rw [hr] at e
  simp only [List.append_nil] at e
  have hk : ∀ k, k ≠ rb → ((wr.setCell ⟨rb, 0, none⟩ (.slice none 0 0)).setCell ⟨rb, 2, none⟩ (.bool true)).heap[k]? = wr.heap[k]? := fun k hk =>
    (Below.heap_setCell _ _ _ _ hk).trans (Below.heap_setCell _ _ _ _ hk)
  have hnr : ∀ k, (k ∈ gs ∨ gl = some k) → k ≠ rb := by
    intro k hk e
    have := h.old.2
    rcases hk with hk | hk
    · have := h.new k hk; omega
    · have := h.newl k hk; omega
  refine ⟨vl, gl, gs, .slice none 0 0, none, by rw [e]; rfl, by rw [e]; exact h.fr.frame fun k hg _ => hk k (hnr k hg), fun k hk => Nat.le_trans a3 (h.new k hk), fun k hk => Nat.le_trans a3 (h.newl k hk), ?_, (fun _ _ h => by cases h), (fun _ _ h => by cases h), .inr (.inl rfl), ?_, ?_⟩
  · rw [e]
    refine ⟨?_, Own.nil _ _ _, by simp⟩
    have h1 := heap_setCell_same wr rb 0 _ 61 (.slice none 0 0) h.rd.1
    rw [heap_setCell_same _ rb 2 _ 61 _ h1]; rfl
  · intro k hkk hkr hkg
    exact (hk k hkr).trans ((h.keep k (by omega) hkr).trans (a1 k hkk hkr hkg))
  · exact a2.trans (h.below.trans ⟨rfl, rfl, rfl, by simp, fun k hk => absurd hk (Nat.not_lt_zero _)⟩)

theorem came_more {W1 wr w2 w3 : World} {rb gf : Nat} {g1 gl gl3 : Option Nat} {bs rest rest' l : List UInt8} {n : Nat} {vl v v2 v3 : Value} {done : List (List UInt8)} {gs : List Nat} {A : Obj} (h : CameIn W1 rb g1 bs vl wr done rest gl gs v)
    (hstep : Fr.all rest = (l :: (Fr.all rest').1, (Fr.all rest').2)) (hlen : l.length = n) (hm : n ≤ 65536) (hw : rest'.length + 4 ≤ rest.length) (hge : wr.heap.size ≤ gf)
    (hgf : w2.heap[gf]? = some (.cells (l.map byteCell).toArray 5 (0, 0))) (hR : Rd w2 rb v2 g1 rest' false)
    (hk : ∀ k, k < wr.heap.size → k ≠ rb → w2.heap[k]? = wr.heap[k]?) (hs : Step wr w2 (some rb))
    (hown : Own w3 22 1 v3 (done.length + 1) (List.zipWith frameVal gs done ++ [.slice (some ⟨gf, 0, none⟩) n n]) gl3) (hs3 : Step (w2.alloc A) w3 gl) (hg3 : gl3 = gl ∨ ∃ k, gl3 = some k ∧ (w2.alloc A).heap.size ≤ k) :
    CameAt W1 rb g1 bs v3 w3 ∧ leftAt w3 rb < leftAt wr rb := by
  have hgfl : gf < w2.heap.size := (Array.getElem?_eq_some_iff.1 hgf).1
  have hsz2 := hs.size
  have hsz1 : W1.heap.size ≤ wr.heap.size := h.below.size
  have hF2 : OwnFrames (w2.alloc A) vl gl done gs := (h.fr.frame (w' := w2) fun k hk' hlt => hk k hlt (by
      intro e
      have := h.old.2
      rcases hk' with hk' | hk'
      · have := h.new k hk'; omega
      · have := h.newl k hk'; omega)).frame fun k _ hlt => Below.heap_alloc w2 A k hlt
  have hval : Value.slice (some ⟨gf, 0, none⟩) n n = frameVal gf l := by rw [frameVal, hlen]
  rw [hval] at hown
  have hF3 := hF2.push ((Below.heap_alloc w2 A gf hgfl).trans hgf) (by rw [hlen]; exact hm) (fun hx => by have := h.fr.lt gf hx; omega) (fun e => by have := h.fr.own.lt gf e; omega) hown hs3 hg3
  have h3 : ∀ k, k < w2.heap.size → some k ≠ gl → w3.heap[k]? = w2.heap[k]? := fun k hk hn => (hs3.block k (by simp; omega) hn).trans (Below.heap_alloc w2 A k hk)
  have hrb2 : some rb ≠ gl := fun e => by have := h.newl rb e.symm; have := h.old.2; omega
  have hrb1 : rb < w2.heap.size := (Array.getElem?_eq_some_iff.1 hR.1).1
  have hR3 : Rd w3 rb v2 g1 rest' false :=
    ⟨(h3 rb hrb1 hrb2).trans hR.1, hR.2.1.frame fun k hk => h3 k (hR.2.1.lt k hk) (fun e => by have := h.newl k e.symm; have := h.old.1 k hk; omega), hR.2.2⟩
  refine ⟨⟨done ++ [l], rest', gl3, gs ++ [gf], v2, ?_, hR3, hF3, ?_, ?_, ?_, ?_, ?_, h.old⟩, ?_⟩
  · rw [h.all, hstep]
    generalize Fr.all rest' = r
    simp
  · intro k hk
    rcases List.mem_append.1 hk with hk | hk
    · exact h.new k hk
    · rw [List.mem_singleton.1 hk]; omega
  · intro k hk
    rcases hg3 with hg3 | ⟨k', hk', hge'⟩
    · rw [hg3] at hk; exact h.newl k hk
    · rw [hk'] at hk; cases hk; simp at hge'; omega
  · intro k hkk hkr
    exact (h3 k (by omega) (fun e => by have := h.newl k e.symm; omega)).trans ((hk k (by omega) hkr).trans (h.keep k hkk hkr))
  · have e1 : Below 0 wr w2 := ⟨hs.os, hs.tape, hs.output, hs.size, fun k hk => absurd hk (Nat.not_lt_zero _)⟩
    have e2 : Below 0 w2 w3 := ((Below.refl 0 w2).alloc (Nat.zero_le _) A).trans ⟨hs3.os, hs3.tape, hs3.output, hs3.size, fun k hk => absurd hk (Nat.not_lt_zero _)⟩
    exact h.below.trans (e1.trans e2)
  · have := h.room; rw [List.length_append]; simp; omega
  · rw [hR3.left, h.rd.left]; omega

theorem Own.form {w : World} {e : TypeId} {size : Nat} {v : Value} {n : Nat} {xs : List Value} {g : Option Nat} (h : Own w e size v n xs g) : ∃ ao cap, v = .slice ao n cap := by
  rcases h.2 with ⟨hv, hn, _⟩ | ⟨b, off, cap, cur, hv, _⟩
  · exact ⟨none, 0, by rw [hv, hn]⟩
  · exact ⟨_, cap, hv⟩

/-- Behind 'r.b = append(r.b, b...)'. -/
theorem came_start {w w1 : World} {rb : Nat} {v v1 : Value} {g g1 : Option Nat} {buf c : List UInt8} (hR : Rd w rb v g buf false) (hown : Own w1 5 1 v1 (buf.length + c.length) (buf.map byteCell ++ c.map byteCell) g1)
    (hs : Step w w1 g) (hn : g1 = g ∨ ∃ k, g1 = some k ∧ w.heap.size ≤ k) :
    w1.cell? ⟨rb, 0, none⟩ = some v ∧ w1.frozen? ⟨rb, 0, none⟩ = false ∧ Rd (w1.setCell ⟨rb, 0, none⟩ v1) rb v1 g1 (buf ++ c) false ∧
    (∀ k, k < w.heap.size → k ≠ rb → some k ≠ g → (w1.setCell ⟨rb, 0, none⟩ v1).heap[k]? = w.heap[k]?) ∧ Below 0 w (w1.setCell ⟨rb, 0, none⟩ v1) ∧ w.heap.size ≤ (w1.setCell ⟨rb, 0, none⟩ v1).heap.size := by
  have hrb : rb < w.heap.size := (Array.getElem?_eq_some_iff.1 hR.1).1
  have hne : some rb ≠ g := fun e => hR.2.2 e.symm
  have h1 : w1.heap[rb]? = some (.cells #[v, .bool true, .bool false] 61 (0, 0)) := (hs.block rb hrb hne).trans hR.1
  refine ⟨by rw [cell_of_row w1 rb _ _ _ _ h1]; rfl, frozen_of_row w1 rb 0 _ _ h1, ⟨?_, ?_, ?_⟩, ?_, ?_, by simpa using hs.size⟩
  · rw [heap_setCell_same w1 rb 0 _ 61 _ h1]; rfl
  · rw [List.length_append, List.map_append]
    refine hown.frame fun k hk => Below.heap_setCell _ _ _ _ ?_
    rcases hn with hn | ⟨k', hk', hge⟩
    · rw [hn] at hk; intro e; exact hR.2.2 (by rw [hk, e])
    · rw [hk'] at hk; cases hk; intro e; simp at e; omega
  · rcases hn with hn | ⟨k', hk', hge⟩
    · rw [hn]; exact hR.2.2
    · rw [hk']; intro e; cases e; omega
  · intro k hk hkr hkg
    exact (Below.heap_setCell _ _ _ _ hkr).trans (hs.block k hk hkg)
  · exact ⟨hs.os, hs.tape, hs.output, by simpa using hs.size, fun k hk => absurd hk (Nat.not_lt_zero _)⟩

theorem came_own {W1 wr w2 : World} {rb : Nat} {g1 gl : Option Nat} {bs rest : List UInt8} {vl v : Value} {done : List (List UInt8)} {gs : List Nat} {A : Obj} (h : CameIn W1 rb g1 bs vl wr done rest gl gs v)
    (hk : ∀ k, k < wr.heap.size → k ≠ rb → w2.heap[k]? = wr.heap[k]?) : Own (w2.alloc A) 22 1 vl done.length (List.zipWith frameVal gs done) gl := by
  refine (h.fr.own.frame (w' := w2) fun k hg => hk k (h.fr.own.lt k hg) (fun e => by have := h.newl k hg; have := h.old.2; omega)).frame fun k hg => ?_
  have h1 := h.fr.own.lt k hg
  have h2 : w2.heap[k]? = wr.heap[k]? := hk k h1 (fun e => by have := h.newl k hg; have := h.old.2; omega)
  refine Below.heap_alloc w2 A k ?_
  rcases Nat.lt_or_ge k w2.heap.size with hlt | hlt
  · exact hlt
  · rw [Array.getElem?_eq_none hlt, Array.getElem?_eq_getElem h1] at h2; cases h2

set_option maxRecDepth 100000 in
set_option maxHeartbeats 1000000 in
theorem came_any (w : World) (rb : Nat) (v : Value) (g : Option Nat) (buf : List UInt8) (hR : Rd w rb v g buf false) (S : Nat → Prop) (va : Value) (c : List UInt8) (hv : BytesIn w S va c) (hsz : buf.length + c.length ≤ 1000000000) :
    Calls Tryd.prog 15 #[.pointer (some ⟨rb, 0, none⟩), va] w (CamePost w rb g (buf ++ c)) := by
  obtain ⟨k0, k1, k2, kf⟩ := hR.cell
  have f0 := kf 0
  obtain ⟨ao, cap, rfl⟩ := Own.form hR.2.1
  obtain ⟨ao2, cap2, rfl, _⟩ := hv.open_
  have HR := Lib.hid hR
  have HS := Lib.hid hv.src
  clear hR hv kf
  go_enter Tryd.func15, Tryd.ntmps15
  go_wp2_with (refine wpList_append _ rfl (.tmp 28) (.tmp 29) rfl bytesElem (v := .slice ao buf.length cap) rfl HR.out.2.1 (y := .slice ao2 c.length cap2) rfl HS.out (byteCells_one _) (by unfold maxLen; omega) (by omega) ?_; intro v1 w1 g1 hown1 hs1 hg1; obtain ⟨ao1, cap1, rfl⟩ := Own.form hown1; obtain ⟨c0, c1, hR1, hk1, hb1, hz1⟩ := came_start HR.out hown1 hs1 hg1; have HR1 := Lib.hid hR1; have HK1 := Lib.hid (And.intro hk1 (And.intro hb1 (And.intro hz1 hg1))); clear hown1 hR1 hk1 hb1 hs1 hg1 hz1 k0 f0)
  obtain ⟨W1, hW1⟩ : ∃ W1, W1 = w1.setCell ⟨rb, 0, none⟩ (.slice ao1 (buf.length + c.length) cap1) := ⟨_, rfl⟩
  rw [← hW1] at HR1 HK1 ⊢
  clear hW1 c0 c1 k1 k2
  go_loopw [4] (fun vl wr => CameAt W1 rb g1 (buf ++ c) vl wr) (fun _ wr => leftAt wr rb)
  case atStart => exact ⟨[], buf ++ c, none, [], _, by simp, HR1.out, OwnFrames.nil _, (fun _ h => absurd h List.not_mem_nil), (fun _ h => by cases h), fun _ _ _ => rfl, Below.refl _ _, by simp, fun k hk => HR1.out.2.1.lt k hk, (Array.getElem?_eq_some_iff.1 HR1.out.1).1⟩
  case round =>
    obtain ⟨done, rest, gl, gs, v2, hin⟩ := hrel
    obtain ⟨ao3, cap3, rfl⟩ := Own.form hin.fr.own
    have hroom := hin.room
    rw [List.length_append] at hroom
    have HI := Lib.hid hin
    obtain ⟨e0, e1, e2, ef⟩ := hin.rd.cell
    have f2 := ef 0
    have f3 := ef 2
    clear hin ef
    by_cases hA : rest.length < 4
    · have HA := Lib.hid hA
      clear hA
      go_wp2_with (go_at_call 59; (with_reducible refine (next_short wr rb v2 g1 rest false HI.out.rd HA.out).mono ?_); rintro e w' ⟨rfl, rfl⟩)
      go_ret2
      exact came_stop HK1.out HI.out (Fr.all_short rest HA.out)
    · have HA := Lib.hid (Nat.not_lt.1 hA)
      clear hA
      by_cases hB : Fr.most < Fr.num4 rest
      · have HB := Lib.hid hB
        clear hB
        obtain ⟨ao4, cap4, rfl⟩ := Own.form HI.out.rd.2.1
        go_wp2_with (go_at_call 59; (with_reducible refine (next_great wr rb _ g1 rest false HI.out.rd HA.out HB.out).mono ?_); rintro e w' ⟨rfl, rfl⟩)
        go_ret2
        exact came_break HK1.out HI.out (Fr.all_great rest HA.out HB.out)
      · have HB := Lib.hid (Nat.not_lt.1 hB)
        clear hB
        by_cases hC : rest.length < 4 + Fr.num4 rest
        · have HC := Lib.hid hC
          clear hC
          go_wp2_with (go_at_call 59; (with_reducible refine (next_part wr rb v2 g1 rest false HI.out.rd HA.out HB.out HC.out).mono ?_); rintro e w' ⟨rfl, rfl⟩)
          go_ret2
          exact came_stop HK1.out HI.out (Fr.all_part rest HA.out HB.out HC.out)
        · have HC := Lib.hid (Nat.not_lt.1 hC)
          clear hC
          go_wp2_with (first
            | (go_at_call 59; (with_reducible refine (next_whole wr rb v2 g1 rest false HI.out.rd HA.out HB.out HC.out).mono ?_); rintro e w2 ⟨gf, vf, rfl, hge, hgf, hRf, hkf, hsf⟩; have HF := Lib.hid (And.intro hge (And.intro hgf (And.intro hRf (And.intro hkf hsf)))); clear hge hgf hRf hkf hsf)
            | (refine wpList_append _ rfl (.tmp 53) (.tmp 55) rfl framesElem (v := .slice ao3 done.length cap3) rfl (came_own HI.out HF.out.2.2.2.1) (y := .slice (some ⟨w2.heap.size, 0, none⟩) 1 1) rfl (Src.lit _ _ rfl rfl) (by simp [Value.oneCell']) (by unfold maxLen; omega) (by omega) ?_; intro v3 w3 gl3 hown3 hs3 hg3; have HX := Lib.hid (And.intro hown3 (And.intro hs3 hg3)); clear hown3 hs3 hg3))
          go_roundw
          all_goals
            obtain ⟨x1, x2, x3, x4, x5⟩ := HF.out
            obtain ⟨y1, y2, y3⟩ := HX.out
          case rel => exact (came_more HI.out (Fr.all_whole rest HA.out HB.out HC.out) (Fr.length_piece rest HC.out) HB.out (Fr.length_rest rest HC.out) x1 x2 x3 x4 x5 y1 y2 y3).1
          case measure => exact (came_more HI.out (Fr.all_whole rest HA.out HB.out HC.out) (Fr.length_piece rest HC.out) HB.out (Fr.length_rest rest HC.out) x1 x2 x3 x4 x5 y1 y2 y3).2
end Go.Proofs.YtolkphbnneoloaaDoor
