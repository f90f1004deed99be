/- Tokens: Read. -/
import Derived.Test.YtcldcigopkfmmaaGreatDoorToAll
import Derived.Test.YtcldcigopkfmmaaGreatDoorToIt2
import Derived.BigRegionIn
import Derived.Shelf.RegionOpen
namespace Go.To
theorem scan_len : ∀ (f p : Nat) (l : List UInt8), (scan f p l).1.length ≤ l.length := by
  intro f
  induction f with
  | zero => intro p l; exact Nat.zero_le _
  | succ f ih =>
    intro p l
    rw [scan]
    split
    · exact Nat.zero_le _
    · split
      · exact Nat.zero_le _
      · rename_i h0 h1
        have hp := tok_pos l h1
        have hl : 0 < l.length := by cases l with | nil => exact absurd rfl h0 | cons _ _ => simp
        have := ih (p + (tok l).2 + sil false (l.drop (tok l).2)) ((l.drop (tok l).2).drop (sil false (l.drop (tok l).2)))
        rw [List.length_drop, List.length_drop] at this
        rw [List.length_cons]
        omega
theorem all_len (s : List UInt8) : (all s).1.length ≤ s.length := by
  have := scan_len (s.length + 1) (sil false s) (s.drop (sil false s))
  rw [List.length_drop] at this
  exact Nat.le_trans this (Nat.sub_le _ _)
theorem scan_kind : ∀ (f p : Nat) (l : List UInt8) (x : T), x ∈ (scan f p l).1 → 0 < x.kind ∧ x.kind ≤ 3 := by
  intro f
  induction f with
  | zero => intro p l x h; cases h
  | succ f ih =>
    intro p l x h
    rw [scan] at h
    split at h
    · cases h
    · split at h
      · cases h
      · rename_i h1
        rcases List.mem_cons.1 h with rfl | h
        · exact ⟨Nat.pos_of_ne_zero h1, tok_kind l⟩
        · exact ih _ _ _ h
theorem all_kind (s : List UInt8) (x : T) (h : x ∈ (all s).1) : 0 < x.kind ∧ x.kind ≤ 3 := scan_kind _ _ _ _ h
end Go.To
namespace Go.Proofs.YtcldcigopkfmmaaGreatDoor
open Go.RowKit Go.My
attribute [local go_sem] Oper.semAt_some

theorem fresh_since {w w' : World} {g0 : Tags} (g : Tags) (t : Nat) {τ : Nat} (hτ : τ ≠ 0) {e : TypeId} {size : Nat} {v : Value} {n : Nat} {xs : List Value} (hS : Since w w' g0) (hO : Owns w' g0 τ e size v n xs) :
    Turn w g w' (g.ext w.heap.size t) [] ∧ Owns w' (g.ext w.heap.size t) t e size v n xs := by
  refine ⟨Turn.of_below hS.below g t, ?_⟩
  obtain ⟨k, ho, hk⟩ := hO
  refine ⟨k, ho, fun b hb => Tags.ext_new _ _ _ _ ?_⟩
  rcases Nat.lt_or_ge b w.heap.size with h | h
  · have h1 := hS.zero b h
    rw [hk b hb] at h1
    exact absurd h1 hτ
  · exact h

/-- All tokens' cells. -/
def tokRow (xs : List To.T) : List Value := xs.flatMap fun x => (tokCells x).toList
theorem tokElem : Elem Tryz.prog 22 55 3 32 (.agg #[.int .u8 0, .string ⟨#[]⟩, .int .i64 0]) := Elem.mk' Tryz.underlying22 (by kernel_rfl) rfl (by decide)
theorem tok_one (x : To.T) : ∀ u ∈ (tokCells x).toList, u.oneCell' = true := by
  intro u hu
  simp [tokCells] at hu
  rcases hu with rfl | rfl | rfl <;> rfl
theorem tokRow_step (A : List To.T) (k : Nat) (hk : k < A.length) : tokRow (A.take (k + 1)) = tokRow (A.take k) ++ (tokCells A[k]).toList := by
  unfold tokRow
  rw [List.take_succ_eq_append_getElem hk, List.flatMap_append]
  simp

theorem all_t {w : World} (s : List UInt8) {Q : Ending → World → Prop} (h : Q (.returned (.func (.func 66) #[] #[.pointer (some ⟨w.heap.size, 0, none⟩)])) (w.alloc (.cells #[.string (bs s)] 9))) :
    Calls Tryz.prog 14 #[.string (bs s)] w Q := by
  have H := Lib.hid h
  clear h
  go_enter Tryz.func14, Tryz.ntmps14
  go_wp2_with fail
  exact H.out

theorem run_var {P : Program} (w : World) {ty : TypeId} {d : TypeDesc} (hu : P.underlying ty = some d) (hd : (match d with | .struct _ | .array _ _ => true | _ => false) = false) {a : Addr} {v : Value} (hc : w.cell? a = some v) : (loadVar ty a).run P w = .ok v w := by
  have hagg : (isAgg ty).run P w = .ok false w := by
    unfold isAgg
    rw [Sem.run_bind, run_underlying hu w]
    cases d <;> simp_all
  simp [loadVar, Sem.run_bind, hagg, Result.andThen, hc]

theorem results_cell3 {fn : Func} {p q u : Tmp} {tp tq tu : TypeId} (h : fn.results = #[.cell p tp, .cell q tq, .cell u tu]) (tmps : Array Value) (P : Program) (w : World) {a b c : Addr} {va vb vc : Value}
    (ea : tmps.getD p undef = .pointer (some a)) (eb : tmps.getD q undef = .pointer (some b)) (ec : tmps.getD u undef = .pointer (some c))
    (ra : (loadVar tp a).run P w = .ok va w) (rb : (loadVar tq b).run P w = .ok vb w) (rc : (loadVar tu c).run P w = .ok vc w) : (results fn tmps).run P w = .ok (.tuple #[va, vb, vc]) w := by
  have ea' : tmps[p]?.getD undef = .pointer (some a) := by simpa using ea
  have eb' : tmps[q]?.getD undef = .pointer (some b) := by simpa using eb
  have ec' : tmps[u]?.getD undef = .pointer (some c) := by simpa using ec
  simp [results, h, ea', eb', ec', asAddr, Sem.run_bind, Result.andThen, ra, rb, rc]

/-- What Read gives, out of its three cells. -/
theorem read_out {w : World} {tmps : Array Value} {r0 r1 r2 : Nat} {v : Value} {p e : Int} (e0 : tmps.getD 2 undef = .pointer (some ⟨r0, 0, none⟩)) (e1 : tmps.getD 3 undef = .pointer (some ⟨r1, 0, none⟩)) (e2 : tmps.getD 4 undef = .pointer (some ⟨r2, 0, none⟩))
    (c0 : w.cell? ⟨r0, 0, none⟩ = some v) (c1 : w.cell? ⟨r1, 0, none⟩ = some (.int .i64 p)) (c2 : w.cell? ⟨r2, 0, none⟩ = some (.int .i64 e)) :
    (results Tryz.f5 tmps).run Tryz.prog w = .ok (.tuple #[v, .int .i64 p, .int .i64 e]) w :=
  results_cell3 rfl tmps Tryz.prog w e0 e1 e2 (run_var w Tryz.underlying22 rfl c0) (run_var w Tryz.underlying3 rfl c1) (run_var w Tryz.underlying23 rfl c2)

/-- Between two rounds. -/
structure RdAt (w0 : World) (A : List To.T) (l D r0 r1 r2 : Nat) (r : Loop) (k : Nat) (W : World) (g : Tags) : Prop where
  since : Since w0 W g
  loop : Blk W g l 510 (.loop r)
  mark : Blk W g D 511 (.deferred (some []))
  toks : ∃ v, Box1 W g r0 22 512 #[v] ∧ Owns W g 515 55 3 v k (tokRow (A.take k))
  at_ : Box1 W g r1 3 513 #[.int .i64 0]
  err : Box1 W g r2 23 514 #[.int .i64 0]

theorem RdAt.turn {w0 : World} {A : List To.T} {l D r0 r1 r2 : Nat} {r : Loop} {k : Nat} {W W' : World} {g g' : Tags} (h : RdAt w0 A l D r0 r1 r2 r k W g) {t : Nat} (T : Turn W g W' g' [t]) (ht : t = 500 ∨ t = 516 ∨ t = 517) : RdAt w0 A l D r0 r1 r2 r k W' g' := by
  obtain ⟨v, h1, h2⟩ := h.toks
  exact ⟨h.since.turn T (by simp; omega), h.loop.turn T (by simp; omega), h.mark.turn T (by simp; omega), ⟨v, h1.turn T (by simp; omega), h2.turn T (by simp; omega)⟩, h.at_.turn T (by simp; omega), h.err.turn T (by simp; omega)⟩

theorem RdAt.put {w0 : World} {A : List To.T} {l D r0 r1 r2 : Nat} {r : Loop} {k : Nat} {W : World} {g : Tags} (h : RdAt w0 A l D r0 r1 r2 r k W g) (r' : Loop) :
    Turn W g (W.putObj l (.loop r')) g [510] ∧ RdAt w0 A l D r0 r1 r2 r' k (W.putObj l (.loop r')) g := by
  obtain ⟨T, B⟩ := h.loop.put (.loop r')
  obtain ⟨v, h1, h2⟩ := h.toks
  exact ⟨T, h.since.turn T (by decide), B, h.mark.turn T (by decide), ⟨v, h1.turn T (by decide), h2.turn T (by decide)⟩, h.at_.turn T (by decide), h.err.turn T (by decide)⟩

theorem RdAt.next {w0 : World} {A : List To.T} {l D r0 r1 r2 : Nat} {rb : Loop} {k : Nat} {W : World} {g : Tags} (h : RdAt w0 A l D r0 r1 r2 rb k W g) (hk : k < A.length) (r : Loop) {o : Obj} {w7 : World} {g7 : Tags} {ao : Option Addr} {cap : Nat}
    (hO : Owns w7 g7 515 55 3 (.slice ao (k + 1) cap) (k + 1) (tokRow (A.take k) ++ (tokCells A[k]).toList)) (hT : Turn (W.alloc o) (g.ext W.heap.size 517) w7 g7 [515]) :
    Blk (w7.setCell ⟨r0, 0, none⟩ (.slice ao (k + 1) cap)) g7 l 510 (.loop rb) ∧ RdAt w0 A l D r0 r1 r2 r (k + 1) ((w7.setCell ⟨r0, 0, none⟩ (.slice ao (k + 1) cap)).putObj l (.loop r)) g7 ∧
      Turn W g ((w7.setCell ⟨r0, 0, none⟩ (.slice ao (k + 1) cap)).putObj l (.loop r)) g7 [510, 512, 515] := by
  have T0 := Turn.alloc W g 517 o
  have T1 := T0.trans hT (V := [515]) (by simp) (by simp)
  obtain ⟨v, h1, h2⟩ := h.toks
  have b0 := h1.turn T1 (by decide)
  obtain ⟨T2, b0'⟩ := b0.store 0 (.slice ao (k + 1) cap)
  have T3 := T1.trans T2 (V := [512, 515]) (by simp) (by simp)
  have hl := h.loop.turn T3 (by decide)
  obtain ⟨T4, hl'⟩ := hl.put (.loop r)
  have T5 := T3.trans T4 (V := [510, 512, 515]) (by simp) (by simp)
  refine ⟨hl, ⟨h.since.turn T5 (by decide), hl', h.mark.turn T5 (by decide), ⟨_, b0'.turn T4 (by decide), ?_⟩, h.at_.turn T5 (by decide), h.err.turn T5 (by decide)⟩, T5⟩
  rw [tokRow_step A k hk]
  exact (hO.turn T2 (by decide)).turn T4 (by decide)

/-- Behind the bad token's round. -/
structure BadAt (w0 : World) (l D r0 r1 r2 : Nat) (r : Loop) (p : Nat) (W : World) (g : Tags) : Prop where
  since : Since w0 W g
  loop : Blk W g l 510 (.loop r)
  mark : Blk W g D 511 (.deferred (some []))
  toks : Box1 W g r0 22 512 #[.slice none 0 0]
  at_ : Box1 W g r1 3 513 #[.int .i64 (p : Int)]
  err : Box1 W g r2 23 514 #[.int .i64 4]

theorem RdAt.bad {w0 : World} {A : List To.T} {l D r0 r1 r2 : Nat} {rb : Loop} {k : Nat} {W : World} {g : Tags} (h : RdAt w0 A l D r0 r1 r2 rb k W g) (p : Nat) :
    ∃ T, 510 ∉ T ∧ 511 ∉ T ∧ 0 ∉ T ∧ Turn W g (((W.setCell ⟨r0, 0, none⟩ (.slice none 0 0)).setCell ⟨r1, 0, none⟩ (.int .i64 (p : Int))).setCell ⟨r2, 0, none⟩ (.int .i64 4)).drew g T ∧
      BadAt w0 l D r0 r1 r2 rb p (((W.setCell ⟨r0, 0, none⟩ (.slice none 0 0)).setCell ⟨r1, 0, none⟩ (.int .i64 (p : Int))).setCell ⟨r2, 0, none⟩ (.int .i64 4)).drew g := by
  obtain ⟨v, h1, h2⟩ := h.toks
  obtain ⟨T1, b0⟩ := h1.store 0 (.slice none 0 0)
  obtain ⟨T2, b1⟩ := (h.at_.turn T1 (by decide)).store 0 (.int .i64 (p : Int))
  have b2 := (h.err.turn T1 (by decide)).turn T2 (by decide)
  obtain ⟨T3, b2⟩ := b2.store 0 (.int .i64 4)
  have T4 := Turn.drew (((W.setCell ⟨r0, 0, none⟩ (.slice none 0 0)).setCell ⟨r1, 0, none⟩ (.int .i64 (p : Int))).setCell ⟨r2, 0, none⟩ (.int .i64 4)) g
  have T := ((T1.trans T2 (V := [512, 513]) (by simp) (by simp)).trans T3 (V := [512, 513, 514]) (by simp) (by simp)).trans T4 (V := [512, 513, 514]) (by simp) (by simp)
  exact ⟨[512, 513, 514], by decide, by decide, by decide, T, h.since.turn T (by decide), h.loop.turn T (by decide), h.mark.turn T (by decide), ((b0.turn T2 (by decide)).turn T3 (by decide)).turn T4 (by decide), (b1.turn T3 (by decide)).turn T4 (by decide), b2.turn T4 (by decide)⟩

theorem BadAt.put {w0 : World} {l D r0 r1 r2 : Nat} {r : Loop} {p : Nat} {W : World} {g : Tags} (h : BadAt w0 l D r0 r1 r2 r p W g) (r' : Loop) : BadAt w0 l D r0 r1 r2 r' p (W.putObj l (.loop r')) g := by
  obtain ⟨T, B⟩ := h.loop.put (.loop r')
  exact ⟨h.since.turn T (by decide), B, h.mark.turn T (by decide), h.toks.turn T (by decide), h.at_.turn T (by decide), h.err.turn T (by decide)⟩

theorem start_t {w0 W : World} {g : Tags} {r0 r1 r2 sb : Nat} {s : Value} (hS : Since w0 W g) (b0 : Box1 W g r0 22 512 #[.slice none 0 0]) (b1 : Box1 W g r1 3 513 #[.int .i64 0]) (b2 : Box1 W g r2 23 514 #[.int .i64 0])
    (bx : Box1 W g sb 9 501 #[s]) (A : List To.T) (r : Loop) : ∃ g', RdAt w0 A (W.heap.size + 1) W.heap.size r0 r1 r2 r 0 ((W.alloc (.deferred (some []))).alloc (.loop r)) g' ∧ Box1 ((W.alloc (.deferred (some []))).alloc (.loop r)) g' sb 9 501 #[s] := by
  have T0 := Turn.alloc W g 511 (.deferred (some []))
  have d0 := Blk.alloc W g 511 (.deferred (some []))
  generalize g.ext W.heap.size 511 = g0 at T0 d0
  have z0 : (W.alloc (.deferred (some []))).heap.size = W.heap.size + 1 := World.size_alloc _ _
  generalize W.alloc (.deferred (some [])) = W0 at *
  have T1 := Turn.alloc W0 g0 510 (.loop r)
  have l0 := Blk.alloc W0 g0 510 (.loop r)
  rw [z0] at T1 l0
  have T := T0.trans T1 (V := []) (by simp) (by simp)
  exact ⟨_, ⟨hS.turn T (by simp), l0, d0.turn T1 (by simp), ⟨_, b0.turn T (by simp), Owns.nil _ _ _ _ _⟩, b1.turn T (by simp), b2.turn T (by simp)⟩, bx.turn T (by simp)⟩

theorem RdAt.done {w0 : World} {A : List To.T} {l D r0 r1 r2 : Nat} {r : Loop} {k : Nat} {W : World} {g : Tags} (h : RdAt w0 A l D r0 r1 r2 r k W g) {v : Value} (hb : Box1 W g r0 22 512 #[v]) (ho : Owns W g 515 55 3 v k (tokRow (A.take k))) {W' : World}
    (hW : W' = ((W.setCell ⟨r0, 0, none⟩ v).setCell ⟨r1, 0, none⟩ (.int .i64 0)).setCell ⟨r2, 0, none⟩ (.int .i64 0)) :
    W'.heap[D]? = some (.deferred (some [])) ∧ Since w0 (W'.putObj D (.deferred none)) g ∧ Box1 (W'.putObj D (.deferred none)) g r0 22 512 #[v] ∧ Owns (W'.putObj D (.deferred none)) g 515 55 3 v k (tokRow (A.take k)) ∧
      Box1 (W'.putObj D (.deferred none)) g r1 3 513 #[.int .i64 0] ∧ Box1 (W'.putObj D (.deferred none)) g r2 23 514 #[.int .i64 0] := by
  obtain ⟨T1, b0⟩ := hb.store 0 v
  obtain ⟨T2, b1⟩ := (h.at_.turn T1 (by decide)).store 0 (.int .i64 0)
  have b2 := (h.err.turn T1 (by decide)).turn T2 (by decide)
  obtain ⟨T3, b2⟩ := b2.store 0 (.int .i64 0)
  rw [← hW] at T3 b2
  have T := (T1.trans T2 (V := [512, 513]) (by simp) (by simp)).trans T3 (V := [512, 513, 514]) (by simp) (by simp)
  have hD := h.mark.turn T (by decide)
  obtain ⟨T4, _⟩ := hD.put (.deferred none)
  exact ⟨hD.1, (h.since.turn T (by decide)).turn T4 (by decide), ((b0.turn T2 (by decide)).turn T3 (by decide)).turn T4 (by decide), (ho.turn T (by decide)).turn T4 (by decide), (b1.turn T3 (by decide)).turn T4 (by decide), b2.turn T4 (by decide)⟩

theorem three (w : World) (v : Value) (p e : Int) : ∃ g', Since w (((w.alloc (.cells #[v] 22)).alloc (.cells #[.int .i64 p] 3)).alloc (.cells #[.int .i64 e] 23)) g' ∧
    Box1 (((w.alloc (.cells #[v] 22)).alloc (.cells #[.int .i64 p] 3)).alloc (.cells #[.int .i64 e] 23)) g' w.heap.size 22 512 #[v] ∧
    Box1 (((w.alloc (.cells #[v] 22)).alloc (.cells #[.int .i64 p] 3)).alloc (.cells #[.int .i64 e] 23)) g' (w.heap.size + 1) 3 513 #[.int .i64 p] ∧
    Box1 (((w.alloc (.cells #[v] 22)).alloc (.cells #[.int .i64 p] 3)).alloc (.cells #[.int .i64 e] 23)) g' (w.heap.size + 1 + 1) 23 514 #[.int .i64 e] := by
  have T0 := Turn.alloc w (fun _ => 0) 512 (.cells #[v] 22)
  have b0 := Box1.alloc w (fun _ => 0) 22 512 #[v]
  have S0 := (Since.start w).turn T0 (by simp)
  generalize Tags.ext (fun _ => 0) w.heap.size 512 = g0 at T0 b0 S0
  have z0 : (w.alloc (.cells #[v] 22)).heap.size = w.heap.size + 1 := World.size_alloc _ _
  generalize w.alloc (.cells #[v] 22) = W0 at *
  have T1 := Turn.alloc W0 g0 513 (.cells #[.int .i64 p] 3)
  have b1 := Box1.alloc W0 g0 3 513 #[.int .i64 p]
  have b0' := b0.turn T1 (by simp)
  have S1 := S0.turn T1 (by simp)
  rw [z0] at b1
  have z1 : (W0.alloc (.cells #[.int .i64 p] 3)).heap.size = w.heap.size + 1 + 1 := by rw [World.size_alloc, z0]
  rw [z0] at T1 b0' S1
  generalize g0.ext (w.heap.size + 1) 513 = g1 at *
  generalize W0.alloc (.cells #[.int .i64 p] 3) = W1 at *
  have T2 := Turn.alloc W1 g1 514 (.cells #[.int .i64 e] 23)
  have b2 := Box1.alloc W1 g1 23 514 #[.int .i64 e]
  have b0'' := b0'.turn T2 (by simp)
  have b1' := b1.turn T2 (by simp)
  have S2 := S1.turn T2 (by simp)
  rw [z1] at b2 b0'' b1' S2
  exact ⟨_, S2, b0'', b1', b2⟩

set_option maxRecDepth 100000 in
set_option maxHeartbeats 8000000 in
theorem read_t {w : World} (g : Tags) (t : Nat) (s : List UInt8) {Q : Ending → World → Prop}
    (h : ∀ v w' g', Turn w g w' g' [] → Owns w' g' t 55 3 v (To.read s).1.length (tokRow (To.read s).1) → Q (.returned (.tuple #[v, .int .i64 ((To.read s).2.1 : Int), .int .i64 ((To.read s).2.2 : Int)])) w') :
    Calls Tryz.prog 5 #[.string (bs s)] w Q := by
  have H := Lib.hid h
  have hs1 := bs_size s
  clear h
  refine (callsIn_wide (n := 5)).1 (callsIn_of_wp_marks Tryz.func5 rfl trivial ?_ rfl)
  simp only [Tryz.ntmps5, List.size_toArray, List.length_cons, List.length_nil, Nat.reduceAdd, Nat.reduceSub, Array.replicate_succ, Array.replicate_zero, List.push_toArray, List.append_toArray, List.nil_append, List.cons_append]
  refine wpIn_wide.2 ?_
  by_cases hlong : 65536 < s.length
  · have hl1 : (65536 : Int) < (s.length : Int) := by omega
    go_wp2_with fail
    obtain ⟨g3, hS, b0, b1, b2⟩ := three w (.slice none 0 0) 0 3
    have hr : To.read s = ([], 0, 3) := by unfold To.read; rw [if_pos hlong]
    generalize ((w.alloc (.cells #[.slice none 0 0] 22)).alloc (.cells #[.int .i64 0] 3)).alloc (.cells #[.int .i64 3] 23) = Z at *
    have h1 := H.out (.slice none 0 0) Z (g.ext w.heap.size 0) (Turn.of_below hS.below g 0)
    rw [hr] at h1
    have h2 : Q (.returned (.tuple #[.slice none 0 0, .int .i64 0, .int .i64 3])) Z := h1 (Owns.nil _ _ _ _ _)
    exact ⟨_, read_out rfl rfl rfl (b0.cell 0).1 (b1.cell 0).1 (b2.cell 0).1, h2⟩
  · have hl1 : (s.length : Int) ≤ 65536 := by omega
    have hs : s.length ≤ 1000000 := by omega
    go_wp2_with fail
    refine all_t s ?_
    go_wp2_with fail
    obtain ⟨g3, hS, b0, b1, b2⟩ := three w (.slice none 0 0) 0 0
    have hz : (((w.alloc (.cells #[.slice none 0 0] 22)).alloc (.cells #[.int .i64 0] 3)).alloc (.cells #[.int .i64 0] 23)).heap.size = w.heap.size + 1 + 1 + 1 := by simp
    generalize ((w.alloc (.cells #[.slice none 0 0] 22)).alloc (.cells #[.int .i64 0] 3)).alloc (.cells #[.int .i64 0] 23) = Z at *
    have T3 := Turn.alloc Z g3 501 (.cells #[.string (bs s)] 9)
    have bx := Box1.alloc Z g3 9 501 #[.string (bs s)]
    rw [hz] at T3 bx
    replace hS := hS.turn T3 (by decide)
    replace b0 := b0.turn T3 (by decide)
    replace b1 := b1.turn T3 (by decide)
    replace b2 := b2.turn T3 (by decide)
    clear T3 hz
    generalize g3.ext (w.heap.size + 1 + 1 + 1) 501 = g4 at *
    generalize Z.alloc (.cells #[.string (bs s)] 9) = W3 at *
    generalize w.heap.size = r0 at *
    refine wp_range2 rfl (enters_of Tryz.func66 (by kernel_rfl) rfl) fun r e1 e2 e3 e4 e5 e6 => ?_
    obtain ⟨g5, h0, hbx⟩ := start_t hS b0 b1 b2 bx (To.all s).1 r
    simp only [List.append_toArray, List.cons_append, List.nil_append]
    have HE := Lib.hid (And.intro e1 (And.intro e2 (And.intro e3 (And.intro e4 (And.intro e5 e6)))))
    clear hS b0 b1 b2 bx e1 e2 e3 e4 e5 e6
    generalize W3.heap.size = D at *
    generalize (W3.alloc (.deferred (some []))).alloc (.loop r) = W5 at *
    refine Calls.mono (all1_t s hs hbx (D + 1) (fun k W g => RdAt w (To.all s).1 (D + 1) D r0 (r0 + 1) (r0 + 1 + 1) r k W g) (fun W => ∃ p g, (To.all s).2 = some p ∧ BadAt w (D + 1) D r0 (r0 + 1) (r0 + 1 + 1) { r with state := .done, pending := some .ret } p W g)
      (fun W => ((To.all s).2 = none ∧ ∃ g, RdAt w (To.all s).1 (D + 1) D r0 (r0 + 1) (r0 + 1 + 1) r (To.all s).1.length W g) ∨ ∃ p g, (To.all s).2 = some p ∧ BadAt w (D + 1) D r0 (r0 + 1) (r0 + 1 + 1) { r with state := .done, pending := some .ret } p W g)
      [510, 512, 515] (by decide) (fun k W g W' g' h T => h.turn T (.inl rfl)) ?hY ?hX h0 (fun W g h1 h2 => .inl ⟨h1, g, h2⟩) (fun p W _ h => .inr h)) ?_
    case hY =>
      intro k W g6 hk hR
      have hm := To.all_kind s _ (List.getElem_mem hk)
      have hkl := To.all_len s
      generalize (To.all s).1 = A at *
      obtain ⟨kd, text, pos, hx⟩ : ∃ kd text pos, A[k] = ⟨kd, text, pos⟩ := ⟨_, _, _, rfl⟩
      rw [hx] at hm ⊢
      have hkd : (0 : Int) < (kd : Int) := by have := hm.1; simp at this; omega
      have hk5 : k + 1 ≤ 65536 := by omega
      refine yields_of hR.loop HE.out.1 HE.out.2.1 HE.out.2.2.1 HE.out.2.2.2.1 HE.out.2.2.2.2.1 HE.out.2.2.2.2.2 ?_
      simp only [tokVal]
      have T1 := Turn.alloc W g6 516 (.cells #[.int .u8 (kd : Int), .string (bs text), .int .i64 (pos : Int)] 55)
      have bt := Box1.alloc W g6 55 516 #[.int .u8 (kd : Int), .string (bs text), .int .i64 (pos : Int)]
      have hR1 := hR.turn (T1.mono (V := [516]) (by simp)) (.inr (.inl rfl))
      obtain ⟨tb, htb⟩ : ∃ tb, tb = W.heap.size := ⟨_, rfl⟩
      have HX := Lib.hid (And.intro T1 (And.intro bt hR1))
      clear T1 bt hR hR1 hm hl1 hlong
      gi_wp2
      refine ⟨⟨_, HX.out.2.2.loop⟩, ?_⟩
      obtain ⟨T2, hR2⟩ := HX.out.2.2.put { state := .busy, pending := r.pending, fn := r.fn, tmps := r.tmps, params := r.params, assign := r.assign, body := r.body, defers := r.defers }
      have bt2 := HX.out.2.1.turn T2 (by decide)
      have T3 := HX.out.1.trans T2 (V := [510]) (by simp) (by simp)
      rw [← htb] at bt2 ⊢
      have htl := bt2.lt
      clear T2 htb
      generalize (W.alloc (.cells #[.int .u8 (kd : Int), .string (bs text), .int .i64 (pos : Int)] 55)).putObj (D + 1) (.loop { state := .busy, pending := r.pending, fn := r.fn, tmps := r.tmps, params := r.params, assign := r.assign, body := r.body, defers := r.defers }) = W2 at *
      generalize g6.ext W.heap.size 516 = g7 at *
      clear HX
      obtain ⟨v, hb, ho⟩ := hR2.toks
      obtain ⟨ao, cap, rfl⟩ := ho.form
      have c0 : W2.cell? ⟨tb, 0, none⟩ = some (.int .u8 (kd : Int)) := (bt2.cell 0).1
      have c1 : W2.cell? ⟨tb, 1, none⟩ = some (.string (bs text)) := (bt2.cell 1).1
      have c2 : W2.cell? ⟨tb, 2, none⟩ = some (.int .i64 (pos : Int)) := (bt2.cell 2).1
      have c3 : W2.cell? ⟨r0, 0, none⟩ = some (.slice ao k cap) := (hb.cell 0).1
      have HB := Lib.hid (And.intro hb (And.intro ho (And.intro hR2 T3)))
      clear hb ho hR2 T3 bt2
      gi_wp2_with (gi_at_builtin; refine wpListIn_append_t _ rfl (.tmp 17) (.tmp 19) rfl tokElem (g := g7.ext W2.heap.size 517) (tg := 515) rfl (HB.out.2.1.turn (Turn.alloc W2 g7 517 _) (by decide)) rfl (Src.lit (n := 1) _ _ rfl rfl) (tok_one ⟨kd, text, pos⟩) (by unfold maxLen; omega) (by omega) ?_; intro ao7 cap7 w7 g8 O7 T7; have K7 := Lib.hid (And.intro O7 T7); have b7 := (HB.out.1.turn (Turn.alloc W2 g7 517 _) (by decide)).turn T7 (by decide); have d7 : w7.cell? ⟨r0, 0, none⟩ = some (.slice ao k cap) := (b7.cell 0).1; have e7 := (b7.cell 0).2; clear b7 O7 T7)
      obtain ⟨n1, n2, n3⟩ := HB.out.2.2.1.next hk r (by rw [hx]; exact K7.out.1) K7.out.2
      exact ⟨g8, n1, rfl, g8, n2, HB.out.2.2.2.trans n3 (by simp) (by simp)⟩
    case hX =>
      intro p W g6 hp hR
      have HP := Lib.hid hp
      generalize (To.all s).1 = A at *
      refine yields_of hR.loop HE.out.1 HE.out.2.1 HE.out.2.2.1 HE.out.2.2.2.1 HE.out.2.2.2.2.1 HE.out.2.2.2.2.2 ?_
      have hv : tokVal ⟨0, [], p⟩ = .agg #[.int .u8 0, .string (bs []), .int .i64 (p : Int)] := rfl
      rw [hv]
      have T1 := Turn.alloc W g6 516 (.cells #[.int .u8 0, .string (bs []), .int .i64 (p : Int)] 55)
      have bt := Box1.alloc W g6 55 516 #[.int .u8 0, .string (bs []), .int .i64 (p : Int)]
      have hR1 := hR.turn (T1.mono (V := [516]) (by simp)) (.inr (.inl rfl))
      obtain ⟨tb, htb⟩ : ∃ tb, tb = W.heap.size := ⟨_, rfl⟩
      have HX := Lib.hid (And.intro T1 (And.intro bt hR1))
      clear T1 bt hR hR1 hl1 hlong hv hp
      gi_wp2
      refine ⟨⟨_, HX.out.2.2.loop⟩, ?_⟩
      obtain ⟨T2, hR2⟩ := HX.out.2.2.put { state := .busy, pending := r.pending, fn := r.fn, tmps := r.tmps, params := r.params, assign := r.assign, body := r.body, defers := r.defers }
      have bt2 := HX.out.2.1.turn T2 (by decide)
      rw [← htb] at bt2 hR2 ⊢
      clear T2 htb
      generalize (W.alloc (.cells #[.int .u8 0, .string (bs []), .int .i64 (p : Int)] 55)).putObj (D + 1) (.loop { state := .busy, pending := r.pending, fn := r.fn, tmps := r.tmps, params := r.params, assign := r.assign, body := r.body, defers := r.defers }) = W2 at *
      generalize g6.ext tb 516 = g7 at *
      clear HX
      obtain ⟨v, hb, ho⟩ := hR2.toks
      obtain ⟨ao, cap, rfl⟩ := ho.form
      have c0 : W2.cell? ⟨tb, 0, none⟩ = some (.int .u8 0) := (bt2.cell 0).1
      have c1 : W2.cell? ⟨tb, 2, none⟩ = some (.int .i64 (p : Int)) := (bt2.cell 2).1
      have c3 : W2.cell? ⟨r0, 0, none⟩ = some (.slice ao A.length cap) := (hb.cell 0).1
      have c4 : W2.cell? ⟨r0 + 1, 0, none⟩ = some (.int .i64 0) := (hR2.at_.cell 0).1
      have c5 : W2.cell? ⟨r0 + 1 + 1, 0, none⟩ = some (.int .i64 0) := (hR2.err.cell 0).1
      have f3 := (hb.cell 0).2
      have f4 := (hR2.at_.cell 0).2
      have f5 := (hR2.err.cell 0).2
      have n1 : r0 ≠ r0 + 1 ∧ r0 + 1 ≠ r0 := by omega
      have n2 : r0 ≠ r0 + 1 + 1 ∧ r0 + 1 + 1 ≠ r0 := by omega
      have n3 : r0 + 1 ≠ r0 + 1 + 1 ∧ r0 + 1 + 1 ≠ r0 + 1 := by omega
      have n4 : tb ≠ r0 ∧ r0 ≠ tb := by have h1 := hb.2; have h2 := bt2.2; exact ⟨fun e => by rw [e, h1] at h2; omega, fun e => by rw [← e, h1] at h2; omega⟩
      have n5 : tb ≠ r0 + 1 ∧ r0 + 1 ≠ tb := by have h1 := hR2.at_.2; have h2 := bt2.2; exact ⟨fun e => by rw [e, h1] at h2; omega, fun e => by rw [← e, h1] at h2; omega⟩
      have n6 : tb ≠ r0 + 1 + 1 ∧ r0 + 1 + 1 ≠ tb := by have h1 := hR2.err.2; have h2 := bt2.2; exact ⟨fun e => by rw [e, h1] at h2; omega, fun e => by rw [← e, h1] at h2; omega⟩
      have HB := Lib.hid hR2
      clear hb ho hR2 bt2
      obtain ⟨n1, n1'⟩ := n1
      obtain ⟨n2, n2'⟩ := n2
      obtain ⟨n3, n3'⟩ := n3
      obtain ⟨n4, n4'⟩ := n4
      obtain ⟨n5, n5'⟩ := n5
      obtain ⟨n6, n6'⟩ := n6
      gi_wp2
      gi_region
      all_goals
        gi_wp2
        obtain ⟨T, q1, q2, q3, q4, q5⟩ := HB.out.bad p
        have q6 := q5.put { r with state := .done, pending := some .ret }
        exact ⟨g7, q5.loop, rfl, p, HP.out, g7, q6⟩
    rintro e W6 ⟨⟨v, rfl⟩, (⟨hn, g6, hR⟩ | ⟨p, g6, hp, hR⟩)⟩
    · have hend := run_endLoop (P := Tryz.prog) hR.loop.1 (by rw [HE.out.1]; simp)
      rw [HE.out.2.1] at hend
      refine ⟨none, _, hend, ?_⟩
      obtain ⟨T, hR2⟩ := hR.put { state := .exhausted, pending := none, fn := r.fn, tmps := r.tmps, params := r.params, assign := r.assign, body := r.body, defers := r.defers }
      clear hend hR T h0 hbx
      generalize W6.putObj (D + 1) (.loop { state := .exhausted, pending := none, fn := r.fn, tmps := r.tmps, params := r.params, assign := r.assign, body := r.body, defers := r.defers }) = W7 at *
      obtain ⟨v, hb, ho⟩ := hR2.toks
      obtain ⟨ao, cap, rfl⟩ := ho.form
      have HR := Lib.hid (And.intro hR2 (And.intro hb ho))
      have c0 : W7.cell? ⟨r0, 0, none⟩ = some (.slice ao (To.all s).1.length cap) := (hb.cell 0).1
      have c1 : W7.cell? ⟨r0 + 1, 0, none⟩ = some (.int .i64 0) := (hR2.at_.cell 0).1
      have c2 : W7.cell? ⟨r0 + 1 + 1, 0, none⟩ = some (.int .i64 0) := (hR2.err.cell 0).1
      have f0 := (hb.cell 0).2
      have f1 := (hR2.at_.cell 0).2
      have f2 := (hR2.err.cell 0).2
      have hr : To.read s = ((To.all s).1, 0, 0) := by unfold To.read; rw [if_neg hlong, hn]
      clear hR2 hb ho hn
      go_wp2_with fail
      obtain ⟨d1, d2, d3, d4, d5, d6⟩ := HR.out.1.done HR.out.2.1 HR.out.2.2 rfl
      refine ⟨by simp, .inl ⟨_, _, rfl, run_takeDeferred d1, ?_⟩⟩
      rw [List.take_length] at d4
      obtain ⟨k1, k2⟩ := fresh_since g t (by decide) d2 d4
      have h1 := H.out (.slice ao (To.all s).1.length cap) _ _ k1
      rw [hr] at h1
      have h2 := h1 k2
      exact ⟨_, read_out rfl rfl rfl (d3.cell 0).1 (d5.cell 0).1 (d6.cell 0).1, h2⟩
    · refine ⟨some .ret, _, run_endLoop (P := Tryz.prog) hR.loop.1 (by simp), ?_⟩
      have hR2 := hR.put { state := .exhausted, pending := some .ret, fn := r.fn, tmps := r.tmps, params := r.params, assign := r.assign, body := r.body, defers := r.defers }
      clear hR h0 hbx
      generalize W6.putObj (D + 1) (.loop { state := .exhausted, pending := some .ret, fn := r.fn, tmps := r.tmps, params := r.params, assign := r.assign, body := r.body, defers := r.defers }) = W7 at *
      have hr : To.read s = ([], p, 4) := by unfold To.read; rw [if_neg hlong, hp]
      show Code.wpIn _ _ _ _ _ _ _
      gi_wp2
      refine ⟨by simp, .inl ⟨_, _, rfl, run_takeDeferred hR2.mark.1, ?_⟩⟩
      obtain ⟨T, _⟩ := hR2.mark.put (.deferred none)
      have h1 := H.out (.slice none 0 0) _ _ (Turn.of_below (hR2.since.turn T (by decide)).below g t)
      rw [hr] at h1
      have h2 : Q (.returned (.tuple #[.slice none 0 0, .int .i64 (p : Int), .int .i64 4])) _ := h1 (Owns.nil _ _ _ _ _)
      exact ⟨_, read_out rfl rfl rfl ((hR2.toks.turn T (by decide)).cell 0).1 ((hR2.at_.turn T (by decide)).cell 0).1 ((hR2.err.turn T (by decide)).cell 0).1, h2⟩
end Go.Proofs.YtcldcigopkfmmaaGreatDoor
