/- Scopes: does each name in a function stand for something? -/
import Derived.Test.YtmkhfonafcikdaaGreatDoorScFinV
import Derived.Stop.RegionWithIn
namespace Go.Nd
theorem fine_more {own : List Tx} {many : Tx → Option Nat} {x : Nd} {rest : List Nd} {all : Bool} (h : (x :: rest).all (fineX own many) = all) (hx : fineX own many x = true) : rest.all (fineX own many) = all := by
  rw [List.all_cons, hx, Bool.true_and] at h; exact h
theorem fine_not {own : List Tx} {many : Tx → Option Nat} {x : Nd} {rest : List Nd} {all : Bool} (h : (x :: rest).all (fineX own many) = all) (hx : fineX own many x = false) : all = false := by
  rw [List.all_cons, hx, Bool.false_and] at h; exact h.symm
end Go.Nd
namespace Go.Proofs.YtmkhfonafcikdaaGreatDoor
open Go.RowKit Go.Maps Go.My Go.Nd
attribute [local go_sem] Oper.semAt_some

/-- The function, the map, the answer, the names, and a variable that points there; what stood before. -/
structure FiVar (w0 W : World) (g : Tags) (fb kb rb bb nb : Nat) (fv : Array Value) (mm : Nat) (rv : Bool) (own : List Tx) (k : Nat) : Prop where
  since : Since w0 W g
  fbox : Blk W g fb 707 (.cells fv 57 (0, 0))
  kbox : Blk W g kb 708 (.cells #[.map (some mm)] 72 (0, 0))
  rbox : Blk W g rb 709 (.cells #[.bool rv] 4 (0, 0))
  var : Blk W g bb 704 (.cells #[.pointer (some ⟨nb, 0, none⟩)] 71 (0, 0))
  nam : NamAt W g 700 nb own k
theorem FiVar.turn {w0 W W' : World} {g g' : Tags} {fb kb rb bb nb : Nat} {fv : Array Value} {mm : Nat} {rv : Bool} {own : List Tx} {k : Nat} {T : List Nat} (h : FiVar w0 W g fb kb rb bb nb fv mm rv own k) (T' : Turn W g W' g' T)
    (hT : ∀ t ∈ [0, 700, 701, 702, 704, 707, 708, 709], t ∉ T) : FiVar w0 W' g' fb kb rb bb nb fv mm rv own k :=
  ⟨h.since.turn T' (hT _ (by simp)), h.fbox.turn T' (hT _ (by simp)), h.kbox.turn T' (hT _ (by simp)), h.rbox.turn T' (hT _ (by simp)), h.var.turn T' (hT _ (by simp)), h.nam.turn T' (hT _ (by simp)) (hT _ (by simp)) (hT _ (by simp))⟩
theorem FiVar.answer {w0 W : World} {g : Tags} {fb kb rb bb nb : Nat} {fv : Array Value} {mm : Nat} {rv : Bool} {own : List Tx} {k : Nat} (h : FiVar w0 W g fb kb rb bb nb fv mm rv own k) (v : Bool) :
    Turn W g (W.setCell ⟨rb, 0, none⟩ (.bool v)) g [709] ∧ FiVar w0 (W.setCell ⟨rb, 0, none⟩ (.bool v)) g fb kb rb bb nb fv mm v own k := by
  have p := Put.one h.rbox.1 0 (.bool v)
  have T := Turn.setCell W g ⟨rb, 0, none⟩ (.bool v) p.size p.os p.tape p.output
  rw [show g (Addr.block ⟨rb, 0, none⟩) = 709 from h.rbox.2] at T
  exact ⟨T, h.since.turn T (by simp), h.fbox.turn T (by simp), h.kbox.turn T (by simp), ⟨by simpa using p.row, h.rbox.2⟩, h.var.turn T (by simp), h.nam.turn T (by simp) (by simp) (by simp)⟩

/-- While the nodes come. -/
def FiSt (w0 W : World) (g : Tags) (fb kb rb bb nb D : Nat) (fv : Array Value) (mm : Nat) (rv : Bool) (own : List Tx) (k : Nat) (r : Loop) : Prop :=
  FiVar w0 W g fb kb rb bb nb fv mm rv own k ∧ Blk W g (D + 1) 510 (.loop r) ∧ Blk W g D 511 (.deferred (some []))
theorem FiSt.turn {w0 W W' : World} {g g' : Tags} {fb kb rb bb nb D : Nat} {fv : Array Value} {mm : Nat} {rv : Bool} {own : List Tx} {k : Nat} {r : Loop} {T : List Nat} (h : FiSt w0 W g fb kb rb bb nb D fv mm rv own k r) (T' : Turn W g W' g' T)
    (hT : ∀ t ∈ [0, 700, 701, 702, 704, 707, 708, 709, 510, 511], t ∉ T) : FiSt w0 W' g' fb kb rb bb nb D fv mm rv own k r :=
  ⟨h.1.turn T' (fun t ht => hT t (by simp at ht ⊢; omega)), h.2.1.turn T' (hT _ (by simp)), h.2.2.turn T' (hT _ (by simp))⟩
theorem FiSt.loop {w0 W : World} {g : Tags} {fb kb rb bb nb D : Nat} {fv : Array Value} {mm : Nat} {rv : Bool} {own : List Tx} {k : Nat} {r : Loop} (h : FiSt w0 W g fb kb rb bb nb D fv mm rv own k r) (r' : Loop) :
    Turn W g (W.putObj (D + 1) (.loop r')) g [510] ∧ FiSt w0 (W.putObj (D + 1) (.loop r')) g fb kb rb bb nb D fv mm rv own k r' := by
  obtain ⟨T, hL⟩ := h.2.1.put (.loop r')
  exact ⟨T, h.1.turn T (by simp), hL, h.2.2.turn T (by simp)⟩
theorem FiSt.answer {w0 W : World} {g : Tags} {fb kb rb bb nb D : Nat} {fv : Array Value} {mm : Nat} {rv : Bool} {own : List Tx} {k : Nat} {r : Loop} (h : FiSt w0 W g fb kb rb bb nb D fv mm rv own k r) (v : Bool) :
    Turn W g (W.setCell ⟨rb, 0, none⟩ (.bool v)) g [709] ∧ FiSt w0 (W.setCell ⟨rb, 0, none⟩ (.bool v)) g fb kb rb bb nb D fv mm v own k r := by
  obtain ⟨T, h1⟩ := h.1.answer v
  exact ⟨T, h1, h.2.1.turn T (by simp), h.2.2.turn T (by simp)⟩

/-- .. so many are still to come; the answer is no. -/
def FiJ (w0 : World) (fb kb rb bb nb D : Nat) (fv : Array Value) (mm : Nat) (own : List Tx) (many : Tx → Option Nat) (all : Bool) (r : Loop) (rest : List Nd) (W : World) (g : Tags) : Prop :=
  ∃ k, FiSt w0 W g fb kb rb bb nb D fv mm false own k r ∧ rest.all (fineX own many) = all
def FiX (w0 : World) (fb kb rb bb nb D : Nat) (fv : Array Value) (mm : Nat) (own : List Tx) (all : Bool) (r : Loop) (W : World) : Prop :=
  ∃ g k, FiSt w0 W g fb kb rb bb nb D fv mm false own k { r with state := .done, pending := some .ret } ∧ all = false
theorem fi_loop {w0 W : World} {g : Tags} {fb kb rb bb nb lb : Nat} {fv : Array Value} {mm : Nat} {rv : Bool} {own : List Tx} {k : Nat} {o : Obj} (h : FiVar w0 W g fb kb rb bb nb fv mm rv own k) (hb : Blk W g lb 705 o) (r : Loop) :
    ∃ g', FiSt w0 ((W.alloc (.deferred (some []))).alloc (.loop r)) g' fb kb rb bb nb W.heap.size fv mm rv own k r ∧ Blk ((W.alloc (.deferred (some []))).alloc (.loop r)) g' lb 705 o := by
  have T0 := Turn.alloc W g 511 (.deferred (some []))
  have d0 := Blk.alloc W g 511 (.deferred (some []))
  generalize g.ext W.heap.size 511 = g0 at T0 d0
  have z0 : (W.alloc (.deferred (some []))).heap.size = W.heap.size + 1 := World.size_alloc _ _
  generalize W.alloc (.deferred (some [])) = W0 at *
  have T1 := Turn.alloc W0 g0 510 (.loop r)
  have l0 := Blk.alloc W0 g0 510 (.loop r)
  rw [z0] at T1 l0
  have T := T0.trans T1 (V := []) (by simp) (by simp)
  exact ⟨_, ⟨h.turn T (by simp), l0, d0.turn T1 (by simp)⟩, hb.turn T (by simp)⟩

theorem fi_start {w : World} (fv : Array Value) (mm : Nat) : ∃ g, Since w (((w.alloc (.cells fv 57)).alloc (.cells #[.map (some mm)] 72)).alloc (.cells #[.bool false] 4)) g ∧
    Blk (((w.alloc (.cells fv 57)).alloc (.cells #[.map (some mm)] 72)).alloc (.cells #[.bool false] 4)) g w.heap.size 707 (.cells fv 57 (0, 0)) ∧
    Blk (((w.alloc (.cells fv 57)).alloc (.cells #[.map (some mm)] 72)).alloc (.cells #[.bool false] 4)) g (w.heap.size + 1) 708 (.cells #[.map (some mm)] 72 (0, 0)) ∧
    Blk (((w.alloc (.cells fv 57)).alloc (.cells #[.map (some mm)] 72)).alloc (.cells #[.bool false] 4)) g (w.heap.size + 1 + 1) 709 (.cells #[.bool false] 4 (0, 0)) := by
  have T1 := Turn.alloc w (fun _ => 0) 707 (.cells fv 57)
  have B1 := Blk.alloc w (fun _ => 0) 707 (.cells fv 57 (0, 0))
  have S1 := (Since.start w).turn T1 (by simp)
  have z1 : (w.alloc (.cells fv 57)).heap.size = w.heap.size + 1 := World.size_alloc _ _
  generalize w.alloc (.cells fv 57) = w1 at *
  generalize Tags.ext (fun _ => 0) w.heap.size 707 = g1 at *
  have T2 := Turn.alloc w1 g1 708 (.cells #[.map (some mm)] 72)
  have B2 := Blk.alloc w1 g1 708 (.cells #[.map (some mm)] 72 (0, 0))
  have z2 : (w1.alloc (.cells #[.map (some mm)] 72)).heap.size = w.heap.size + 1 + 1 := by rw [World.size_alloc, z1]
  rw [z1] at B2 T2
  generalize w1.alloc (.cells #[.map (some mm)] 72) = w2 at *
  generalize Tags.ext g1 (w.heap.size + 1) 708 = g2 at *
  have T3 := Turn.alloc w2 g2 709 (.cells #[.bool false] 4)
  have B3 := Blk.alloc w2 g2 709 (.cells #[.bool false] 4 (0, 0))
  rw [z2] at B3 T3
  have S3 := (S1.turn T2 (by simp)).turn T3 (by simp)
  exact ⟨_, S3, (B1.turn T2 (by simp)).turn T3 (by simp), B2.turn T3 (by simp), B3⟩

theorem results_cell1 {fn : Func} {p : Tmp} {tp : TypeId} (h : fn.results = #[.cell p tp]) (tmps : Array Value) (P : Program) (w : World) {a : Addr} {va : Value}
    (ea : tmps.getD p undef = .pointer (some a)) (ra : (loadVar tp a).run P w = .ok va w) : (results fn tmps).run P w = .ok va w := by
  have ea' : tmps[p]?.getD undef = .pointer (some a) := by simpa using ea
  simp [results, h, ea', asAddr, ra]
end Go.Proofs.YtmkhfonafcikdaaGreatDoor
