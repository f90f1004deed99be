/- The document's scopes: Check: its states. -/
import Derived.Test.YtmkhfonafcikdaaGreatDoorScRLocT
import Derived.Test.YtmkhfonafcikdaaGreatDoorScRKnT
import Derived.Deep.RegionLaw
namespace Go.Nd
theorem known_bad {p : Pr} {f : Fn} (hf : f ∈ p.funcs) (h : known p.funcs (ownN f.args f.body) f.body = false) : (headsOk p.funcs && finesOk p) = false := by
  cases hh : headsOk p.funcs with
  | false => rfl
  | true =>
    rw [known_fine (nodup_of_heads hh)] at h
    have : p.funcs.all (fun f => fineF (manyOf p.funcs) f.args f.body) = false := by
      rw [List.all_eq_false]
      exact ⟨f, hf, by rw [h]; simp⟩
    unfold finesOk
    rw [this]; rfl
theorem known_bad_body {p : Pr} (h : known p.funcs (ownN [] p.body) p.body = false) : (headsOk p.funcs && finesOk p) = false := by
  cases hh : headsOk p.funcs with
  | false => rfl
  | true =>
    rw [known_fine (nodup_of_heads hh)] at h
    unfold finesOk
    rw [h, Bool.and_false]; rfl
theorem known_good {p : Pr} (hh : headsOk p.funcs = true) (h : ∀ f ∈ p.funcs, known p.funcs (ownN f.args f.body) f.body = true) (h2 : known p.funcs (ownN [] p.body) p.body = true) : finesOk p = true := by
  have hn := nodup_of_heads hh
  rw [known_fine hn] at h2
  unfold finesOk
  rw [h2, Bool.and_true, List.all_eq_true]
  intro f hf
  rw [← known_fine hn]; exact h f hf
end Go.Nd
namespace Go.Proofs.YtmkhfonafcikdaaGreatDoor
open Go.RowKit Go.My Go.Nd

theorem TextsIn.take {w : World} {S : Nat → Prop} {tw : Bool} {a : Option Addr} {n c : Nat} {ts : List Tx} (h : TextsIn w S tw (.slice a n c) ts) {k : Nat} (hk : k ≤ ts.length) : TextsIn w S false (.slice a k c) (ts.take k) := by
  obtain ⟨a', c', e, h2, h3, h4, _, h6⟩ := h
  cases e
  have hl : (ts.take k).length = k := by rw [List.length_take]; omega
  refine ⟨a, c, by rw [hl], by omega, h3, by omega, (fun e => by cases e), fun i hi => ?_⟩
  obtain ⟨b, off, k1, k2, k3, k4⟩ := h6 i (by omega)
  exact ⟨b, off, k1, k2, by rw [List.getElem_take]; exact k3, by rw [List.getElem_take]; exact k4⟩

/-- The program, the functions' names; what stood before. -/
structure RcSt (w0 W : World) (g : Tags) (pb : Nat) (pv : Array Value) (v3 : Value) (nm : List Tx) : Prop where
  since : Since w0 W g
  pbox : Blk W g pb 720 (.cells pv 25 (0, 0))
  own : Owns W g 760 9 1 v3 nm.length (strCells nm)
  short : ∀ s ∈ nm, s.length ≤ 140737488351232
theorem RcSt.turn {w0 W W' : World} {g g' : Tags} {pb : Nat} {pv : Array Value} {v3 : Value} {nm : List Tx} {T : List Nat} (h : RcSt w0 W g pb pv v3 nm) (T' : Turn W g W' g' T) (h0 : 0 ∉ T) (h1 : 720 ∉ T) (h2 : 760 ∉ T) : RcSt w0 W' g' pb pv v3 nm :=
  ⟨h.since.turn T' h0, h.pbox.turn T' h1, h.own.turn T' h2, h.short⟩
def RcAt (w0 : World) (pb : Nat) (pv : Array Value) (fs : List Nd.Fn) (gk : Nat) (v3 v4 : Value) (wr : World) : Prop :=
  ∃ (i : Nat) (g : Tags), i ≤ fs.length ∧ gk = fs.length - i ∧ v4 = .int .i64 (i : Int) ∧ headsTo fs i ∧ (∀ f ∈ fs.take i, known fs (ownN f.args f.body) f.body = true) ∧ RcSt w0 wr g pb pv v3 ((fs.take i).map (·.name))
/-- While one function's arguments are looked at. -/
def RaAt (w0 : World) (pb fb : Nat) (pv : Array Value) (fo : Obj) (v3 : Value) (nm : List Tx) (args : List Tx) (gk : Nat) (v8 : Value) (wr : World) : Prop :=
  ∃ (k : Nat) (g : Tags), k ≤ args.length ∧ gk = args.length - k ∧ v8 = .int .i64 (k : Int) ∧ dup (args.take k) = false ∧ RcSt w0 wr g pb pv v3 nm ∧ Blk wr g fb 726 fo
/-- Behind a function's body: does each name stand for something? -/
def RbAt (w0 : World) (pb fb : Nat) (pv : Array Value) (fo : Obj) (v3 : Value) (nm : List Tx) (ok : Bool) (v : Value) (wx : World) : Prop :=
  v = .bool (!ok) ∧ ∃ g, RcSt w0 wx g pb pv v3 nm ∧ Blk wx g fb 726 fo

theorem rc_snoc {w0 W W' : World} {g g' : Tags} {pb : Nat} {pv : Array Value} {v3 : Value} {ao : Option Addr} {cap : Nat} {nm : List Tx} {s : Tx} {o : Obj} (h : RcSt w0 W g pb pv v3 nm) (hs : s.length ≤ 140737488351232) (T : Turn (W.alloc o) (g.ext W.heap.size 761) W' g' [760])
    (hO : Owns W' g' 760 9 1 (.slice ao (nm.length + 1) cap) (nm.length + 1) (strCells nm ++ [.string (tx s)])) : RcSt w0 W' g' pb pv (.slice ao (nm.length + 1) cap) (nm ++ [s]) := by
  have TT := (Turn.alloc W g 761 o).trans T (V := [760]) (by simp) (by simp)
  refine ⟨h.since.turn TT (by simp), h.pbox.turn TT (by simp), ?_, fun x hx => ?_⟩
  · have e : strCells (nm ++ [s]) = strCells nm ++ [.string (tx s)] := by unfold strCells; rw [List.map_append]; rfl
    rw [e, List.length_append]
    exact hO
  · rcases List.mem_append.1 hx with hx | hx
    · exact h.short x hx
    · simp only [List.mem_cons, List.not_mem_nil, or_false] at hx; subst hx; exact hs
end Go.Proofs.YtmkhfonafcikdaaGreatDoor
