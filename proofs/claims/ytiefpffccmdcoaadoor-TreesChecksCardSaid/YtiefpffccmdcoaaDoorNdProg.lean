/- Programs in memory: texts, functions. No program in sight. -/
import Derived.Test.YtiefpffccmdcoaaDoorNdMem
namespace Go.My
open Go.RowKit Go.Nd

def spare : List UInt8 := [115, 112, 97, 114, 101]

/-- v reads as these texts, in blocks of S; tw: a mark stands behind them. -/
def TextsIn (w : World) (S : Nat → Prop) (tw : Bool) (v : Value) (ts : List (List UInt8)) : Prop :=
  ∃ a c, v = .slice a ts.length c ∧ ts.length ≤ c ∧ c ≤ maxLen ∧ ts.length * 16 ≤ 140737488351232 ∧
    (tw = true → ts.length < c ∧ ∃ b off, a = some ⟨b, off, none⟩ ∧ S b ∧ w.cell? ⟨b, off + ts.length, none⟩ = some (.string (tx spare))) ∧
    ∀ i (hi : i < ts.length), ∃ b off, a = some ⟨b, off, none⟩ ∧ S b ∧ w.cell? ⟨b, off + i, none⟩ = some (.string (tx ts[i])) ∧ (ts[i]).length ≤ 140737488351232

/-- The three cells of a function. -/
structure FnAt (w : World) (S : Nat → Prop) (tw : Bool) (b off : Nat) (f : Nd.Fn) (v1 v2 : Value) : Prop where
  name : f.name.length ≤ 140737488351232
  d0 : w.cell? ⟨b, off, none⟩ = some (.string (tx f.name))
  d1 : w.cell? ⟨b, off + 1, none⟩ = some v1
  d2 : w.cell? ⟨b, off + 2, none⟩ = some v2
  args : TextsIn w S tw v1 f.args
  body : Nodes w S tw v2 f.body

/-- The mark that stands behind a copy's functions. -/
def FnMark (w : World) (b off : Nat) : Prop := w.cell? ⟨b, off, none⟩ = some (.string (tx spare)) ∧ w.cell? ⟨b, off + 1, none⟩ = some (.slice none 0 0) ∧ w.cell? ⟨b, off + 2, none⟩ = some (.slice none 0 0)
theorem FnMark.frame {w w' : World} {b off : Nat} (h : FnMark w b off) (hs : w'.heap[b]? = w.heap[b]?) : FnMark w' b off := by
  have e : ∀ o, w'.cell? ⟨b, o, none⟩ = w.cell? ⟨b, o, none⟩ := fun o => World.cell?_of_block hs
  exact ⟨(e _).trans h.1, (e _).trans h.2.1, (e _).trans h.2.2⟩
theorem FnMark.lt {w : World} {b off : Nat} (h : FnMark w b off) : b < w.heap.size := World.block_lt_of_cell? w _ h.1

def FuncsIn (w : World) (S : Nat → Prop) (tw : Bool) (v : Value) (fs : List Nd.Fn) : Prop :=
  ∃ a c, v = .slice a fs.length c ∧ fs.length ≤ c ∧ c ≤ maxLen ∧ fs.length * 64 ≤ 140737488351232 ∧
    (tw = true → fs.length < c ∧ ∃ b off, a = some ⟨b, off, none⟩ ∧ S b ∧ FnMark w b (off + fs.length * 3)) ∧
    ∀ i (hi : i < fs.length), ∃ b off v1 v2, a = some ⟨b, off, none⟩ ∧ S b ∧ FnAt w S tw b (off + i * 3) fs[i] v1 v2

theorem TextsIn.frame {w w' : World} {S : Nat → Prop} {tw : Bool} {v : Value} {ts : List (List UInt8)} (h : TextsIn w S tw v ts) (hs : ∀ b, S b → b < w.heap.size → w'.heap[b]? = w.heap[b]?) : TextsIn w' S tw v ts := by
  obtain ⟨a, c, h1, h2, h3, h4, h5, h6⟩ := h
  have cell : ∀ b o u, S b → w.cell? ⟨b, o, none⟩ = some u → w'.cell? ⟨b, o, none⟩ = some u := fun b o u hS h =>
    (World.cell?_of_block (hs b hS (World.block_lt_of_cell? w _ h))).trans h
  refine ⟨a, c, h1, h2, h3, h4, fun e => ?_, fun i hi => ?_⟩
  · obtain ⟨k1, b, off, k2, k3, k4⟩ := h5 e
    exact ⟨k1, b, off, k2, k3, cell _ _ _ k3 k4⟩
  · obtain ⟨b, off, k1, k2, k3, k4⟩ := h6 i hi
    exact ⟨b, off, k1, k2, cell _ _ _ k2 k3, k4⟩
theorem TextsIn.mono {w : World} {S T : Nat → Prop} {tw : Bool} {v : Value} {ts : List (List UInt8)} (h : TextsIn w S tw v ts) (hs : ∀ b, b < w.heap.size → S b → T b) : TextsIn w T tw v ts := by
  obtain ⟨a, c, h1, h2, h3, h4, h5, h6⟩ := h
  refine ⟨a, c, h1, h2, h3, h4, fun e => ?_, fun i hi => ?_⟩
  · obtain ⟨k1, b, off, k2, k3, k4⟩ := h5 e
    exact ⟨k1, b, off, k2, hs _ (World.block_lt_of_cell? w _ k4) k3, k4⟩
  · obtain ⟨b, off, k1, k2, k3, k4⟩ := h6 i hi
    exact ⟨b, off, k1, hs _ (World.block_lt_of_cell? w _ k3) k2, k3, k4⟩
theorem TextsIn.form {w : World} {S : Nat → Prop} {tw : Bool} {v : Value} {ts : List (List UInt8)} (h : TextsIn w S tw v ts) : ∃ a c, v = .slice a ts.length c := by obtain ⟨a, c, e, _⟩ := h; exact ⟨a, c, e⟩
theorem FuncsIn.form {w : World} {S : Nat → Prop} {tw : Bool} {v : Value} {fs : List Nd.Fn} (h : FuncsIn w S tw v fs) : ∃ a c, v = .slice a fs.length c := by obtain ⟨a, c, e, _⟩ := h; exact ⟨a, c, e⟩
theorem Nodes.form {w : World} {S : Nat → Prop} {tw : Bool} {v : Value} {x : Ns} (h : Nodes w S tw v x) : ∃ a c, v = .slice a x.len c := by obtain ⟨a, c, e, _⟩ := h; exact ⟨a, c, e⟩
theorem FnAt.frame {w w' : World} {S : Nat → Prop} {tw : Bool} {b off : Nat} {f : Nd.Fn} {v1 v2 : Value} (h : FnAt w S tw b off f v1 v2) (hS : S b) (hs : ∀ b, S b → b < w.heap.size → w'.heap[b]? = w.heap[b]?) : FnAt w' S tw b off f v1 v2 := by
  have hlt := World.block_lt_of_cell? w _ h.d0
  have e : ∀ o, w'.cell? ⟨b, o, none⟩ = w.cell? ⟨b, o, none⟩ := fun o => World.cell?_of_block (hs b hS hlt)
  exact ⟨h.name, (e _).trans h.d0, (e _).trans h.d1, (e _).trans h.d2, h.args.frame hs, h.body.frame hs⟩
theorem FnAt.mono {w : World} {S T : Nat → Prop} {tw : Bool} {b off : Nat} {f : Nd.Fn} {v1 v2 : Value} (h : FnAt w S tw b off f v1 v2) (hs : ∀ b, b < w.heap.size → S b → T b) : FnAt w T tw b off f v1 v2 :=
  ⟨h.name, h.d0, h.d1, h.d2, h.args.mono hs, h.body.mono hs⟩
theorem FuncsIn.frame {w w' : World} {S : Nat → Prop} {tw : Bool} {v : Value} {fs : List Nd.Fn} (h : FuncsIn w S tw v fs) (hs : ∀ b, S b → b < w.heap.size → w'.heap[b]? = w.heap[b]?) : FuncsIn w' S tw v fs := by
  obtain ⟨a, c, h1, h2, h3, h4, h5, h6⟩ := h
  refine ⟨a, c, h1, h2, h3, h4, fun e => ?_, fun i hi => ?_⟩
  · obtain ⟨k1, b, off, k2, k3, k4⟩ := h5 e
    exact ⟨k1, b, off, k2, k3, k4.frame (hs b k3 k4.lt)⟩
  · obtain ⟨b, off, v1, v2, k1, k2, k3⟩ := h6 i hi
    exact ⟨b, off, v1, v2, k1, k2, k3.frame k2 hs⟩
theorem FuncsIn.mono {w : World} {S T : Nat → Prop} {tw : Bool} {v : Value} {fs : List Nd.Fn} (h : FuncsIn w S tw v fs) (hs : ∀ b, b < w.heap.size → S b → T b) : FuncsIn w T tw v fs := by
  obtain ⟨a, c, h1, h2, h3, h4, h5, h6⟩ := h
  refine ⟨a, c, h1, h2, h3, h4, fun e => ?_, fun i hi => ?_⟩
  · obtain ⟨k1, b, off, k2, k3, k4⟩ := h5 e
    exact ⟨k1, b, off, k2, hs _ k4.lt k3, k4⟩
  · obtain ⟨b, off, v1, v2, k1, k2, k3⟩ := h6 i hi
    exact ⟨b, off, v1, v2, k1, hs _ (World.block_lt_of_cell? w _ k3.d0) k2, k3.mono hs⟩
theorem TextsIn.below {w w' : World} {B : Nat} {tw : Bool} {v : Value} {ts : List (List UInt8)} (h : TextsIn w (· < B) tw v ts) (hb : Below B w w') : TextsIn w' (· < B) tw v ts := h.frame fun b hB _ => hb.block b hB
theorem FuncsIn.below {w w' : World} {B : Nat} {tw : Bool} {v : Value} {fs : List Nd.Fn} (h : FuncsIn w (· < B) tw v fs) (hb : Below B w w') : FuncsIn w' (· < B) tw v fs := h.frame fun b hB _ => hb.block b hB
end Go.My
