/- Trees, as the document has them: a program: the states of Parse's two loops. -/
import Derived.Test.YtcldcigopkfmmaaGreatDoorRrFuncQ
import Derived.Test.YtcldcigopkfmmaaGreatDoorPxProgLQ
namespace Go.To
theorem read_kinds (s : List UInt8) : ∀ x ∈ (read s).1, (name x.text = true → x.kind = 1) ∧ (Go.Nd.plain x.text = true → x.kind = 2) := by
  intro x hx
  unfold read at hx
  split at hx
  · cases hx
  · split at hx
    · cases hx
    · exact all_kinds s x hx
end Go.To
namespace Go.Nd
theorem progG_fn (fs : List Fn) (r : List Tx) {f : Fn} (hi : (func r).Is f) : progT fs ([102, 110] :: r) = gate (func r).isBad (func r).rest (progT (fs ++ [f]) (func r).rest) := by
  rw [progT_fn]
  cases hr : func r with
  | bad q => rfl
  | ok g q =>
    obtain rfl := hi g q hr
    rfl
theorem bodyG_cons (fs : List Fn) (l : List Nd) (s : Tx) (r : List Tx) {x : Nd} (hi : (stm false (s :: r)).Is x) : (bodyT (s :: r)).map (fun b => (⟨fs, Ns.of (l ++ b)⟩ : Pr)) = gate (stm false (s :: r)).isBad (stm false (s :: r)).rest ((bodyT (stm false (s :: r)).rest).map fun b => (⟨fs, Ns.of (l ++ [x] ++ b)⟩ : Pr)) := by
  rw [bodyT_cons]
  cases hr : stm false (s :: r) with
  | bad q => rfl
  | ok y q =>
    obtain rfl := hi y q hr
    show R.map _ (R.map _ (bodyT q)) = R.map _ (bodyT q)
    rw [R.map_map]
    congr 1
    funext b
    simp
end Go.Nd
namespace Go.Proofs.YtcldcigopkfmmaaGreatDoor
open Go.RowKit Go.My Go.Nd

abbrev TPr : TypeId := 47
/-- In the first loop: functions. -/
structure PgR (w : World) (c rb pb : Nat) (tv : Value) (xs : List To.T) (tot : R Pr) (fs : List Nd.Fn) (ts : List Tx) (bad : Bool) (v : Value) (wr : World) : Prop where
  plain : tot = gate bad ts (progT fs ts)
  many : fs.length + ts.length ≤ xs.length
  below : Below w.heap.size w wr
  rd : Rr wr rb tv xs ts false bad
  res : wr.heap[c]? = some (.cells #[.slice none 0 0, .slice none 0 0] TPr (0, 0))
  row : wr.heap[pb]? = some (.cells #[v, .slice none 0 0] TPr (0, 0))
  list : FsR wr (pb + 1) wr.heap.size v fs
  hc : w.heap.size ≤ c
  hrb : c < rb
  hpb : rb < pb
def PgRAt (w : World) (c rb pb : Nat) (tv : Value) (xs : List To.T) (tot : R Pr) (gk : Nat) (wr : World) : Prop := ∃ fs ts bad v, gk = ts.length ∧ PgR w c rb pb tv xs tot fs ts bad v wr

theorem Rr.beyond {w w' : World} {rb n : Nat} {tv : Value} {xs : List To.T} {ts : List Tx} {inn bad : Bool} (h : Rr w rb tv xs ts inn bad) (hb : Below n w w') (hn : rb < n) : Rr w' rb tv xs ts inn bad := h.keep hb.size fun k hk => hb.block k (by omega)
theorem below_two {w w4 w5 : World} {n : Nat} (h : Below w.heap.size w w4) (k : Below n w4 w5) (hn : w.heap.size ≤ n) : Below w.heap.size w w5 :=
  ⟨k.os.trans h.os, k.tape.trans h.tape, k.output.trans h.output, Nat.le_trans h.size k.size, fun b hb => (k.block b (by omega)).trans (h.block b hb)⟩
/-- One more function. -/
theorem PgR.next {w : World} {c rb pb : Nat} {tv : Value} {xs : List To.T} {tot : R Pr} {fs : List Nd.Fn} {r : List Tx} {v v' : Value} {f : Nd.Fn} {wr w2 w3 w4 w5 w6 : World} (h : PgR w c rb pb tv xs tot fs ([102, 110] :: r) false v wr) (s2 : Step wr w2 (some rb)) (s3 : Step w2.drew w3 (some rb)) (h3 : Rr w3 rb tv xs (func r).rest false (func r).isBad) (hi : (func r).Is f)
    (hA : Below w3.heap.size w3 w4) (hB : Below (pb + 1) w4 w5) (hL : FsR w5 (pb + 1) w5.heap.size v' (fs ++ [f])) (hp : Put w5 w6 pb #[v', .slice none 0 0] TPr) : PgR w c rb pb tv xs tot (fs ++ [f]) (func r).rest (func r).isBad v' w6 := by
  have hc := h.hc
  have hrb := h.hrb
  have hpb := h.hpb
  have hlt := heap_lt h.row
  have s23 : Step wr w3 (some rb) := (s2.trans (Step.of_below (Below.refl _ w2).drew)).trans s3
  have s4 : Step wr w4 (some rb) := s23.trans (Step.of_below hA)
  have b4 : Below w.heap.size w w4 := Step.below_of_new h.below (h.below.size) s4 (fun k e => by cases e; omega)
  have b5 := below_two b4 hB (by omega)
  have hz := s4.size
  refine ⟨?_, ?_, hp.below b5 (by omega), ((h3.later hA).beyond hB (by omega)).put hp hpb, (hp.oth c (by omega)).trans ((hB.block c (by omega)).trans ((s4.kept (heap_lt h.res) (by omega)).trans h.res)), hp.row, by rw [hp.size]; exact hL.frame fun b q1 _ => hp.oth b (by omega), hc, hrb, hpb⟩
  · rw [h.plain, gate_ok]; exact progG_fn fs r hi
  · have h1 := h.many
    have h2 := R.rest_down (func_down r)
    rw [List.length_cons] at h1
    rw [List.length_append, List.length_singleton]; omega

/-- In the second loop: statements. -/
structure PbR (w : World) (c rb pb mm : Nat) (tv : Value) (xs : List To.T) (tot : R Pr) (fs : List Nd.Fn) (vf : Value) (l : List Nd) (ts : List Tx) (bad : Bool) (v : Value) (wr : World) : Prop where
  plain : tot = gate bad ts ((bodyT ts).map fun b => (⟨fs, Ns.of (l ++ b)⟩ : Pr))
  many : bad = false → l.length + ts.length ≤ xs.length
  below : Below w.heap.size w wr
  rd : Rr wr rb tv xs ts false bad
  res : wr.heap[c]? = some (.cells #[.slice none 0 0, .slice none 0 0] TPr (0, 0))
  row : wr.heap[pb]? = some (.cells #[vf, v] TPr (0, 0))
  funcs : FsR wr (pb + 1) mm vf fs
  list : LR wr TN mm wr.heap.size v (Ns.of l)
  hc : w.heap.size ≤ c
  hrb : c < rb
  hpb : rb < pb
  lo : pb + 1 ≤ mm
  hi : mm ≤ wr.heap.size
def PbRAt (w : World) (c rb pb mm : Nat) (tv : Value) (xs : List To.T) (tot : R Pr) (fs : List Nd.Fn) (vf : Value) (gk : Nat) (wr : World) : Prop := ∃ l ts bad v, gk = (if bad then 0 else ts.length + 1) ∧ PbR w c rb pb mm tv xs tot fs vf l ts bad v wr

theorem PgR.body {w : World} {c rb pb : Nat} {tv : Value} {xs : List To.T} {tot : R Pr} {fs : List Nd.Fn} {ts : List Tx} {bad : Bool} {v : Value} {wr : World} (h : PgR w c rb pb tv xs tot fs ts bad v wr) (hno : No bad ts [102, 110]) : PbR w c rb pb wr.heap.size tv xs tot fs v [] ts bad (.slice none 0 0) wr := by
  refine ⟨?_, fun _ => by have := h.many; simp; omega, h.below, h.rd, h.res, h.row, h.list, LR.nil _ _ _ _, h.hc, h.hrb, h.hpb, heap_lt h.row, Nat.le_refl _⟩
  rw [h.plain]
  cases bad with
  | true => rfl
  | false =>
    rw [gate_ok, gate_ok, progT_body fs ts fun e => by
      obtain ⟨r, rfl⟩ := head_form e
      simp [No] at hno]
    rfl
/-- One more statement. -/
theorem PbR.next {w : World} {c rb pb mm : Nat} {tv : Value} {xs : List To.T} {tot : R Pr} {fs : List Nd.Fn} {vf : Value} {l : List Nd} {s : Tx} {r : List Tx} {v v' : Value} {x : Nd} {wr w3 w4 w5 w6 : World} (h : PbR w c rb pb mm tv xs tot fs vf l (s :: r) false v wr) (s3 : Step wr w3 (some rb)) (h3 : Rr w3 rb tv xs (stm false (s :: r)).rest false (stm false (s :: r)).isBad) (hi : (stm false (s :: r)).Is x)
    (hA : Below w3.heap.size w3 w4) (hB : Below mm w4 w5) (hL : LR w5 TN mm w5.heap.size v' (Ns.of (l ++ [x]))) (hp : Put w5 w6 pb #[vf, v'] TPr) : PbR w c rb pb mm tv xs tot fs vf (l ++ [x]) (stm false (s :: r)).rest (stm false (s :: r)).isBad v' w6 := by
  have hc := h.hc
  have hrb := h.hrb
  have hpb := h.hpb
  have hlo := h.lo
  have hhi := h.hi
  have hlt := heap_lt h.row
  have s4 : Step wr w4 (some rb) := s3.trans (Step.of_below hA)
  have b4 : Below w.heap.size w w4 := Step.below_of_new h.below (h.below.size) s4 (fun k e => by cases e; omega)
  have b5 := below_two b4 hB (by omega)
  have hz := s4.size
  have hz5 := hB.size
  have hd := R.rest_down (stm_down false (s :: r))
  refine ⟨?_, ?_, hp.below b5 (by omega), ((h3.later hA).beyond hB (by omega)).put hp hpb, (hp.oth c (by omega)).trans ((hB.block c (by omega)).trans ((s4.kept (heap_lt h.res) (by omega)).trans h.res)), hp.row,
    ((h.funcs.kept s4 (by omega) hhi).frame fun b q1 q2 => hB.block b q2).frame fun b q1 _ => hp.oth b (by omega), by rw [hp.size]; exact LR.frame hL fun b q1 _ => hp.oth b (by omega), hc, hrb, hpb, hlo, by rw [hp.size]; omega⟩
  · rw [h.plain, gate_ok]; exact bodyG_cons fs l s r hi
  · intro e
    have h1 := h.many rfl
    rw [List.length_append, List.length_singleton]
    cases hr : stm false (s :: r) with
    | ok y q => have := (stm_down false (s :: r)).lt hr; show l.length + 1 + q.length ≤ _; rw [List.length_cons] at *; omega
    | bad q => rw [hr] at e; cases e

/-- APPEND OF A NODE, AS ONE STEP OF A REGION THAT DRAWS ITS ORDER. -/
theorem step_node {w : World} {ops : Array Oper} {o : Oper} {a : Act} {K : Act → World → Prop} {Q : Exit → Act → World → Prop} {X : Prop} (hgd : o.guard = none) (s x : Operand)
    (ho : o.op = .call { callee := .builtin .append, args := #[s, x], argTypes := #[45, 45] }) {v : Value} {l : List Nd} {lo hi hi2 : Nat} {cs : Array Value} {y : Value} {nd : Nd}
    (hs : a.eval s = v) (hown : LR w TN lo hi v (Ns.of l)) (hN : NR w TN hi hi2 (.agg cs) nd) (hy : a.eval x = y) (hx : Src w 5 y 1 cs.toList) (h1 : lo ≤ hi) (h2 : hi ≤ hi2) (h3 : hi2 ≤ w.heap.size) (hn : (l.length + 1) * 96 ≤ 140737488351232)
    (h : ∀ ao cap w', LR w' TN lo w'.heap.size (.slice ao (l.length + 1) cap) (Ns.of (l ++ [nd])) → Below lo w w' → K (a.put o.dst (.slice ao (l.length + 1) cap)) w') :
    if Region.wanted o (yielded ops a.tmps) = true then Oper.wp Tryz.prog o a w K Q else X := by
  obtain ⟨hc, xs, k, ho', hk, go⟩ := hown.app hN h1 h2 h3 hn
  refine step_append hgd s x ho nodeEl hs ho' hy hx hc (by simp only [maxLen]; omega) (by omega) fun v' w' k' q1 q2 q3 => ?_
  obtain ⟨ao, cap, rfl⟩ := own_form q1
  exact h ao cap w' (go w' _ k' q1 q2 q3) (q2.below (by omega) fun b hb => (hk b hb).1)
theorem row2_alloc {w : World} {c : Nat} {v0 v1 : Value} {T : TypeId} (h : w.heap[c]? = some (.cells #[v0, v1] T (0, 0))) (o : Obj) : (w.alloc o).heap[c]? = some (.cells #[v0, v1] T (0, 0)) :=
  ((Below.alloc (Below.refl _ w) (Nat.le_refl _) o).block c (heap_lt h)).trans h
theorem row2 {w : World} {c : Nat} {v0 v1 : Value} {T : TypeId} (h : w.heap[c]? = some (.cells #[v0, v1] T (0, 0))) : w.cell? ⟨c, 0, none⟩ = some v0 ∧ w.cell? ⟨c, 1, none⟩ = some v1 ∧ w.frozen? ⟨c, 0, none⟩ = false ∧ w.frozen? ⟨c, 1, none⟩ = false :=
  ⟨cell_of_row w c 0 _ _ _ h, cell_of_row w c 1 _ _ _ h, frozen_of_row w c 0 _ _ h, frozen_of_row w c 1 _ _ h⟩
end Go.Proofs.YtcldcigopkfmmaaGreatDoor
