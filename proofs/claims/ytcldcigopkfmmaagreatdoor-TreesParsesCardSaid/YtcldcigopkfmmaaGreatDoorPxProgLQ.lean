/- Trees: the reader: a program: its two loops' states; its ends. -/
import Derived.Test.YtcldcigopkfmmaaGreatDoorPxProgQ
import Derived.Test.YtcldcigopkfmmaaGreatDoorTrD4
namespace Go.Proofs.YtcldcigopkfmmaaGreatDoor
open Go.RowKit Go.My Go.Nd

theorem prVar (w : World) (c : Nat) (v0 v1 : Value) (h : w.heap[c]? = some (.cells #[v0, v1] 47 (0, 0))) : (loadVar 47 ⟨c, 0, none⟩).run Tryz.prog w = .ok (.agg #[v0, v1]) w := by
  have c0 := cell_of_row w c 0 _ _ _ h
  have c1 := cell_of_row w c 1 _ _ _ h
  simp at c0 c1
  simp [loadVar, go_sem, c0, c1]

set_option maxRecDepth 100000 in
theorem pg_results {tmps : Array Value} {w : World} {c d : Nat} {v0 v1 u : Value} (t2 : tmps.getD 2 undef = .pointer (some ⟨c, 0, none⟩)) (t3 : tmps.getD 3 undef = .pointer (some ⟨d, 0, none⟩))
    (h : w.heap[c]? = some (.cells #[v0, v1] 47 (0, 0))) (h2 : w.heap[d]? = some (.cells #[u] 4 (0, 0))) : (results Tryz.f56 tmps).run Tryz.prog w = .ok (.tuple #[.agg #[v0, v1], u]) w := by
  have hv := prVar w c v0 v1 h
  have hd : (loadVar 4 ⟨d, 0, none⟩).run Tryz.prog w = .ok u w := by
    have d0 := cell_of_row w d 0 _ _ _ h2
    simp at d0
    simp [loadVar, go_sem, d0]
  have t2' : tmps[2]?.getD undef = .pointer (some ⟨c, 0, none⟩) := by simpa using t2
  have t3' : tmps[3]?.getD undef = .pointer (some ⟨d, 0, none⟩) := by simpa using t3
  simp [results, Tryz.results56, t2', t3', asAddr, Sem.run_bind, Result.andThen, hv, hd]

set_option maxRecDepth 100000 in
theorem leave_bad {tmps : Array Value} {R : Ending → World → Prop} {w : World} {c d : Nat} {v0 v1 u : Value} (t2 : tmps.getD 2 undef = .pointer (some ⟨c, 0, none⟩)) (t3 : tmps.getD 3 undef = .pointer (some ⟨d, 0, none⟩))
    (h : w.heap[c]? = some (.cells #[v0, v1] 47 (0, 0))) (h2 : w.heap[d]? = some (.cells #[u] 4 (0, 0))) (hne : c ≠ d)
    (hR : ∀ w1 w2, Put w w1 c #[.slice none 0 0, .slice none 0 0] 47 → Put w1 w2 d #[.bool false] 4 → R (.returned (.tuple #[.agg #[.slice none 0 0, .slice none 0 0], .bool false])) w2) :
    Leaves Tryz.prog Tryz.f56 tmps R [{ target := .fn (.func 96) #[.pointer (some ⟨c, 0, none⟩), .pointer (some ⟨d, 0, none⟩)], args := #[] }] (.panicking wrongChain) w := by
  refine leaves_cons (f := 96) (args := #[.pointer (some ⟨c, 0, none⟩), .pointer (some ⟨d, 0, none⟩)]) (by simp) (by simp [go_sem]) ?_
  refine (catch_wrong c d w h h2 hne).mono ?_
  rintro e u' w'' ⟨rfl, rfl, rfl⟩
  have p1 := put2 h (.slice none 0 0) (.slice none 0 0)
  have p2 : Put _ _ d #[.bool false] 4 := Put.one ((p1.oth d (Ne.symm hne)).trans h2) 0 (.bool false)
  have hr := pg_results t2 t3 ((p2.oth c hne).trans p1.row) p2.row
  have := hR _ _ p1 p2
  show ∃ v, _ ∧ _
  exact ⟨_, hr, this⟩

set_option maxRecDepth 100000 in
theorem leave_ok {tmps : Array Value} {R : Ending → World → Prop} {w : World} {c d : Nat} {v0 v1 u : Value} (t2 : tmps.getD 2 undef = .pointer (some ⟨c, 0, none⟩)) (t3 : tmps.getD 3 undef = .pointer (some ⟨d, 0, none⟩))
    (h : w.heap[c]? = some (.cells #[v0, v1] 47 (0, 0))) (h2 : w.heap[d]? = some (.cells #[u] 4 (0, 0))) (hR : R (.returned (.tuple #[.agg #[v0, v1], u])) w) :
    Leaves Tryz.prog Tryz.f56 tmps R [{ target := .fn (.func 96) #[.pointer (some ⟨c, 0, none⟩), .pointer (some ⟨d, 0, none⟩)], args := #[] }] .returning w := by
  refine leaves_cons (f := 96) (args := #[.pointer (some ⟨c, 0, none⟩), .pointer (some ⟨d, 0, none⟩)]) (by simp) (by simp [go_sem]) ?_
  refine (catch_idle ⟨c, 0, none⟩ ⟨d, 0, none⟩ w).mono ?_
  rintro e u' w'' ⟨rfl, rfl, rfl⟩
  show ∃ v, _ ∧ _
  exact ⟨_, pg_results t2 t3 h h2, hR⟩

section
variable {P : Program}
/-- APPEND OF A FUNCTION, AS ONE STEP OF A REGION THAT DRAWS ITS ORDER. -/
theorem step_func {w : World} {ops : Array Oper} {o : Oper} {a : Act} {K : Act → World → Prop} {Q : Exit → Act → World → Prop} {X : Prop} (hgd : o.guard = none) (s x : Operand)
    (ho : o.op = .call { callee := .builtin .append, args := #[s, x], argTypes := #[44, 44] }) {v : Value} {fs : List Nd.Fn} {lo hi hi2 : Nat} {cs : Array Value} {y : Value} {f : Nd.Fn}
    (hs : a.eval s = v) (hown : FsR w lo hi v fs) (hN : FR w hi hi2 (.agg cs) f) (hy : a.eval x = y) (hx : Src w 3 y 1 cs.toList) (h1 : lo ≤ hi) (h2 : hi ≤ hi2) (h3 : hi2 ≤ w.heap.size) (hn : (fs.length + 1) * 64 ≤ 140737488351232)
    (h : ∀ ao cap w', FsR w' lo w'.heap.size (.slice ao (fs.length + 1) cap) (fs ++ [f]) → Below lo w w' → K (a.put o.dst (.slice ao (fs.length + 1) cap)) w') :
    if Region.wanted o (yielded ops a.tmps) = true then Oper.wp Tryz.prog o a w K Q else X := by
  obtain ⟨hc, xs, k, ho', hk, go⟩ := hown.app hN h1 h2 h3 hn
  refine step_append hgd s x ho fnEl hs ho' hy hx hc (by simp only [maxLen]; omega) (by omega) fun v' w' k' q1 q2 q3 => ?_
  obtain ⟨ao, cap, rfl⟩ := own_form q1
  exact h ao cap w' (go w' _ k' q1 q2 q3) (q2.below (by omega) fun b hb => (hk b hb).1)
end

theorem FR.form {w : World} {lo hi : Nat} {v : Value} {f : Nd.Fn} (h : FR w lo hi v f) : ∃ a1 c1 a2 c2, v = .agg #[.string (bs f.name), .slice a1 f.args.length c1, .slice a2 f.body.len c2] := by
  obtain ⟨x, rfl, hx, rfl, _⟩ := h
  obtain ⟨k1, _, ha, _⟩ := hx.args
  obtain ⟨a1, c1, e1⟩ := own_form ha
  obtain ⟨a2, c2, e2⟩ := hx.body.form
  exact ⟨a1, c1, a2, c2, by unfold FV.cells; rw [e1, e2]; rfl⟩

structure PgSt (w : World) (rb : Nat) (tv : Value) (xs : List To.T) (m : Nat) (tot : R Pr) (c : Nat) (fs : List Nd.Fn) (ts : List Tx) (v : Value) (wr : World) : Prop where
  plain : progT fs ts = tot
  many : fs.length + ts.length ≤ m
  step : Step w wr (some rb)
  rd : Rd wr rb tv xs ts false
  row : wr.heap[c]? = some (.cells #[v, .slice none 0 0] 47 (0, 0))
  flag : wr.heap[c + 1]? = some (.cells #[.bool false] 4 (0, 0))
  list : FsR wr (c + 2) wr.heap.size v fs
  hc : c = w.heap.size
  hrb : rb < c
theorem PgSt.next {w : World} {rb : Nat} {tv : Value} {xs : List To.T} {m : Nat} {tot : R Pr} {c : Nat} {fs : List Nd.Fn} {r q : List Tx} {f : Nd.Fn} {v v' : Value} {wr w2 w3 w4 w5 w6 : World} (h : PgSt w rb tv xs m tot c fs ([102, 110] :: r) v wr)
    (s2 : Step wr w2 (some rb)) (s3 : Step w2.drew w3 (some rb)) (hrd : func r = .ok f q) (h3 : Rd w3 rb tv xs q false) (hA : Below w3.heap.size w3 w4) (hB : Below (c + 2) w4 w5) (hL : FsR w5 (c + 2) w5.heap.size v' (fs ++ [f]))
    (hp : Put w5 w6 c #[v', .slice none 0 0] 47) : PgSt w rb tv xs m tot c (fs ++ [f]) q v' w6 := by
  have hq := (func_down r).lt hrd
  have h2 := h.many
  have hc := h.hc
  have hrb := h.hrb
  rw [List.length_cons] at h2
  have s23 : Step wr w3 (some rb) := (s2.trans (Step.of_below (Below.refl _ w2).drew)).trans s3
  have s4 : Step wr w4 (some rb) := s23.trans (Step.of_below hA)
  have hcl := heap_lt h.flag
  have s5 : Step w w5 (some rb) := ⟨hB.os.trans (s4.os.trans h.step.os), hB.tape.trans (s4.tape.trans h.step.tape), hB.output.trans (s4.output.trans h.step.output), Nat.le_trans h.step.size (Nat.le_trans s4.size hB.size), fun k hk hk' => (hB.block k (by omega)).trans ((s4.block k (Nat.lt_of_lt_of_le hk h.step.size) hk').trans (h.step.block k hk hk'))⟩
  have hfl : w5.heap[c + 1]? = some (.cells #[.bool false] 4 (0, 0)) := (hB.block _ (by omega)).trans ((s4.kept hcl (by omega)).trans h.flag)
  exact ⟨by rw [← h.plain, progT_fn, hrd]; rfl, by rw [List.length_append, List.length_singleton]; omega, s5.put hp (by omega), ((h3.later hA).keep hB.size fun k hk => hB.block k (by omega)).put hp hrb, hp.row, (hp.oth (c + 1) (by omega)).trans hfl,
    by rw [hp.size]; exact hL.frame fun b q1 _ => hp.oth b (by omega), hc, hrb⟩
def PgAt (w : World) (rb : Nat) (tv : Value) (xs : List To.T) (m : Nat) (tot : R Pr) (c : Nat) (gk : Nat) (wr : World) : Prop :=
  ∃ fs ts v, gk = ts.length ∧ PgSt w rb tv xs m tot c fs ts v wr


section
variable {P : Program}
/-- APPEND OF A NODE THAT IS NOTHING YET, AS ONE STEP OF A REGION THAT DRAWS ITS ORDER. -/
theorem step_zero {w : World} {ops : Array Oper} {o : Oper} {a : Act} {K : Act → World → Prop} {Q : Exit → Act → World → Prop} {X : Prop} (hgd : o.guard = none) (s x : Operand)
    (ho : o.op = .call { callee := .builtin .append, args := #[s, x], argTypes := #[45, 45] }) {v : Value} {l : List Nd} {lo hi : Nat} {y : Value}
    (hs : a.eval s = v) (hown : LR w TN lo hi v (Ns.of l)) (hy : a.eval x = y) (hx : Src w 5 y 1 zero5) (h1 : lo ≤ hi) (h2 : hi ≤ w.heap.size) (hn : (l.length + 1) * 96 ≤ 140737488351232)
    (h : ∀ b off cap w', Hole w' TN lo hi l b off cap → (b < hi ∨ w.heap.size ≤ b) → Below lo w w' → (∀ k, hi ≤ k → k < w.heap.size → w'.heap[k]? = w.heap[k]?) → K (a.put o.dst (.slice (some ⟨b, off, none⟩) (l.length + 1) cap)) w') :
    if Region.wanted o (yielded ops a.tmps) = true then Oper.wp Tryz.prog o a w K Q else X := by
  obtain ⟨xs, k, ho', hk, go⟩ := hole_mk hown hn h1 h2
  refine step_append hgd s x ho nodeEl hs ho' hy hx (by unfold zero5; simp [Value.oneCell']) (by simp only [maxLen]; omega) (by omega) fun v' w' k' q1 q2 q3 => ?_
  obtain ⟨b, off, cap, rfl, hH, hb⟩ := go w' v' k' q1 q2 q3
  exact h b off cap w' hH hb (q2.below (by omega) fun b hb => (hk b hb).1) (fun j h1 h2 => q2.block j h2 fun e => by have := (hk j e.symm).2; omega)
end

/-- What the call of a statement does, amid a program's body. -/
def StmRes (W : World) (rb c hi mm : Nat) (tv : Value) (xs : List To.T) (row : Array Value) (l : List Nd) (lv : Value) (ts : List Tx) (bad : World → Prop) (e : Ending) (w3 : World) : Prop :=
  (e = .panicked wrongChain ∧ bad w3) ∨ ∃ x u a1 d1 a2 d2 a3 d3, e = .returned (.agg #[.int .u8 (x.kind : Int), .string (tx x.text), .slice a1 x.l.len d1, .slice a2 x.body.len d2, .slice a3 x.els.len d3]) ∧ stm false ts = .ok x u ∧ Step W w3 (some rb) ∧ Rd w3 rb tv xs u false ∧
    w3.heap[c]? = some (.cells row 47 (0, 0)) ∧ NS w3 TN (fun k => hi ≤ k) (.agg #[.int .u8 (x.kind : Int), .string (tx x.text), .slice a1 x.l.len d1, .slice a2 x.body.len d2, .slice a3 x.els.len d3]) x ∧ LR w3 TN mm hi lv (Ns.of l) ∧ W.heap.size ≤ w3.heap.size
theorem stm_res {W : World} {rb c hi mm : Nat} {tv : Value} {xs : List To.T} {row : Array Value} {l : List Nd} {lv : Value} {ts : List Tx} {bad : World → Prop} (h : Rd W rb tv xs ts false) (hrow : W.heap[c]? = some (.cells row 47 (0, 0))) (hc : c ≠ rb) (hl : LR W TN mm hi lv (Ns.of l)) (hmm : rb < mm) (hhi : hi ≤ W.heap.size)
    (hbad : ∀ u w3, stm false ts = .bad u → Step W w3 (some rb) → Rd w3 rb tv xs u false → bad w3) :
    Calls Tryz.prog 99 #[.pointer (some ⟨rb, 0, none⟩)] W (StmRes W rb c hi mm tv xs row l lv ts bad) := by
  refine (stm_t h).mono ?_
  rintro e w3 ⟨hs3, h3, hres⟩
  cases hrd : stm false ts with
  | bad u => rw [hrd] at hres h3; exact .inl ⟨hres, hbad u w3 hrd hs3 h3⟩
  | ok x u =>
    rw [hrd] at hres h3
    obtain ⟨v, rfl, hN⟩ := hres
    obtain ⟨a1, d1, a2, d2, a3, d3, rfl⟩ := hN.form
    exact .inr ⟨x, u, a1, d1, a2, d2, a3, d3, rfl, hrd, hs3, h3, (hs3.kept (heap_lt hrow) hc).trans hrow, hN.ns (fun k q1 _ => by omega), LR.kept hl hs3 hmm hhi, hs3.size⟩

structure PbSt (w : World) (rb : Nat) (tv : Value) (xs : List To.T) (m : Nat) (tot : R Pr) (c mm : Nat) (fs : List Nd.Fn) (vf : Value) (l : List Nd) (ts : List Tx) (v : Value) (wr : World) : Prop where
  plain : (bodyT ts).map (fun b => (⟨fs, Ns.of (l ++ b)⟩ : Pr)) = tot
  many : l.length + ts.length ≤ m
  step : Step w wr (some rb)
  rd : Rd wr rb tv xs ts false
  row : wr.heap[c]? = some (.cells #[vf, v] 47 (0, 0))
  flag : wr.heap[c + 1]? = some (.cells #[.bool false] 4 (0, 0))
  funcs : FsR wr (c + 2) mm vf fs
  list : LR wr TN mm wr.heap.size v (Ns.of l)
  hc : c = w.heap.size
  hrb : rb < c
  lo : c + 2 ≤ mm
  hi : mm ≤ wr.heap.size
theorem src_row {w : World} {k n size : Nat} {o : Array Value} {t : TypeId} (h : w.heap[k]? = some (.cells o t (0, 0))) (hs : o.size = n * size) : Src w size (.slice (some ⟨k, 0, none⟩) n n) n o.toList :=
  ⟨by simp [hs], .inr ⟨_, _, rfl, fun j u hj => by
    rw [add_none, cell_of_row _ k (0 + j) o t (0, 0) h, ← hj]
    simp⟩⟩
/-- What the append of a node that is nothing yet leaves. -/
def Apd (w3 w5 : World) (c hi mm : Nat) (row : Array Value) (l : List Nd) (b off cp : Nat) : Prop :=
  ∃ W4, Below w3.heap.size w3 W4 ∧ (b < hi ∨ W4.heap.size ≤ b) ∧ Below mm W4 w5 ∧ (∀ k, hi ≤ k → k < W4.heap.size → w5.heap[k]? = W4.heap[k]?) ∧ Hole w5 TN mm hi l b off cp ∧ w5.heap[c]? = some (.cells row 47 (0, 0))
/-- Cells of one block turn. -/
structure Sets (w w' : World) (b : Nat) : Prop where
  os : w'.os = w.os
  tape : w'.tape = w.tape
  output : w'.output = w.output
  size : w'.heap.size = w.heap.size
  oth : ∀ k, k ≠ b → w'.heap[k]? = w.heap[k]?
theorem Sets.one (w : World) (b o : Nat) (u : Value) : Sets w (w.setCell ⟨b, o, none⟩ u) b := ⟨rfl, rfl, rfl, by simp, fun k hk => Below.heap_setCell w ⟨b, o, none⟩ u k (by simpa using hk)⟩
theorem Sets.trans {w w1 w2 : World} {b : Nat} (h : Sets w w1 b) (k : Sets w1 w2 b) : Sets w w2 b := ⟨k.os.trans h.os, k.tape.trans h.tape, k.output.trans h.output, k.size.trans h.size, fun j hj => (k.oth j hj).trans (h.oth j hj)⟩
theorem Sets.five (w : World) (b o0 o1 o2 o3 o4 : Nat) (u0 u1 u2 u3 u4 : Value) : Sets w (((((w.setCell ⟨b, o0, none⟩ u0).setCell ⟨b, o1, none⟩ u1).setCell ⟨b, o2, none⟩ u2).setCell ⟨b, o3, none⟩ u3).setCell ⟨b, o4, none⟩ u4) b :=
  ((((Sets.one w b o0 u0).trans (Sets.one _ b o1 u1)).trans (Sets.one _ b o2 u2)).trans (Sets.one _ b o3 u3)).trans (Sets.one _ b o4 u4)
theorem Apd.fill {w3 w5 : World} {c hi mm : Nat} {row : Array Value} {l : List Nd} {b off cp : Nat} {u0 u1 u2 u3 u4 : Value} {x : Nd} (h : Apd w3 w5 c hi mm row l b off cp) (hN : NS w3 TN (fun k => hi ≤ k) (.agg #[u0, u1, u2, u3, u4]) x) (hmm : mm ≤ hi) :
    LR (((((w5.setCell ⟨b, off + l.length * 5, none⟩ u0).setCell ⟨b, off + l.length * 5 + 1, none⟩ u1).setCell ⟨b, off + l.length * 5 + 2, none⟩ u2).setCell ⟨b, off + l.length * 5 + 3, none⟩ u3).setCell ⟨b, off + l.length * 5 + 4, none⟩ u4) TN mm w5.heap.size (.slice (some ⟨b, off, none⟩) (l.length + 1) cp) (Ns.of (l ++ [x])) := by
  obtain ⟨W4, hA4, hb, hB, hkp, hH, hrow⟩ := h
  have hw4 := hA4.size
  have hN4 : NS W4 TN (fun k => hi ≤ k ∧ k < w3.heap.size) (.agg #[u0, u1, u2, u3, u4]) x := NS.later (NS.mono hN fun k q1 q2 => ⟨q1, q2⟩) hA4
  have hN5 : NS w5 TN (fun k => hi ≤ k ∧ k ≠ b) (.agg #[u0, u1, u2, u3, u4]) x := NS.mono (NS.frame hN4 fun k q1 q2 => hkp k q1.1 q2) fun k q1 _ => ⟨q1.1, by omega⟩
  exact hH.fill hN5 hmm
/-- From w5 to w7: blocks b and c alone have turned. -/
structure Fin5 (w5 w7 : World) (b c : Nat) (row : Array Value) : Prop where
  os : w7.os = w5.os
  tape : w7.tape = w5.tape
  output : w7.output = w5.output
  size : w7.heap.size = w5.heap.size
  oth : ∀ k, k ≠ b → k ≠ c → w7.heap[k]? = w5.heap[k]?
  row : w7.heap[c]? = some (.cells row 47 (0, 0))
theorem fin5_a {w5 w6 w7 : World} {b c : Nat} {row : Array Value} (hs : Sets w5 w6 b) (hp : Put w6 w7 c row 47) : Fin5 w5 w7 b c row :=
  ⟨hp.os.trans hs.os, hp.tape.trans hs.tape, hp.output.trans hs.output, hp.size.trans hs.size, fun k h1 h2 => (hp.oth k h2).trans (hs.oth k h1), hp.row⟩
theorem fin5_b {w5 w6 w7 : World} {b c : Nat} {row : Array Value} (hp : Put w5 w6 c row 47) (hs : Sets w6 w7 b) (hcb : c ≠ b) : Fin5 w5 w7 b c row :=
  ⟨hs.os.trans hp.os, hs.tape.trans hp.tape, hs.output.trans hp.output, hs.size.trans hp.size, fun k h1 h2 => (hs.oth k h1).trans (hp.oth k h2), (hs.oth c hcb).trans hp.row⟩
theorem Apd.fill2 {w3 w5 w6 : World} {c hi mm : Nat} {row row' : Array Value} {l : List Nd} {b off cp : Nat} {u0 u1 u2 u3 u4 : Value} {x : Nd} (h : Apd w3 w5 c hi mm row l b off cp) (hN : NS w3 TN (fun k => hi ≤ k) (.agg #[u0, u1, u2, u3, u4]) x) (hmm : mm ≤ hi) (hc : c < mm) (hp : Put w5 w6 c row' 47) :
    LR (((((w6.setCell ⟨b, off + l.length * 5, none⟩ u0).setCell ⟨b, off + l.length * 5 + 1, none⟩ u1).setCell ⟨b, off + l.length * 5 + 2, none⟩ u2).setCell ⟨b, off + l.length * 5 + 3, none⟩ u3).setCell ⟨b, off + l.length * 5 + 4, none⟩ u4) TN mm w6.heap.size (.slice (some ⟨b, off, none⟩) (l.length + 1) cp) (Ns.of (l ++ [x])) := by
  obtain ⟨W4, hA4, hb, hB, hkp, hH, hrow⟩ := h
  have hw4 := hA4.size
  have hbl := hH.lo
  have hN4 : NS W4 TN (fun k => hi ≤ k ∧ k < w3.heap.size) (.agg #[u0, u1, u2, u3, u4]) x := NS.later (NS.mono hN fun k q1 q2 => ⟨q1, q2⟩) hA4
  have hN5 : NS w5 TN (fun k => hi ≤ k ∧ k ≠ b) (.agg #[u0, u1, u2, u3, u4]) x := NS.mono (NS.frame hN4 fun k q1 q2 => hkp k q1.1 q2) fun k q1 _ => ⟨q1.1, by omega⟩
  exact (hH.frame fun k hk => hp.oth k (by rcases hk with hk | hk <;> omega)).fill (NS.frame hN5 fun k q1 _ => hp.oth k (by omega)) hmm
theorem PbSt.next {w : World} {rb : Nat} {tv : Value} {xs : List To.T} {m : Nat} {tot : R Pr} {c mm : Nat} {fs : List Nd.Fn} {vf lv : Value} {l : List Nd} {s : Tx} {r u : List Tx} {x : Nd} {b off cp : Nat} {wr w2 w3 w5 w7 : World} (h : PbSt w rb tv xs m tot c mm fs vf l (s :: r) lv wr)
    (h2 : Below wr.heap.size wr w2) (s3 : Step w2 w3 (some rb)) (hrd : stm false (s :: r) = .ok x u) (h3 : Rd w3 rb tv xs u false) (hA : Apd w3 w5 c wr.heap.size mm #[vf, lv] l b off cp)
    (main : LR w7 TN mm w7.heap.size (.slice (some ⟨b, off, none⟩) (l.length + 1) cp) (Ns.of (l ++ [x]))) (hf : Fin5 w5 w7 b c #[vf, .slice (some ⟨b, off, none⟩) (l.length + 1) cp]) :
    PbSt w rb tv xs m tot c mm fs vf (l ++ [x]) u (.slice (some ⟨b, off, none⟩) (l.length + 1) cp) w7 := by
  obtain ⟨W4, hA4, hb, hB, hkp, hH, hrow⟩ := hA
  have hq := (stm_down false (s :: r)).lt hrd
  have hm := h.many
  have hc := h.hc
  have hrb := h.hrb
  have hlo := h.lo
  have hhi := h.hi
  have hbl := hH.lo
  rw [List.length_cons] at hm hq
  have hw2 := h2.size
  have hw3 := s3.size
  have hw4 := hA4.size
  have hw5 := hB.size
  have low : ∀ k, k < mm → w7.heap[k]? = if k = c then w7.heap[k]? else W4.heap[k]? := fun k hk => by
    split
    · rfl
    · rename_i hkc; rw [hf.oth k (by omega) hkc, hB.block k hk]
  have low' : ∀ k, k < mm → k ≠ c → w7.heap[k]? = W4.heap[k]? := fun k hk hkc => by have := low k hk; rwa [if_neg hkc] at this
  have z7 := hf.size
  have s4 : Step wr W4 (some rb) := ((Step.of_below h2).trans s3).trans (Step.of_below hA4)
  refine ⟨?_, by rw [List.length_append, List.length_singleton]; omega, ⟨hf.os.trans (hB.os.trans (s4.os.trans h.step.os)), hf.tape.trans (hB.tape.trans (s4.tape.trans h.step.tape)), hf.output.trans (hB.output.trans (s4.output.trans h.step.output)), by have := h.step.size; omega, fun k hk hk' => ?_⟩, ?_, hf.row, ?_, ?_, ?_, hc, hrb, hlo, by omega⟩
  · rw [← h.plain, bodyT_cons, hrd]
    simp only [R.then_]
    rw [R.map_map]
    congr 1
    funext a
    simp
  · rw [low' k (by omega) (by omega)]
    exact (s4.block k (by have := h.step.size; omega) hk').trans (h.step.block k hk hk')
  · exact (h3.later hA4).keep (by omega) fun k hk => low' k (by omega) (by omega)
  · rw [low' (c + 1) (by omega) (by omega)]
    exact (s4.kept (heap_lt h.flag) (by omega)).trans h.flag
  · exact (FsR.kept h.funcs s4 (by omega) hhi).frame fun k q1 q2 => low' k q2 (by omega)
  · exact main
theorem Apd.crow {w3 w5 : World} {c hi mm : Nat} {row : Array Value} {l : List Nd} {b off cp : Nat} (h : Apd w3 w5 c hi mm row l b off cp) : w5.heap[c]? = some (.cells row 47 (0, 0)) := by
  obtain ⟨W4, hA4, hb, hB, hkp, hH, hrow⟩ := h
  exact hrow
theorem Apd.row {w3 w5 : World} {c hi mm : Nat} {row : Array Value} {l : List Nd} {b off cp : Nat} {u0 u1 u2 u3 u4 : Value} (h : Apd w3 w5 c hi mm row l b off cp) (hcb : ¬ c = b) :
    (((((w5.setCell ⟨b, off + l.length * 5, none⟩ u0).setCell ⟨b, off + l.length * 5 + 1, none⟩ u1).setCell ⟨b, off + l.length * 5 + 2, none⟩ u2).setCell ⟨b, off + l.length * 5 + 3, none⟩ u3).setCell ⟨b, off + l.length * 5 + 4, none⟩ u4).heap[c]? = some (.cells row 47 (0, 0)) := by
  obtain ⟨W4, hA4, hb, hB, hkp, hH, hrow⟩ := h
  have s : ∀ (w : World) (o : Nat) (u : Value), (w.setCell ⟨b, o, none⟩ u).heap[c]? = w.heap[c]? := fun w o u => Below.heap_setCell w ⟨b, o, none⟩ u c (by simpa using hcb)
  rw [s, s, s, s, s]; exact hrow
def PbAt (w : World) (rb : Nat) (tv : Value) (xs : List To.T) (m : Nat) (tot : R Pr) (c mm : Nat) (fs : List Nd.Fn) (vf : Value) (gk : Nat) (wr : World) : Prop :=
  ∃ l ts v, gk = ts.length ∧ PbSt w rb tv xs m tot c mm fs vf l ts v wr
theorem wp_mono_post {P : Program} {c : Code} {Q Q' : Exit → Act → World → Prop} {a : Act} {w : World} (hq : ∀ e a w, Q e a w → Q' e a w) (h : c.wp P Q a w) : c.wp P Q' a w := wp_mono h hq
/-- Behind the region: the relation, and the frame but for its scratch. -/
def R5Post (J : World → Prop) (A : Value → Value → Value → Value → Value → Value → Value → Value → Value → Act) : Exit → Act → World → Prop
  | .normal, a, w => J w ∧ ∃ y1 y2 y3 y4 y5 y6 y7 y8 y9, a = A y1 y2 y3 y4 y5 y6 y7 y8 y9
  | _, _, _ => False
def PbLess (w : World) (rb : Nat) (tv : Value) (xs : List To.T) (m : Nat) (tot : R Pr) (c mm : Nat) (fs : List Nd.Fn) (vf : Value) (n : Nat) (wr : World) : Prop :=
  ∃ gk, gk < n ∧ PbAt w rb tv xs m tot c mm fs vf gk wr
end Go.Proofs.YtcldcigopkfmmaaGreatDoor
