/- Texts put together: PxProgL, PxProgW, ToSil, ToAll, ToRead, ToTokM, PxParse, NdBox. -/
import Derived.Test.YtmkhfonafcikdaaGreatDoorTrB4
import Derived.Deep.RegionHeld3
import Derived.RegionDies
import Derived.Deep.Light
import Derived.Test.YtmkhfonafcikdaaGreatDoorTrB2
import Derived.Test.YtmkhfonafcikdaaGreatDoorTrB3
import Derived.StillTailTactics
import Derived.BigRegion
import Derived.IntWalk
import Derived.ChangeAlike
import Derived.BigRegionIn
import Derived.Shelf.RegionOpen
import Derived.Test.YtmkhfonafcikdaaGreatDoorTrB1

/- Trees: the reader: a program: its two loops' states; its ends. -/
namespace Go.Proofs.YtmkhfonafcikdaaGreatDoor
open Go.RowKit Go.My Go.Nd

theorem prVar (w : World) (c : Nat) (v0 v1 : Value) (h : w.heap[c]? = some (.cells #[v0, v1] 25 (0, 0))) : (loadVar 25 ⟨c, 0, none⟩).run Tryz.prog w = .ok (.agg #[v0, v1]) w := by
  have c0 := cell_of_row w c 0 _ _ _ h
  have c1 := cell_of_row w c 1 _ _ _ h
  simp at c0 c1
  simp [loadVar, go_sem, c0, c1]

set_option maxRecDepth 100000 in
theorem pg_results {tmps : Array Value} {w : World} {c d : Nat} {v0 v1 u : Value} (t2 : tmps.getD 2 undef = .pointer (some ⟨c, 0, none⟩)) (t3 : tmps.getD 3 undef = .pointer (some ⟨d, 0, none⟩))
    (h : w.heap[c]? = some (.cells #[v0, v1] 25 (0, 0))) (h2 : w.heap[d]? = some (.cells #[u] 4 (0, 0))) : (results Tryz.f138 tmps).run Tryz.prog w = .ok (.tuple #[.agg #[v0, v1], u]) w := by
  have hv := prVar w c v0 v1 h
  have hd : (loadVar 4 ⟨d, 0, none⟩).run Tryz.prog w = .ok u w := by
    have d0 := cell_of_row w d 0 _ _ _ h2
    simp at d0
    simp [loadVar, go_sem, d0]
  have t2' : tmps[2]?.getD undef = .pointer (some ⟨c, 0, none⟩) := by simpa using t2
  have t3' : tmps[3]?.getD undef = .pointer (some ⟨d, 0, none⟩) := by simpa using t3
  simp [results, Tryz.results138, t2', t3', asAddr, Sem.run_bind, Result.andThen, hv, hd]

set_option maxRecDepth 100000 in
theorem leave_bad {tmps : Array Value} {R : Ending → World → Prop} {w : World} {c d : Nat} {v0 v1 u : Value} (t2 : tmps.getD 2 undef = .pointer (some ⟨c, 0, none⟩)) (t3 : tmps.getD 3 undef = .pointer (some ⟨d, 0, none⟩))
    (h : w.heap[c]? = some (.cells #[v0, v1] 25 (0, 0))) (h2 : w.heap[d]? = some (.cells #[u] 4 (0, 0))) (hne : c ≠ d)
    (hR : ∀ w1 w2, Put w w1 c #[.slice none 0 0, .slice none 0 0] 25 → Put w1 w2 d #[.bool false] 4 → R (.returned (.tuple #[.agg #[.slice none 0 0, .slice none 0 0], .bool false])) w2) :
    Leaves Tryz.prog Tryz.f138 tmps R [{ target := .fn (.func 157) #[.pointer (some ⟨c, 0, none⟩), .pointer (some ⟨d, 0, none⟩)], args := #[] }] (.panicking wrongChain) w := by
  refine leaves_cons (f := 157) (args := #[.pointer (some ⟨c, 0, none⟩), .pointer (some ⟨d, 0, none⟩)]) (by simp) (by simp [go_sem]) ?_
  refine (catch_wrong c d w h h2 hne).mono ?_
  rintro e u' w'' ⟨rfl, rfl, rfl⟩
  have p1 := put2 h (.slice none 0 0) (.slice none 0 0)
  have p2 : Put _ _ d #[.bool false] 4 := Put.one ((p1.oth d (Ne.symm hne)).trans h2) 0 (.bool false)
  have hr := pg_results t2 t3 ((p2.oth c hne).trans p1.row) p2.row
  have := hR _ _ p1 p2
  show ∃ v, _ ∧ _
  exact ⟨_, hr, this⟩

set_option maxRecDepth 100000 in
theorem leave_ok {tmps : Array Value} {R : Ending → World → Prop} {w : World} {c d : Nat} {v0 v1 u : Value} (t2 : tmps.getD 2 undef = .pointer (some ⟨c, 0, none⟩)) (t3 : tmps.getD 3 undef = .pointer (some ⟨d, 0, none⟩))
    (h : w.heap[c]? = some (.cells #[v0, v1] 25 (0, 0))) (h2 : w.heap[d]? = some (.cells #[u] 4 (0, 0))) (hR : R (.returned (.tuple #[.agg #[v0, v1], u])) w) :
    Leaves Tryz.prog Tryz.f138 tmps R [{ target := .fn (.func 157) #[.pointer (some ⟨c, 0, none⟩), .pointer (some ⟨d, 0, none⟩)], args := #[] }] .returning w := by
  refine leaves_cons (f := 157) (args := #[.pointer (some ⟨c, 0, none⟩), .pointer (some ⟨d, 0, none⟩)]) (by simp) (by simp [go_sem]) ?_
  refine (catch_idle ⟨c, 0, none⟩ ⟨d, 0, none⟩ w).mono ?_
  rintro e u' w'' ⟨rfl, rfl, rfl⟩
  show ∃ v, _ ∧ _
  exact ⟨_, pg_results t2 t3 h h2, hR⟩

section
variable {P : Program}
/-- APPEND OF A FUNCTION, AS ONE STEP OF A REGION THAT DRAWS ITS ORDER. -/
theorem step_func {w : World} {ops : Array Oper} {o : Oper} {a : Act} {K : Act → World → Prop} {Q : Exit → Act → World → Prop} {X : Prop} (hgd : o.guard = none) (s x : Operand)
    (ho : o.op = .call { callee := .builtin .append, args := #[s, x], argTypes := #[22, 22] }) {v : Value} {fs : List Nd.Fn} {lo hi hi2 : Nat} {cs : Array Value} {y : Value} {f : Nd.Fn}
    (hs : a.eval s = v) (hown : FsR w lo hi v fs) (hN : FR w hi hi2 (.agg cs) f) (hy : a.eval x = y) (hx : Src w 3 y 1 cs.toList) (h1 : lo ≤ hi) (h2 : hi ≤ hi2) (h3 : hi2 ≤ w.heap.size) (hn : (fs.length + 1) * 64 ≤ 140737488351232)
    (h : ∀ ao cap w', FsR w' lo w'.heap.size (.slice ao (fs.length + 1) cap) (fs ++ [f]) → Below lo w w' → K (a.put o.dst (.slice ao (fs.length + 1) cap)) w') :
    if Region.wanted o (yielded ops a.tmps) = true then Oper.wp Tryz.prog o a w K Q else X := by
  obtain ⟨hc, xs, k, ho', hk, go⟩ := hown.app hN h1 h2 h3 hn
  refine step_append hgd s x ho fnEl hs ho' hy hx hc (by simp only [maxLen]; omega) (by omega) fun v' w' k' q1 q2 q3 => ?_
  obtain ⟨ao, cap, rfl⟩ := own_form q1
  exact h ao cap w' (go w' _ k' q1 q2 q3) (q2.below (by omega) fun b hb => (hk b hb).1)
end

theorem FR.form {w : World} {lo hi : Nat} {v : Value} {f : Nd.Fn} (h : FR w lo hi v f) : ∃ a1 c1 a2 c2, v = .agg #[.string (bs f.name), .slice a1 f.args.length c1, .slice a2 f.body.len c2] := by
  obtain ⟨x, rfl, hx, rfl, _⟩ := h
  obtain ⟨k1, _, ha, _⟩ := hx.args
  obtain ⟨a1, c1, e1⟩ := own_form ha
  obtain ⟨a2, c2, e2⟩ := hx.body.form
  exact ⟨a1, c1, a2, c2, by unfold FV.cells; rw [e1, e2]; rfl⟩

structure PgSt (w : World) (rb : Nat) (tv : Value) (xs : List To.T) (m : Nat) (tot : R Pr) (c : Nat) (fs : List Nd.Fn) (ts : List Tx) (v : Value) (wr : World) : Prop where
  plain : progT fs ts = tot
  many : fs.length + ts.length ≤ m
  step : Step w wr (some rb)
  rd : Rd wr rb tv xs ts false
  row : wr.heap[c]? = some (.cells #[v, .slice none 0 0] 25 (0, 0))
  flag : wr.heap[c + 1]? = some (.cells #[.bool false] 4 (0, 0))
  list : FsR wr (c + 2) wr.heap.size v fs
  hc : c = w.heap.size
  hrb : rb < c
theorem PgSt.next {w : World} {rb : Nat} {tv : Value} {xs : List To.T} {m : Nat} {tot : R Pr} {c : Nat} {fs : List Nd.Fn} {r q : List Tx} {f : Nd.Fn} {v v' : Value} {wr w2 w3 w4 w5 w6 : World} (h : PgSt w rb tv xs m tot c fs ([102, 110] :: r) v wr)
    (s2 : Step wr w2 (some rb)) (s3 : Step w2.drew w3 (some rb)) (hrd : func r = .ok f q) (h3 : Rd w3 rb tv xs q false) (hA : Below w3.heap.size w3 w4) (hB : Below (c + 2) w4 w5) (hL : FsR w5 (c + 2) w5.heap.size v' (fs ++ [f]))
    (hp : Put w5 w6 c #[v', .slice none 0 0] 25) : PgSt w rb tv xs m tot c (fs ++ [f]) q v' w6 := by
  have hq := (func_down r).lt hrd
  have h2 := h.many
  have hc := h.hc
  have hrb := h.hrb
  rw [List.length_cons] at h2
  have s23 : Step wr w3 (some rb) := (s2.trans (Step.of_below (Below.refl _ w2).drew)).trans s3
  have s4 : Step wr w4 (some rb) := s23.trans (Step.of_below hA)
  have hcl := heap_lt h.flag
  have s5 : Step w w5 (some rb) := ⟨hB.os.trans (s4.os.trans h.step.os), hB.tape.trans (s4.tape.trans h.step.tape), hB.output.trans (s4.output.trans h.step.output), Nat.le_trans h.step.size (Nat.le_trans s4.size hB.size), fun k hk hk' => (hB.block k (by omega)).trans ((s4.block k (Nat.lt_of_lt_of_le hk h.step.size) hk').trans (h.step.block k hk hk'))⟩
  have hfl : w5.heap[c + 1]? = some (.cells #[.bool false] 4 (0, 0)) := (hB.block _ (by omega)).trans ((s4.kept hcl (by omega)).trans h.flag)
  exact ⟨by rw [← h.plain, progT_fn, hrd]; rfl, by rw [List.length_append, List.length_singleton]; omega, s5.put hp (by omega), ((h3.later hA).keep hB.size fun k hk => hB.block k (by omega)).put hp hrb, hp.row, (hp.oth (c + 1) (by omega)).trans hfl,
    by rw [hp.size]; exact hL.frame fun b q1 _ => hp.oth b (by omega), hc, hrb⟩
def PgAt (w : World) (rb : Nat) (tv : Value) (xs : List To.T) (m : Nat) (tot : R Pr) (c : Nat) (gk : Nat) (wr : World) : Prop :=
  ∃ fs ts v, gk = ts.length ∧ PgSt w rb tv xs m tot c fs ts v wr


section
variable {P : Program}
/-- APPEND OF A NODE THAT IS NOTHING YET, AS ONE STEP OF A REGION THAT DRAWS ITS ORDER. -/
theorem step_zero {w : World} {ops : Array Oper} {o : Oper} {a : Act} {K : Act → World → Prop} {Q : Exit → Act → World → Prop} {X : Prop} (hgd : o.guard = none) (s x : Operand)
    (ho : o.op = .call { callee := .builtin .append, args := #[s, x], argTypes := #[23, 23] }) {v : Value} {l : List Nd} {lo hi : Nat} {y : Value}
    (hs : a.eval s = v) (hown : LR w TN lo hi v (Ns.of l)) (hy : a.eval x = y) (hx : Src w 5 y 1 zero5) (h1 : lo ≤ hi) (h2 : hi ≤ w.heap.size) (hn : (l.length + 1) * 96 ≤ 140737488351232)
    (h : ∀ b off cap w', Hole w' TN lo hi l b off cap → (b < hi ∨ w.heap.size ≤ b) → Below lo w w' → (∀ k, hi ≤ k → k < w.heap.size → w'.heap[k]? = w.heap[k]?) → K (a.put o.dst (.slice (some ⟨b, off, none⟩) (l.length + 1) cap)) w') :
    if Region.wanted o (yielded ops a.tmps) = true then Oper.wp Tryz.prog o a w K Q else X := by
  obtain ⟨xs, k, ho', hk, go⟩ := hole_mk hown hn h1 h2
  refine step_append hgd s x ho nodeEl hs ho' hy hx (by unfold zero5; simp [Value.oneCell']) (by simp only [maxLen]; omega) (by omega) fun v' w' k' q1 q2 q3 => ?_
  obtain ⟨b, off, cap, rfl, hH, hb⟩ := go w' v' k' q1 q2 q3
  exact h b off cap w' hH hb (q2.below (by omega) fun b hb => (hk b hb).1) (fun j h1 h2 => q2.block j h2 fun e => by have := (hk j e.symm).2; omega)
end

/-- What the call of a statement does, amid a program's body. -/
def StmRes (W : World) (rb c hi mm : Nat) (tv : Value) (xs : List To.T) (row : Array Value) (l : List Nd) (lv : Value) (ts : List Tx) (bad : World → Prop) (e : Ending) (w3 : World) : Prop :=
  (e = .panicked wrongChain ∧ bad w3) ∨ ∃ x u a1 d1 a2 d2 a3 d3, e = .returned (.agg #[.int .u8 (x.kind : Int), .string (tx x.text), .slice a1 x.l.len d1, .slice a2 x.body.len d2, .slice a3 x.els.len d3]) ∧ stm false ts = .ok x u ∧ Step W w3 (some rb) ∧ Rd w3 rb tv xs u false ∧
    w3.heap[c]? = some (.cells row 25 (0, 0)) ∧ NS w3 TN (fun k => hi ≤ k) (.agg #[.int .u8 (x.kind : Int), .string (tx x.text), .slice a1 x.l.len d1, .slice a2 x.body.len d2, .slice a3 x.els.len d3]) x ∧ LR w3 TN mm hi lv (Ns.of l) ∧ W.heap.size ≤ w3.heap.size
theorem stm_res {W : World} {rb c hi mm : Nat} {tv : Value} {xs : List To.T} {row : Array Value} {l : List Nd} {lv : Value} {ts : List Tx} {bad : World → Prop} (h : Rd W rb tv xs ts false) (hrow : W.heap[c]? = some (.cells row 25 (0, 0))) (hc : c ≠ rb) (hl : LR W TN mm hi lv (Ns.of l)) (hmm : rb < mm) (hhi : hi ≤ W.heap.size)
    (hbad : ∀ u w3, stm false ts = .bad u → Step W w3 (some rb) → Rd w3 rb tv xs u false → bad w3) :
    Calls Tryz.prog 160 #[.pointer (some ⟨rb, 0, none⟩)] W (StmRes W rb c hi mm tv xs row l lv ts bad) := by
  refine (stm_t h).mono ?_
  rintro e w3 ⟨hs3, h3, hres⟩
  cases hrd : stm false ts with
  | bad u => rw [hrd] at hres h3; exact .inl ⟨hres, hbad u w3 hrd hs3 h3⟩
  | ok x u =>
    rw [hrd] at hres h3
    obtain ⟨v, rfl, hN⟩ := hres
    obtain ⟨a1, d1, a2, d2, a3, d3, rfl⟩ := hN.form
    exact .inr ⟨x, u, a1, d1, a2, d2, a3, d3, rfl, hrd, hs3, h3, (hs3.kept (heap_lt hrow) hc).trans hrow, hN.ns (fun k q1 _ => by omega), LR.kept hl hs3 hmm hhi, hs3.size⟩

structure PbSt (w : World) (rb : Nat) (tv : Value) (xs : List To.T) (m : Nat) (tot : R Pr) (c mm : Nat) (fs : List Nd.Fn) (vf : Value) (l : List Nd) (ts : List Tx) (v : Value) (wr : World) : Prop where
  plain : (bodyT ts).map (fun b => (⟨fs, Ns.of (l ++ b)⟩ : Pr)) = tot
  many : l.length + ts.length ≤ m
  step : Step w wr (some rb)
  rd : Rd wr rb tv xs ts false
  row : wr.heap[c]? = some (.cells #[vf, v] 25 (0, 0))
  flag : wr.heap[c + 1]? = some (.cells #[.bool false] 4 (0, 0))
  funcs : FsR wr (c + 2) mm vf fs
  list : LR wr TN mm wr.heap.size v (Ns.of l)
  hc : c = w.heap.size
  hrb : rb < c
  lo : c + 2 ≤ mm
  hi : mm ≤ wr.heap.size
theorem src_row {w : World} {k n size : Nat} {o : Array Value} {t : TypeId} (h : w.heap[k]? = some (.cells o t (0, 0))) (hs : o.size = n * size) : Src w size (.slice (some ⟨k, 0, none⟩) n n) n o.toList :=
  ⟨by simp [hs], .inr ⟨_, _, rfl, fun j u hj => by
    rw [add_none, cell_of_row _ k (0 + j) o t (0, 0) h, ← hj]
    simp⟩⟩
/-- What the append of a node that is nothing yet leaves. -/
def Apd (w3 w5 : World) (c hi mm : Nat) (row : Array Value) (l : List Nd) (b off cp : Nat) : Prop :=
  ∃ W4, Below w3.heap.size w3 W4 ∧ (b < hi ∨ W4.heap.size ≤ b) ∧ Below mm W4 w5 ∧ (∀ k, hi ≤ k → k < W4.heap.size → w5.heap[k]? = W4.heap[k]?) ∧ Hole w5 TN mm hi l b off cp ∧ w5.heap[c]? = some (.cells row 25 (0, 0))
/-- Cells of one block turn. -/
structure Sets (w w' : World) (b : Nat) : Prop where
  os : w'.os = w.os
  tape : w'.tape = w.tape
  output : w'.output = w.output
  size : w'.heap.size = w.heap.size
  oth : ∀ k, k ≠ b → w'.heap[k]? = w.heap[k]?
theorem Sets.one (w : World) (b o : Nat) (u : Value) : Sets w (w.setCell ⟨b, o, none⟩ u) b := ⟨rfl, rfl, rfl, by simp, fun k hk => Below.heap_setCell w ⟨b, o, none⟩ u k (by simpa using hk)⟩
theorem Sets.trans {w w1 w2 : World} {b : Nat} (h : Sets w w1 b) (k : Sets w1 w2 b) : Sets w w2 b := ⟨k.os.trans h.os, k.tape.trans h.tape, k.output.trans h.output, k.size.trans h.size, fun j hj => (k.oth j hj).trans (h.oth j hj)⟩
theorem Sets.five (w : World) (b o0 o1 o2 o3 o4 : Nat) (u0 u1 u2 u3 u4 : Value) : Sets w (((((w.setCell ⟨b, o0, none⟩ u0).setCell ⟨b, o1, none⟩ u1).setCell ⟨b, o2, none⟩ u2).setCell ⟨b, o3, none⟩ u3).setCell ⟨b, o4, none⟩ u4) b :=
  ((((Sets.one w b o0 u0).trans (Sets.one _ b o1 u1)).trans (Sets.one _ b o2 u2)).trans (Sets.one _ b o3 u3)).trans (Sets.one _ b o4 u4)
theorem Apd.fill {w3 w5 : World} {c hi mm : Nat} {row : Array Value} {l : List Nd} {b off cp : Nat} {u0 u1 u2 u3 u4 : Value} {x : Nd} (h : Apd w3 w5 c hi mm row l b off cp) (hN : NS w3 TN (fun k => hi ≤ k) (.agg #[u0, u1, u2, u3, u4]) x) (hmm : mm ≤ hi) :
    LR (((((w5.setCell ⟨b, off + l.length * 5, none⟩ u0).setCell ⟨b, off + l.length * 5 + 1, none⟩ u1).setCell ⟨b, off + l.length * 5 + 2, none⟩ u2).setCell ⟨b, off + l.length * 5 + 3, none⟩ u3).setCell ⟨b, off + l.length * 5 + 4, none⟩ u4) TN mm w5.heap.size (.slice (some ⟨b, off, none⟩) (l.length + 1) cp) (Ns.of (l ++ [x])) := by
  obtain ⟨W4, hA4, hb, hB, hkp, hH, hrow⟩ := h
  have hw4 := hA4.size
  have hN4 : NS W4 TN (fun k => hi ≤ k ∧ k < w3.heap.size) (.agg #[u0, u1, u2, u3, u4]) x := NS.later (NS.mono hN fun k q1 q2 => ⟨q1, q2⟩) hA4
  have hN5 : NS w5 TN (fun k => hi ≤ k ∧ k ≠ b) (.agg #[u0, u1, u2, u3, u4]) x := NS.mono (NS.frame hN4 fun k q1 q2 => hkp k q1.1 q2) fun k q1 _ => ⟨q1.1, by omega⟩
  exact hH.fill hN5 hmm
/-- From w5 to w7: blocks b and c alone have turned. -/
structure Fin5 (w5 w7 : World) (b c : Nat) (row : Array Value) : Prop where
  os : w7.os = w5.os
  tape : w7.tape = w5.tape
  output : w7.output = w5.output
  size : w7.heap.size = w5.heap.size
  oth : ∀ k, k ≠ b → k ≠ c → w7.heap[k]? = w5.heap[k]?
  row : w7.heap[c]? = some (.cells row 25 (0, 0))
theorem fin5_a {w5 w6 w7 : World} {b c : Nat} {row : Array Value} (hs : Sets w5 w6 b) (hp : Put w6 w7 c row 25) : Fin5 w5 w7 b c row :=
  ⟨hp.os.trans hs.os, hp.tape.trans hs.tape, hp.output.trans hs.output, hp.size.trans hs.size, fun k h1 h2 => (hp.oth k h2).trans (hs.oth k h1), hp.row⟩
theorem fin5_b {w5 w6 w7 : World} {b c : Nat} {row : Array Value} (hp : Put w5 w6 c row 25) (hs : Sets w6 w7 b) (hcb : c ≠ b) : Fin5 w5 w7 b c row :=
  ⟨hs.os.trans hp.os, hs.tape.trans hp.tape, hs.output.trans hp.output, hs.size.trans hp.size, fun k h1 h2 => (hs.oth k h1).trans (hp.oth k h2), (hs.oth c hcb).trans hp.row⟩
theorem Apd.fill2 {w3 w5 w6 : World} {c hi mm : Nat} {row row' : Array Value} {l : List Nd} {b off cp : Nat} {u0 u1 u2 u3 u4 : Value} {x : Nd} (h : Apd w3 w5 c hi mm row l b off cp) (hN : NS w3 TN (fun k => hi ≤ k) (.agg #[u0, u1, u2, u3, u4]) x) (hmm : mm ≤ hi) (hc : c < mm) (hp : Put w5 w6 c row' 25) :
    LR (((((w6.setCell ⟨b, off + l.length * 5, none⟩ u0).setCell ⟨b, off + l.length * 5 + 1, none⟩ u1).setCell ⟨b, off + l.length * 5 + 2, none⟩ u2).setCell ⟨b, off + l.length * 5 + 3, none⟩ u3).setCell ⟨b, off + l.length * 5 + 4, none⟩ u4) TN mm w6.heap.size (.slice (some ⟨b, off, none⟩) (l.length + 1) cp) (Ns.of (l ++ [x])) := by
  obtain ⟨W4, hA4, hb, hB, hkp, hH, hrow⟩ := h
  have hw4 := hA4.size
  have hbl := hH.lo
  have hN4 : NS W4 TN (fun k => hi ≤ k ∧ k < w3.heap.size) (.agg #[u0, u1, u2, u3, u4]) x := NS.later (NS.mono hN fun k q1 q2 => ⟨q1, q2⟩) hA4
  have hN5 : NS w5 TN (fun k => hi ≤ k ∧ k ≠ b) (.agg #[u0, u1, u2, u3, u4]) x := NS.mono (NS.frame hN4 fun k q1 q2 => hkp k q1.1 q2) fun k q1 _ => ⟨q1.1, by omega⟩
  exact (hH.frame fun k hk => hp.oth k (by rcases hk with hk | hk <;> omega)).fill (NS.frame hN5 fun k q1 _ => hp.oth k (by omega)) hmm
theorem PbSt.next {w : World} {rb : Nat} {tv : Value} {xs : List To.T} {m : Nat} {tot : R Pr} {c mm : Nat} {fs : List Nd.Fn} {vf lv : Value} {l : List Nd} {s : Tx} {r u : List Tx} {x : Nd} {b off cp : Nat} {wr w2 w3 w5 w7 : World} (h : PbSt w rb tv xs m tot c mm fs vf l (s :: r) lv wr)
    (h2 : Below wr.heap.size wr w2) (s3 : Step w2 w3 (some rb)) (hrd : stm false (s :: r) = .ok x u) (h3 : Rd w3 rb tv xs u false) (hA : Apd w3 w5 c wr.heap.size mm #[vf, lv] l b off cp)
    (main : LR w7 TN mm w7.heap.size (.slice (some ⟨b, off, none⟩) (l.length + 1) cp) (Ns.of (l ++ [x]))) (hf : Fin5 w5 w7 b c #[vf, .slice (some ⟨b, off, none⟩) (l.length + 1) cp]) :
    PbSt w rb tv xs m tot c mm fs vf (l ++ [x]) u (.slice (some ⟨b, off, none⟩) (l.length + 1) cp) w7 := by
  obtain ⟨W4, hA4, hb, hB, hkp, hH, hrow⟩ := hA
  have hq := (stm_down false (s :: r)).lt hrd
  have hm := h.many
  have hc := h.hc
  have hrb := h.hrb
  have hlo := h.lo
  have hhi := h.hi
  have hbl := hH.lo
  rw [List.length_cons] at hm hq
  have hw2 := h2.size
  have hw3 := s3.size
  have hw4 := hA4.size
  have hw5 := hB.size
  have low : ∀ k, k < mm → w7.heap[k]? = if k = c then w7.heap[k]? else W4.heap[k]? := fun k hk => by
    split
    · rfl
    · rename_i hkc; rw [hf.oth k (by omega) hkc, hB.block k hk]
  have low' : ∀ k, k < mm → k ≠ c → w7.heap[k]? = W4.heap[k]? := fun k hk hkc => by have := low k hk; rwa [if_neg hkc] at this
  have z7 := hf.size
  have s4 : Step wr W4 (some rb) := ((Step.of_below h2).trans s3).trans (Step.of_below hA4)
  refine ⟨?_, by rw [List.length_append, List.length_singleton]; omega, ⟨hf.os.trans (hB.os.trans (s4.os.trans h.step.os)), hf.tape.trans (hB.tape.trans (s4.tape.trans h.step.tape)), hf.output.trans (hB.output.trans (s4.output.trans h.step.output)), by have := h.step.size; omega, fun k hk hk' => ?_⟩, ?_, hf.row, ?_, ?_, ?_, hc, hrb, hlo, by omega⟩
  · rw [← h.plain, bodyT_cons, hrd]
    simp only [R.then_]
    rw [R.map_map]
    congr 1
    funext a
    simp
  · rw [low' k (by omega) (by omega)]
    exact (s4.block k (by have := h.step.size; omega) hk').trans (h.step.block k hk hk')
  · exact (h3.later hA4).keep (by omega) fun k hk => low' k (by omega) (by omega)
  · rw [low' (c + 1) (by omega) (by omega)]
    exact (s4.kept (heap_lt h.flag) (by omega)).trans h.flag
  · exact (FsR.kept h.funcs s4 (by omega) hhi).frame fun k q1 q2 => low' k q2 (by omega)
  · exact main
theorem Apd.crow {w3 w5 : World} {c hi mm : Nat} {row : Array Value} {l : List Nd} {b off cp : Nat} (h : Apd w3 w5 c hi mm row l b off cp) : w5.heap[c]? = some (.cells row 25 (0, 0)) := by
  obtain ⟨W4, hA4, hb, hB, hkp, hH, hrow⟩ := h
  exact hrow
theorem Apd.row {w3 w5 : World} {c hi mm : Nat} {row : Array Value} {l : List Nd} {b off cp : Nat} {u0 u1 u2 u3 u4 : Value} (h : Apd w3 w5 c hi mm row l b off cp) (hcb : ¬ c = b) :
    (((((w5.setCell ⟨b, off + l.length * 5, none⟩ u0).setCell ⟨b, off + l.length * 5 + 1, none⟩ u1).setCell ⟨b, off + l.length * 5 + 2, none⟩ u2).setCell ⟨b, off + l.length * 5 + 3, none⟩ u3).setCell ⟨b, off + l.length * 5 + 4, none⟩ u4).heap[c]? = some (.cells row 25 (0, 0)) := by
  obtain ⟨W4, hA4, hb, hB, hkp, hH, hrow⟩ := h
  have s : ∀ (w : World) (o : Nat) (u : Value), (w.setCell ⟨b, o, none⟩ u).heap[c]? = w.heap[c]? := fun w o u => Below.heap_setCell w ⟨b, o, none⟩ u c (by simpa using hcb)
  rw [s, s, s, s, s]; exact hrow
def PbAt (w : World) (rb : Nat) (tv : Value) (xs : List To.T) (m : Nat) (tot : R Pr) (c mm : Nat) (fs : List Nd.Fn) (vf : Value) (gk : Nat) (wr : World) : Prop :=
  ∃ l ts v, gk = ts.length ∧ PbSt w rb tv xs m tot c mm fs vf l ts v wr
theorem wp_mono_post {P : Program} {c : Code} {Q Q' : Exit → Act → World → Prop} {a : Act} {w : World} (hq : ∀ e a w, Q e a w → Q' e a w) (h : c.wp P Q a w) : c.wp P Q' a w := wp_mono h hq
/-- Behind the region: the relation, and the frame but for its scratch. -/
def R5Post (J : World → Prop) (A : Value → Value → Value → Value → Value → Value → Value → Value → Value → Act) : Exit → Act → World → Prop
  | .normal, a, w => J w ∧ ∃ y1 y2 y3 y4 y5 y6 y7 y8 y9, a = A y1 y2 y3 y4 y5 y6 y7 y8 y9
  | _, _, _ => False
def PbLess (w : World) (rb : Nat) (tv : Value) (xs : List To.T) (m : Nat) (tot : R Pr) (c mm : Nat) (fs : List Nd.Fn) (vf : Value) (n : Nat) (wr : World) : Prop :=
  ∃ gk, gk < n ∧ PbAt w rb tv xs m tot c mm fs vf gk wr
end Go.Proofs.YtmkhfonafcikdaaGreatDoor

/- Trees: the reader: a program. -/
namespace Go.Proofs.YtmkhfonafcikdaaGreatDoor
open Go.RowKit Go.My Go.Nd

set_option maxRecDepth 100000 in
set_option maxHeartbeats 40000000 in
theorem program_t {rb : Nat} {tv : Value} {xs : List To.T} {w : World} {ts : List Tx} (h : Rd w rb tv xs ts false) :
    Calls Tryz.prog 138 #[.pointer (some ⟨rb, 0, none⟩)] w (GotP w rb tv xs (progT [] ts)) := by
  have hmf : ∀ (fn : Fn) (first cap : Array Value) (w : World), (Instr.makeFunc fn first cap).run Tryz.prog w = .ok (.func fn first cap) w := fun _ _ _ _ => rfl
  obtain ⟨a1, n1, z1⟩ := Put.new w #[.slice none 0 0, .slice none 0 0] 25
  obtain ⟨c, hc⟩ : ∃ c, c = w.heap.size := ⟨_, rfl⟩
  obtain ⟨wA, hwA⟩ : ∃ wA, wA = (w.alloc (.cells #[.slice none 0 0, .slice none 0 0] 25)).alloc (.cells #[.bool false] 4) := ⟨_, rfl⟩
  have hst : PgSt w rb tv xs ts.length (progT [] ts) c [] ts (.slice none 0 0) wA := by
    generalize w.alloc (.cells #[.slice none 0 0, .slice none 0 0] 25) = w1 at *
    obtain ⟨a2, n2, z2⟩ := Put.new w1 #[.bool false] 4
    rw [← hwA] at a2 n2 z2
    have hrb := h.lt
    refine ⟨rfl, by simp, (Step.of_below (a1.trans (a2.mono a1.size))), (h.later a1).later a2, ?_, ?_, FsR.nil _ _ _, hc, by omega⟩
    · rw [hc]; exact (a2.block _ (by omega)).trans n1
    · rw [hc, ← z1]; exact n2
  have hlen := h.len
  have hle := h.le
  have HL := Lib.hid (show ts.length ≤ 65536 by omega)
  have HS := Lib.hid hst
  clear hst h a1 n1 z1 hlen hle
  go_enter_defers Tryz.func138, Tryz.ntmps138
  go_upto_region 2 with fail
  rw [← hwA, ← hc]
  clear hwA hc
  go_loopg [5] ts.length (fun gk v5 wr => PgAt w rb tv xs ts.length (progT [] ts) c gk wr)
  case atStart => exact ⟨[], ts, _, rfl, HS.out⟩
  case round =>
    obtain ⟨fs, ts1, v, rfl, hst⟩ := hrel
    obtain ⟨lo1, lc1, rfl⟩ := hst.list.form
    have HT := Lib.hid hst
    clear hst HS
    go_wp2_with fail
    by_cases hh : ts1.head? = some [102, 110]
    · obtain ⟨r, rfl⟩ := head_form hh
      refine takes_yes HT.out.rd (by decide) fun w2 hs2 h2 => ?_
      have hcc := HT.out.hrb
      have row2 := (hs2.kept (heap_lt HT.out.row) (by omega)).trans HT.out.row
      have X2 := Lib.hid (And.intro hs2 (And.intro h2 (And.intro row2 (And.intro ((hs2.kept (heap_lt HT.out.flag) (by omega)).trans HT.out.flag) (HT.out.list.kept hs2 (by omega) (Nat.le_refl _))))))
      have c0 := cell_of_row w2 c 0 _ _ _ row2
      have f0 := frozen_of_row w2 c 0 _ _ row2
      simp at c0
      clear hs2 h2 hh row2 hcc
      have HM := Lib.hid (show (fs.length + 1) * 64 ≤ 140737488351232 by have := HT.out.many; have := HL.out; rw [List.length_cons] at *; omega)
      go_upto_region 3 with fail
      have HBAD := Lib.hid (fun (q : List Tx) (w3 : World) (inn : Bool) (hrd : func r = .bad q) (hs3 : Step w2.drew w3 (some rb)) (h3 : Rd w3 rb tv xs q inn) => (show w3.heap[c]? = some (.cells #[.slice lo1 fs.length lc1, .slice none 0 0] 25 (0, 0)) ∧ w3.heap[c + 1]? = some (.cells #[.bool false] 4 (0, 0)) ∧ ∀ w4 w5, Put w3 w4 c #[.slice none 0 0, .slice none 0 0] 25 → Put w4 w5 (c + 1) #[.bool false] 4 → GotP w rb tv xs (progT [] ts) (.returned (.tuple #[.agg #[.slice none 0 0, .slice none 0 0], .bool false])) w5 from by
        have hcc := HT.out.hrb
        have hcw := HT.out.hc
        refine ⟨(hs3.kept (heap_lt X2.out.2.2.1) (by omega)).trans X2.out.2.2.1, (hs3.kept (heap_lt X2.out.2.2.2.1) (by omega)).trans X2.out.2.2.2.1, fun w4 w5 p1 p2 => ?_⟩
        rw [← HT.out.plain, progT_fn, hrd]
        exact ⟨(((HT.out.step.trans X2.out.1).trans ((Step.of_below (Below.refl _ w2).drew).trans hs3)).put p1 (by omega)).put p2 (by omega), ⟨inn, (h3.put p1 (by omega)).put p2 (by omega)⟩, rfl⟩))
      have HAFT := Lib.hid (fun (w3 : World) (hs3 : Step w2.drew w3 (some rb)) => (show w3.heap[c]? = some (.cells #[.slice lo1 fs.length lc1, .slice none 0 0] 25 (0, 0)) from (hs3.kept (heap_lt X2.out.2.2.1) (by have := HT.out.hrb; omega)).trans X2.out.2.2.1))
      first
      | (go_region_law (first
        | (go_simp; go_at_call 159; refine (func_t (X2.out.2.1.later (Below.refl _ w2).drew)).mono ?_; rintro e w3 ⟨hs3, hres⟩; cases hrd : func r; rotate_left 1; (rename_i q; rw [hrd] at hres; obtain ⟨⟨inn, h3⟩, rfl⟩ := hres; obtain ⟨k1, k2, k3⟩ := HBAD.out q w3 inn hrd hs3 h3; exact leave_bad rfl rfl k1 k2 (by omega) k3); rename_i f q; rw [hrd] at hres; obtain ⟨h3, v, rfl, hF⟩ := hres; obtain ⟨o1, e1, o2, e2, rfl⟩ := hF.form; have hrow3 := HAFT.out w3 hs3; have d0 := cell_of_row w3 c 0 _ _ _ hrow3; have g0 := frozen_of_row w3 c 0 _ _ hrow3; simp at d0; have hA := Put.new w3 #[.string (bs f.name), .slice o1 f.args.length e1, .slice o2 f.body.len e2] TFn; have d0' := cell_of_row _ c 0 _ _ _ ((hA.1.block c (heap_lt hrow3)).trans hrow3); have d0'' : ¬ c = w3.heap.size := Nat.ne_of_lt (heap_lt hrow3); simp only [List.getElem?_toArray, List.getElem?_cons_zero] at d0'; have X3 := Lib.hid (show Step w2.drew w3 (some rb) ∧ func r = .ok f q ∧ Rd w3 rb tv xs q false ∧ w3.heap[c]? = some (.cells #[.slice lo1 fs.length lc1, .slice none 0 0] 25 (0, 0)) ∧ FsR (w3.alloc (.cells #[.string (bs f.name), .slice o1 f.args.length e1, .slice o2 f.body.len e2] TFn)) (c + 2) wr.heap.size (.slice lo1 fs.length lc1) fs ∧ FR (w3.alloc (.cells #[.string (bs f.name), .slice o1 f.args.length e1, .slice o2 f.body.len e2] TFn)) wr.heap.size w3.heap.size (.agg #[.string (bs f.name), .slice o1 f.args.length e1, .slice o2 f.body.len e2]) f ∧ c + 2 ≤ wr.heap.size ∧ wr.heap.size ≤ w3.heap.size ∧ w3.heap.size ≤ (w3.alloc (.cells #[.string (bs f.name), .slice o1 f.args.length e1, .slice o2 f.body.len e2] TFn)).heap.size ∧ (w3.alloc (.cells #[.string (bs f.name), .slice o1 f.args.length e1, .slice o2 f.body.len e2] TFn)).heap[c]? = some (.cells #[.slice lo1 fs.length lc1, .slice none 0 0] 25 (0, 0)) from ⟨hs3, hrd, h3, hrow3, (FsR.later (X2.out.2.2.2.2.later (Below.refl _ w2).drew (by have := X2.out.1.size; exact this) |>.kept hs3 (by have := HT.out.hrb; omega) (by have := X2.out.1.size; exact this)) hA.1 (by have := X2.out.1.size; have := hs3.size; exact Nat.le_trans X2.out.1.size hs3.size)), ((hF.mono (show wr.heap.size ≤ w2.drew.heap.size from X2.out.1.size) (Nat.le_refl _)).later hA.1 (Nat.le_refl _)), (show c + 2 ≤ wr.heap.size by have := heap_lt HT.out.flag; omega), Nat.le_trans X2.out.1.size hs3.size, hA.1.size, (hA.1.block c (heap_lt hrow3)).trans hrow3⟩); clear hs3 h3 hF hrd hrow3 hA)
        | (refine step_func rfl (.tmp 8) (.tmp 11) rfl (v := .slice lo1 fs.length lc1) (fs := fs) (lo := c + 2) (hi := wr.heap.size) (hi2 := w3.heap.size) rfl X3.out.2.2.2.2.1 X3.out.2.2.2.2.2.1 (y := .slice (some ⟨w3.heap.size, 0, none⟩) 1 1) rfl (Src.lit #[.string (bs f.name), .slice o1 f.args.length e1, .slice o2 f.body.len e2] 57 rfl rfl) X3.out.2.2.2.2.2.2.1 X3.out.2.2.2.2.2.2.2.1 X3.out.2.2.2.2.2.2.2.2.1 HM.out ?_; intro ao cp w5 hL hB; have hrow5 := (hB.block c (Nat.lt_add_of_pos_right (by decide))).trans X3.out.2.2.2.2.2.2.2.2.2; have m0 := cell_of_row w5 c 0 _ _ _ hrow5; have n0 := frozen_of_row w5 c 0 _ _ hrow5; simp at m0; have X5 := Lib.hid (And.intro hL (And.intro hB hrow5)); clear hL hB hrow5)))
      | fail
      all_goals
        have hp : Put w5 (w5.setCell ⟨c, 0, none⟩ (.slice ao (fs.length + 1) cp)) c #[.slice ao (fs.length + 1) cp, .slice none 0 0] 25 := Put.one X5.out.2.2 0 _
        have HP := Lib.hid (HT.out.next X2.out.1 X3.out.1 X3.out.2.1 X3.out.2.2.1 (Put.new w3 _ TFn).1 X5.out.2.1 X5.out.1 hp)
        clear hp
        go_wp2_with fail
        go_roundg q.length
        case measure => have := (func_down r).lt X3.out.2.1; rw [List.length_cons]; omega
        case rel => exact ⟨fs ++ [f], q, _, rfl, HP.out⟩
    · refine takes_no HT.out.rd [102, 110] (by decide) hh fun w2 hb2 => ?_
      have hPb : PbSt w rb tv xs ts.length (progT [] ts) c w2.heap.size fs (.slice lo1 fs.length lc1) [] ts1 (.slice none 0 0) w2 := by
        have hcc := HT.out.hrb
        refine ⟨?_, by have := HT.out.many; simp; omega, HT.out.step.trans (Step.of_below hb2), HT.out.rd.later hb2, (hb2.block _ (heap_lt HT.out.row)).trans HT.out.row, (hb2.block _ (heap_lt HT.out.flag)).trans HT.out.flag, (HT.out.list.later hb2 (Nat.le_refl _)).mono (Nat.le_refl _) hb2.size, LR.nil _ _ _ _, HT.out.hc, hcc, by have := heap_lt HT.out.flag; have := hb2.size; omega, Nat.le_refl _⟩
        rw [← HT.out.plain, progT_body fs ts1 hh]; rfl
      have HB := Lib.hid hPb
      obtain ⟨mm, hmm⟩ : ∃ mm, mm = w2.heap.size := ⟨_, rfl⟩
      rw [← hmm] at HB
      clear hh hb2 hPb hmm
      go_wp2_with fail
      go_loopg [14] ts1.length (fun gk v14 wr => PbAt w rb tv xs ts.length (progT [] ts) c mm fs (.slice lo1 fs.length lc1) gk wr)
      case atStart => exact ⟨[], ts1, _, rfl, HB.out⟩
      case round =>
        obtain ⟨l, ts2, v, rfl, hst⟩ := hrel
        obtain ⟨lo2, lc2, rfl⟩ := hst.list.form
        rw [Ns.len_of] at hst
        have HU := Lib.hid hst
        have hle := hst.rd.le
        have hlen := hst.rd.len
        have r5 := hst.row
        obtain ⟨ao, cap, hv, _, _, _⟩ := hst.rd.toks
        obtain ⟨c0, c1, _⟩ := hst.rd.cell
        rw [hv] at c0
        obtain ⟨q, hq⟩ : ∃ q, q = xs.length - ts2.length := ⟨_, rfl⟩
        rw [← hq] at c1
        have HQ := Lib.hid hq
        cases hts : ts2 with
        | nil =>
          have hq2 : (xs.length : Int) ≤ (q : Int) := by rw [hts] at hq; simp at hq; omega
          have hdn : decide (q < xs.length) = false := by simp; omega
          have x0 := cell_of_row wr c 0 _ _ _ r5
          have x1 := cell_of_row wr c 1 _ _ _ r5
          have g0 := frozen_of_row wr c 0 _ _ r5
          have g1 := frozen_of_row wr c 1 _ _ r5
          have y0 := cell_of_row wr (c + 1) 0 _ _ _ hst.flag
          have h0 := frozen_of_row wr (c + 1) 0 _ _ hst.flag
          simp at x0 x1 y0
          clear hst HB HT hq hv hle hlen
          go_upto_region 4 with fail
          go_quiet (fail)
          go_wp2_with fail
          have hcc := HU.out.hrb
          have hcw := HU.out.hc
          have p1 := put2 (w := wr.drewN nq) (by rw [heap_drewN']; exact HU.out.row) (.slice lo1 fs.length lc1) (.slice lo2 l.length lc2)
          have p2 : Put _ _ (c + 1) #[.bool true] 4 := Put.one ((p1.oth (c + 1) (by omega)).trans (by rw [heap_drewN']; exact HU.out.flag)) 0 (.bool true)
          refine leave_ok rfl rfl ((p2.oth c (by omega)).trans p1.row) p2.row ?_
          have hd := below_drewN' wr nq
          have hpl := HU.out.plain
          rw [hts, bodyT_nil] at hpl
          rw [← hpl]
          show GotP w rb tv xs (.ok ⟨fs, Ns.of (l ++ [])⟩ []) _ _
          rw [List.append_nil]
          have z1 := p1.size
          have z2 := p2.size
          have hl1 := HU.out.lo
          have hl2 := HU.out.hi
          refine ⟨((HU.out.step.trans (Step.of_below hd)).put p1 (by omega)).put p2 (by omega), ⟨false, (((hts ▸ HU.out.rd).later hd).put p1 hcc).put p2 (by omega)⟩, _, rfl, mm, _, _, rfl, by omega, ?_, ?_, ?_⟩
          · have := hd.size; omega
          · exact ((HU.out.funcs.later hd hl2).frame fun b q1 _ => (p2.oth b (by omega)).trans (p1.oth b (by omega))).mono (by omega) (Nat.le_refl _)
          · exact LR.mono (LR.frame (HU.out.list.later hd (Nat.le_refl _)) fun b q1 _ => (p2.oth b (by omega)).trans (p1.oth b (by omega))) (Nat.le_refl _) (by have := hd.size; omega)
        | cons s r =>
          have hdn : decide (q < xs.length) = true := by rw [hts] at hq hle; simp at hq hle ⊢; omega
          have HTS := Lib.hid hts
          have x1 := cell_of_row wr c 1 _ _ _ r5
          have g1 := frozen_of_row wr c 1 _ _ r5
          simp at x1
          have hm : (l.length + 1) * 96 ≤ 140737488351232 := by have hm1 := hst.many; have := HL.out; rw [hts, List.length_cons] at hm1; omega
          have HM := Lib.hid hm
          clear hst HB HT hq hv hle hlen hts hm r5
          go_upto_region 4 with fail
          go_quiet (fail)
          clear c0 c1 x1 g1
          obtain ⟨w2, hw2⟩ : ∃ w2, w2 = wr.drewN nq := ⟨_, rfl⟩
          have hd := below_drewN' wr nq
          rw [← hw2] at hd
          have X2 := Lib.hid (And.intro hd (And.intro (HU.out.rd.later hd) (And.intro ((hd.block _ (heap_lt HU.out.row)).trans HU.out.row) (And.intro ((hd.block _ (heap_lt HU.out.flag)).trans HU.out.flag) (HU.out.list.later hd (Nat.le_refl _))))))
          have c1 := cell_of_row w2 c 1 _ _ _ X2.out.2.2.1
          have f1 := frozen_of_row w2 c 1 _ _ X2.out.2.2.1
          simp at c1
          clear hd
          go_upto_region 5 with fail
          rw [← hw2]
          clear hw2
          have e1 : (l.length : Int) < (l.length : Int) + 1 := by omega
          have hz0 : c + 2 ≤ mm := HU.out.lo
          have hz1 : rb < c := HU.out.hrb
          cases hok : stm false ts2 with
          | bad u0 =>
            have HOK := Lib.hid hok
            clear hok
            obtain ⟨bad, hbd⟩ : ∃ bad : World → Prop, bad = fun w3 => w3.heap[c]? = some (.cells #[.slice lo1 fs.length lc1, .slice lo2 l.length lc2] 25 (0, 0)) ∧ w3.heap[c + 1]? = some (.cells #[.bool false] 4 (0, 0)) ∧ ∀ w4 w5, Put w3 w4 c #[.slice none 0 0, .slice none 0 0] 25 → Put w4 w5 (c + 1) #[.bool false] 4 → GotP w rb tv xs (progT [] ts) (.returned (.tuple #[.agg #[.slice none 0 0, .slice none 0 0], .bool false])) w5 := ⟨_, rfl⟩
            have HCALL := Lib.hid (fun (W : World) (hb : Below w2.heap.size w2 W) => (show Calls Tryz.prog 160 #[.pointer (some ⟨rb, 0, none⟩)] W (StmRes W rb c wr.heap.size mm tv xs #[.slice lo1 fs.length lc1, .slice lo2 l.length lc2] l (.slice lo2 l.length lc2) ts2 bad) from
              stm_res (X2.out.2.1.later hb) ((hb.block _ (heap_lt X2.out.2.2.1)).trans X2.out.2.2.1) (by omega) (LR.later X2.out.2.2.2.2 hb X2.out.1.size) (by omega) (Nat.le_trans X2.out.1.size hb.size) (fun u w3 hrd hs3 h3 => by
                have hcw := HU.out.hc
                have s3 : Step w2 w3 (some rb) := (Step.of_below hb).trans hs3
                rw [hbd]
                refine ⟨(s3.kept (heap_lt X2.out.2.2.1) (by omega)).trans X2.out.2.2.1, (s3.kept (heap_lt X2.out.2.2.2.1) (by omega)).trans X2.out.2.2.2.1, fun w4 w5 p1 p2 => ?_⟩
                rw [← HU.out.plain, show bodyT ts2 = .bad u by rw [HTS.out, bodyT_cons, ← HTS.out, hrd]; rfl]
                exact ⟨(((HU.out.step.trans (Step.of_below X2.out.1)).trans s3).put p1 (by omega)).put p2 (by omega), ⟨false, (h3.put p1 hz1).put p2 (by omega)⟩, rfl⟩)))
            have HBD := Lib.hid hbd
            clear hbd
            have d1a := cell_of_row (w2.alloc (.cells zero5.toArray TN)) c 1 _ _ _ (((Put.new w2 zero5.toArray TN).1.block _ (heap_lt X2.out.2.2.1)).trans X2.out.2.2.1)
            unfold zero5 at d1a
            simp only [List.getElem?_toArray, List.getElem?_cons_succ, List.getElem?_cons_zero] at d1a
            have hnc : ¬ c = w2.heap.size := Nat.ne_of_lt (heap_lt X2.out.2.2.1)
            have HLEAF := Lib.hid (fun (W : World) (hb : Below w2.heap.size w2 W) (R : Ending → World → Prop) (hR : ∀ w3, bad w3 → R (.panicked wrongChain) w3) => (show Calls Tryz.prog 160 #[.pointer (some ⟨rb, 0, none⟩)] W R from
              (HCALL.out W hb).mono fun e w3 h => by
                rcases h with ⟨rfl, hbd⟩ | ⟨x, u, a1, d1, a2, d2, a3, d3, rfl, hX⟩
                · exact hR w3 hbd
                · exact absurd (HOK.out.symm.trans hX.1) (fun e => by cases e)))
            have hb1 := Lib.hid ((Below.refl w2.heap.size w2).drew)
            have hb2 := Lib.hid (Put.new w2 zero5.toArray TN).1.drew
            have hne1 : c ≠ c + 1 := by omega
            have HNE := Lib.hid hne1
            clear hne1
            have HLEAF := Lib.hid (fun (W : World) (hb : Below w2.heap.size w2 W) (R : Ending → World → Prop) (hR : ∀ w3, bad w3 → R (.panicked wrongChain) w3) => (show Calls Tryz.prog 160 #[.pointer (some ⟨rb, 0, none⟩)] W R from
              (HCALL.out W hb).mono fun e w3 h => by
                rcases h with ⟨rfl, hbd⟩ | ⟨x, u, a1, d1, a2, d2, a3, d3, rfl, hX⟩
                · exact hR w3 hbd
                · exact absurd (HOK.out.symm.trans hX.1) (fun e => by cases e)))
            have hb1 := Lib.hid ((Below.refl w2.heap.size w2).drew)
            have hb2 := Lib.hid (Put.new w2 zero5.toArray TN).1.drew
            have hne1 : c ≠ c + 1 := by omega
            have HNE := Lib.hid hne1
            clear hne1
            go_light
            first
            | go_region_dies
            | fail
            all_goals exact HLEAF.out _ (by first | exact hb1.out | exact hb2.out) _ (fun w3 hbd => by rw [HBD.out] at hbd; exact leave_bad rfl rfl hbd.1 hbd.2.1 HNE.out hbd.2.2)
          | ok x0 u0 =>
            have HOK := Lib.hid hok
            clear hok
            have HCALL := Lib.hid (fun (W : World) (hb : Below w2.heap.size w2 W) => (show Calls Tryz.prog 160 #[.pointer (some ⟨rb, 0, none⟩)] W (StmRes W rb c wr.heap.size mm tv xs #[.slice lo1 fs.length lc1, .slice lo2 l.length lc2] l (.slice lo2 l.length lc2) ts2 (fun _ => False)) from
              stm_res (X2.out.2.1.later hb) ((hb.block _ (heap_lt X2.out.2.2.1)).trans X2.out.2.2.1) (by omega) (LR.later X2.out.2.2.2.2 hb X2.out.1.size) (by omega) (Nat.le_trans X2.out.1.size hb.size) (fun u w3 hrd hs3 h3 => by rw [HOK.out] at hrd; cases hrd)))
            have d1a := cell_of_row (w2.alloc (.cells zero5.toArray TN)) c 1 _ _ _ (((Put.new w2 zero5.toArray TN).1.block _ (heap_lt X2.out.2.2.1)).trans X2.out.2.2.1)
            unfold zero5 at d1a
            simp only [List.getElem?_toArray, List.getElem?_cons_succ, List.getElem?_cons_zero] at d1a
            have hnc : ¬ c = w2.heap.size := Nat.ne_of_lt (heap_lt X2.out.2.2.1)
            have HU2 := Lib.hid (show PbSt w rb tv xs ts.length (progT [] ts) c mm fs (.slice lo1 fs.length lc1) l (s :: r) (.slice lo2 l.length lc2) wr from by rw [← HTS.out]; exact HU.out)
            have HTS2 := Lib.hid (show stm false (s :: r) = stm false ts2 from by rw [HTS.out])
            obtain ⟨J, hJ⟩ : ∃ J : World → Prop, J = PbLess w rb tv xs ts.length (progT [] ts) c mm fs (.slice lo1 fs.length lc1) ts2.length := ⟨_, rfl⟩
            obtain ⟨A, hA⟩ : ∃ A : Value → Value → Value → Value → Value → Value → Value → Value → Value → Act, A = fun y24 y25 y26 y27 y28 y29 y30 y31 y32 => { tmps := #[.pointer (some ⟨rb, 0, none⟩), undef, .pointer (some ⟨c, 0, none⟩), .pointer (some ⟨c + 1, 0, none⟩), .func (.func 157) #[] #[.pointer (some ⟨c, 0, none⟩), .pointer (some ⟨c + 1, 0, none⟩)], .pointer (some ⟨rb, 0, none⟩), .bool false, u7, u8, u9, u10, u11, u12, u13, .pointer (some ⟨rb, 0, none⟩), .pointer (some ⟨rb, 0, none⟩), .pointer (some ⟨rb, 1, none⟩), .int .i64 (q : Int), .pointer (some ⟨rb, 0, none⟩), .pointer (some ⟨rb, 0, none⟩), .pointer (some ⟨rb, 0, none⟩), .slice ao xs.length cap, .int .i64 (xs.length : Int), .bool true, y24, y25, y26, y27, y28, y29, y30, y31, y32, undef], defers := [{ target := .fn (.func 157) #[.pointer (some ⟨c, 0, none⟩), .pointer (some ⟨c + 1, 0, none⟩)], args := #[] }] } := ⟨_, rfl⟩
            have HJ := Lib.hid hJ
            have HA := Lib.hid hA
            clear hJ hA
            refine wp_mono_post (Q := R5Post J A) ?_ ?_
            · intro e a' w' hq
              cases e with
              | normal =>
                obtain ⟨hat, y24, y25, y26, y27, y28, y29, y30, y31, y32, rfl⟩ := hq
                rw [HJ.out] at hat
                obtain ⟨gk, hlt, hat⟩ := hat
                rw [HA.out]
                dsimp only
                have HAT := Lib.hid (And.intro hlt hat)
                clear hlt hat
                go_wp2_with fail
                go_roundg gk
                case measure => exact HAT.out.1
                case rel => exact HAT.out.2
              | _ => exact hq.elim
            go_light
            go_region_law (first
              | (go_simp; go_at_call 160; refine (HCALL.out _ ((Below.refl _ w2).drew)).mono ?_; rintro e w3 (⟨rfl, hbd⟩ | ⟨x, u, a1, d1, a2, d2, a3, d3, rfl, hX⟩); exact hbd.elim; have X3 := Lib.hid (And.intro hX ((Step.of_below ((Below.refl _ w2).drew)).trans hX.2.1)); clear hX; have m1 := cell_of_row w3 c 1 _ _ _ X3.out.1.2.2.2.1; have m1' := cell_of_row _ c 1 _ _ _ (((Put.new w3 zero5.toArray TN).1.block c (heap_lt X3.out.1.2.2.2.1)).trans X3.out.1.2.2.2.1); unfold zero5 at m1'; simp only [List.getElem?_toArray, List.getElem?_cons_succ, List.getElem?_cons_zero] at m1 m1'; have hnc3 : ¬ c = w3.heap.size := Nat.ne_of_lt (heap_lt X3.out.1.2.2.2.1))
              | (go_simp; go_at_call 160; refine (HCALL.out _ (Put.new w2 zero5.toArray TN).1.drew).mono ?_; rintro e w3 (⟨rfl, hbd⟩ | ⟨x, u, a1, d1, a2, d2, a3, d3, rfl, hX⟩); exact hbd.elim; have X3 := Lib.hid (And.intro hX ((Step.of_below (row := some rb) (Put.new w2 zero5.toArray TN).1.drew).trans hX.2.1)); have XZ := Lib.hid (src_row (size := 5) (n := 1) ((hX.2.1.kept (Nat.lt_of_lt_of_eq (Nat.lt_succ_self w2.heap.size) (Put.new w2 zero5.toArray TN).2.2.symm) (Nat.ne_of_gt X2.out.2.1.lt)).trans (Put.new w2 zero5.toArray TN).2.1) rfl); clear hX; have m1 := cell_of_row w3 c 1 _ _ _ X3.out.1.2.2.2.1; have m1' := cell_of_row _ c 1 _ _ _ (((Put.new w3 zero5.toArray TN).1.block c (heap_lt X3.out.1.2.2.2.1)).trans X3.out.1.2.2.2.1); unfold zero5 at m1'; simp only [List.getElem?_toArray, List.getElem?_cons_succ, List.getElem?_cons_zero] at m1 m1'; have hnc3 : ¬ c = w3.heap.size := Nat.ne_of_lt (heap_lt X3.out.1.2.2.2.1))
              | (refine step_zero rfl (.tmp 25) (.tmp 29) rfl (v := .slice lo2 l.length lc2) (l := l) (lo := mm) (hi := wr.heap.size) rfl (LR.later X3.out.1.2.2.2.2.2.1 (Put.new w3 zero5.toArray TN).1 (Nat.le_trans X2.out.1.size X3.out.2.size)) (y := .slice (some ⟨w3.heap.size, 0, none⟩) 1 1) rfl (Src.lit zero5.toArray TN rfl rfl) HU.out.hi (Nat.le_trans (Nat.le_trans X2.out.1.size X3.out.2.size) (Put.new w3 zero5.toArray TN).1.size) HM.out ?_; intro b off cp w5 hH hbb hB hkp; obtain ⟨⟨p0, p1, p2, p3, p4⟩, q0, q1, q2, q3, q4⟩ := hH.five; have hrow5 := (hB.block c (by omega)).trans (((Put.new w3 zero5.toArray TN).1.block c (heap_lt X3.out.1.2.2.2.1)).trans X3.out.1.2.2.2.1); have n1 := cell_of_row w5 c 1 _ _ _ hrow5; have n1f := frozen_of_row w5 c 1 _ _ hrow5; simp only [List.getElem?_toArray, List.getElem?_cons_succ, List.getElem?_cons_zero] at n1; have hcb : ¬ c = b := (by have := hH.lo.1; omega); have hcb' : ¬ b = c := (by have := hH.lo.1; omega); have X5 := Lib.hid (show Apd w3 w5 c wr.heap.size mm #[.slice lo1 fs.length lc1, .slice lo2 l.length lc2] l b off cp from ⟨_, (Put.new w3 zero5.toArray TN).1, hbb, hB, hkp, hH, hrow5⟩); clear hH hbb hB hkp hrow5)
              | (refine step_zero rfl (.tmp 25) (.tmp 29) rfl (v := .slice lo2 l.length lc2) (l := l) (lo := mm) (hi := wr.heap.size) rfl X3.out.1.2.2.2.2.2.1 (y := .slice (some ⟨w2.heap.size, 0, none⟩) 1 1) rfl XZ.out HU.out.hi (Nat.le_trans X2.out.1.size X3.out.2.size) HM.out ?_; intro b off cp w5 hH hbb hB hkp; obtain ⟨⟨p0, p1, p2, p3, p4⟩, q0, q1, q2, q3, q4⟩ := hH.five; have hrow5 := (hB.block c (by omega)).trans X3.out.1.2.2.2.1; have n1 := cell_of_row w5 c 1 _ _ _ hrow5; have n1f := frozen_of_row w5 c 1 _ _ hrow5; simp only [List.getElem?_toArray, List.getElem?_cons_succ, List.getElem?_cons_zero] at n1; have hcb : ¬ c = b := (by have := hH.lo.1; omega); have hcb' : ¬ b = c := (by have := hH.lo.1; omega); have X5 := Lib.hid (show Apd w3 w5 c wr.heap.size mm #[.slice lo1 fs.length lc1, .slice lo2 l.length lc2] l b off cp from ⟨w3, Below.refl _ _, hbb, hB, hkp, hH, hrow5⟩); clear hH hbb hB hkp hrow5))
            all_goals
              have HEND := Lib.hid (fun (w7 : World) (main : LR w7 TN mm w7.heap.size (.slice (some ⟨b, off, none⟩) (l.length + 1) cp) (Ns.of (l ++ [x]))) (hf : Fin5 w5 w7 b c #[.slice lo1 fs.length lc1, .slice (some ⟨b, off, none⟩) (l.length + 1) cp]) => (show J w7 from by
                rw [HJ.out]
                exact ⟨u.length, (stm_down false ts2).lt X3.out.1.1, l ++ [x], u, _, rfl, PbSt.next HU2.out X2.out.1 X3.out.2 (HTS2.out.trans X3.out.1.1) X3.out.1.2.2.1 X5.out main hf⟩))
              refine ⟨?_, ?_⟩
              rotate_left 1
              · rw [HA.out]
                exact ⟨_, _, _, _, _, _, _, _, _, rfl⟩
              · first
                | (have hsf := Sets.five w5 b (off + l.length * 5) (off + l.length * 5 + 1) (off + l.length * 5 + 2) (off + l.length * 5 + 3) (off + l.length * 5 + 4) (.int .u8 (x.kind : Int)) (.string (tx x.text)) (.slice a1 x.l.len d1) (.slice a2 x.body.len d2) (.slice a3 x.els.len d3)
                   have hfl := X5.out.fill X3.out.1.2.2.2.2.1 HU.out.hi
                   have hpc : (((((w5.setCell ⟨b, off + l.length * 5, none⟩ (.int .u8 (x.kind : Int))).setCell ⟨b, off + l.length * 5 + 1, none⟩ (.string (tx x.text))).setCell ⟨b, off + l.length * 5 + 2, none⟩ (.slice a1 x.l.len d1)).setCell ⟨b, off + l.length * 5 + 3, none⟩ (.slice a2 x.body.len d2)).setCell ⟨b, off + l.length * 5 + 4, none⟩ (.slice a3 x.els.len d3)).heap[c]? = some (.cells #[.slice lo1 fs.length lc1, .slice lo2 l.length lc2] 25 (0, 0)) := X5.out.row hcb
                   obtain ⟨w6, hw6⟩ : ∃ w6, w6 = (((((w5.setCell ⟨b, off + l.length * 5, none⟩ (.int .u8 (x.kind : Int))).setCell ⟨b, off + l.length * 5 + 1, none⟩ (.string (tx x.text))).setCell ⟨b, off + l.length * 5 + 2, none⟩ (.slice a1 x.l.len d1)).setCell ⟨b, off + l.length * 5 + 3, none⟩ (.slice a2 x.body.len d2)).setCell ⟨b, off + l.length * 5 + 4, none⟩ (.slice a3 x.els.len d3)) := ⟨_, rfl⟩
                   rw [← hw6] at hsf hfl hpc ⊢
                   have hp : Put w6 (w6.setCell ⟨c, 1, none⟩ (.slice (some ⟨b, off, none⟩) (l.length + 1) cp)) c #[.slice lo1 fs.length lc1, .slice (some ⟨b, off, none⟩) (l.length + 1) cp] 25 := Put.one hpc 1 _
                   have hz : (w6.setCell ⟨c, 1, none⟩ (.slice (some ⟨b, off, none⟩) (l.length + 1) cp)).heap.size = w5.heap.size := hp.size.trans hsf.size
                   exact HEND.out _ (by rw [hz]; exact LR.frame hfl fun k q1 _ => hp.oth k (by omega)) (fin5_a hsf hp))
                | (have hrow5 : w5.heap[c]? = some (.cells #[.slice lo1 fs.length lc1, .slice lo2 l.length lc2] 25 (0, 0)) := X5.out.crow
                   have hp : Put w5 (w5.setCell ⟨c, 1, none⟩ (.slice (some ⟨b, off, none⟩) (l.length + 1) cp)) c #[.slice lo1 fs.length lc1, .slice (some ⟨b, off, none⟩) (l.length + 1) cp] 25 := Put.one hrow5 1 _
                   obtain ⟨w6, hw6⟩ : ∃ w6, w6 = (w5.setCell ⟨c, 1, none⟩ (.slice (some ⟨b, off, none⟩) (l.length + 1) cp)) := ⟨_, rfl⟩
                   rw [← hw6] at hp ⊢
                   have hfl := X5.out.fill2 X3.out.1.2.2.2.2.1 HU.out.hi (by omega) hp
                   have hsf := Sets.five w6 b (off + l.length * 5) (off + l.length * 5 + 1) (off + l.length * 5 + 2) (off + l.length * 5 + 3) (off + l.length * 5 + 4) (.int .u8 (x.kind : Int)) (.string (tx x.text)) (.slice a1 x.l.len d1) (.slice a2 x.body.len d2) (.slice a3 x.els.len d3)
                   obtain ⟨w7, hw7⟩ : ∃ w7, w7 = (((((w6.setCell ⟨b, off + l.length * 5, none⟩ (.int .u8 (x.kind : Int))).setCell ⟨b, off + l.length * 5 + 1, none⟩ (.string (tx x.text))).setCell ⟨b, off + l.length * 5 + 2, none⟩ (.slice a1 x.l.len d1)).setCell ⟨b, off + l.length * 5 + 3, none⟩ (.slice a2 x.body.len d2)).setCell ⟨b, off + l.length * 5 + 4, none⟩ (.slice a3 x.els.len d3)) := ⟨_, rfl⟩
                   rw [← hw7] at hfl hsf ⊢
                   exact HEND.out _ (by rw [hsf.size]; exact hfl) (fin5_b hp hsf hcb))
end Go.Proofs.YtmkhfonafcikdaaGreatDoor

/- Tokens: silence; the table of kinds. -/
namespace Go.To
theorem sil_run (l : List UInt8) : sil false l = run isB l + sil false (l.drop (run isB l)) := by
  induction l with
  | nil => simp [run, sil]
  | cons c l ih =>
    by_cases h : isB c = true
    · rw [sil, if_pos h, run, if_pos h, ih, List.drop_succ_cons]; omega
    · rw [run, if_neg h]; simp
theorem run_stop (p : UInt8 → Bool) (l : List UInt8) (c : UInt8) (h : (l.drop (run p l)).head? = some c) : p c = false := by
  induction l with
  | nil => simp [run] at h
  | cons d l ih =>
    by_cases hd : p d = true
    · rw [run, if_pos hd, List.drop_succ_cons] at h; exact ih h
    · rw [run, if_neg hd] at h
      simp at h
      subst h
      simpa using hd
theorem sil_stop (c : UInt8) (l : List UInt8) (h1 : isB c = false) (h2 : c.toNat ≠ 35) : sil false (c :: l) = 0 := by
  rw [sil, if_neg (by simp [h1]), if_neg h2]
theorem ib_cons (c : UInt8) (l : List UInt8) (x : UInt8) (h : c ≠ x) : Lib.indexByte (c :: l) x = if Lib.indexByte l x = -1 then -1 else Lib.indexByte l x + 1 := by
  conv => lhs; unfold Lib.indexByte
  rw [if_neg (by simpa using h)]
  by_cases h2 : Lib.indexByte l x = -1
  · rw [if_pos h2, if_pos (by simp [h2])]
  · rw [if_neg h2, if_neg (by simpa using h2)]
theorem ib_same (l : List UInt8) (x : UInt8) : Lib.indexByte (x :: l) x = 0 := by unfold Lib.indexByte; simp
theorem sil_in (l : List UInt8) : (Lib.indexByte l 10 < 0 → sil true l = l.length) ∧ ∀ e : Nat, Lib.indexByte l 10 = e → sil true l = e + sil false (l.drop e) := by
  induction l with
  | nil => exact ⟨fun _ => rfl, fun e h => by simp [Lib.indexByte] at h⟩
  | cons c l ih =>
    by_cases hc : c = 10
    · subst hc
      have e1 : Lib.indexByte (10 :: l) 10 = 0 := ib_same l 10
      refine ⟨fun h => by rw [e1] at h; exact absurd h (by decide), fun e h => ?_⟩
      rw [e1] at h
      have : e = 0 := by omega
      subst this
      rw [List.drop_zero, sil, sil, if_pos (show (10 : UInt8).toNat = 10 from rfl), if_pos (by decide)]; omega
    · have hcn : c.toNat ≠ 10 := fun h => hc (UInt8.toNat_inj.1 h)
      have hp := (Proofs.YtmkhfonafcikdaaGreatDoor.idx_pos l 10).1
      rw [sil, if_neg hcn, ib_cons c l 10 hc]
      by_cases h2 : Lib.indexByte l 10 = -1
      · rw [if_pos h2]
        exact ⟨fun _ => by rw [ih.1 (by omega), List.length_cons], fun e h => by omega⟩
      · rw [if_neg h2]
        refine ⟨fun h => by omega, fun e h => ?_⟩
        obtain ⟨k, rfl⟩ : ∃ k, e = k + 1 := ⟨e - 1, by omega⟩
        have h4 := ih.2 k (by omega)
        rw [h4, List.drop_succ_cons]
        omega
theorem sil_hash (c : UInt8) (l : List UInt8) (h : c.toNat = 35) : (Lib.indexByte (c :: l) 10 < 0 → sil false (c :: l) = (c :: l).length) ∧ ∀ e : Nat, Lib.indexByte (c :: l) 10 = e → 0 < e ∧ sil false (c :: l) = e + sil false ((c :: l).drop e) := by
  have hc : c ≠ 10 := fun e => by rw [e] at h; exact absurd h (by decide)
  have hb : isB c = false := by simp [isB, h]
  have e0 : sil false (c :: l) = sil true (c :: l) := by rw [sil, sil, if_neg (by simp [hb]), if_pos h, if_neg (by omega)]
  rw [e0]
  refine ⟨(sil_in (c :: l)).1, fun e he => ⟨?_, (sil_in (c :: l)).2 e he⟩⟩
  rcases Nat.eq_zero_or_pos e with h0 | h0
  · exfalso
    subst h0
    rw [ib_cons c l 10 hc] at he
    have := (Proofs.YtmkhfonafcikdaaGreatDoor.idx_pos l 10).1
    by_cases h2 : Lib.indexByte l 10 = -1
    · rw [if_pos h2] at he; omega
    · rw [if_neg h2] at he; omega
  · exact h0
end Go.To
namespace Go.Proofs.YtmkhfonafcikdaaGreatDoor
open Go.RowKit Go.My

def SilAt (w : World) (l : List UInt8) (gk : Nat) (vn : Value) (wr : World) : Prop :=
  ∃ n : Nat, n ≤ l.length ∧ gk = l.length - n ∧ vn = .int .i64 (n : Int) ∧ To.sil false l = n + To.sil false (l.drop n) ∧ Below w.heap.size w wr

set_option maxHeartbeats 2000000 in
theorem silence_t {w : World} (l : List UInt8) (hl : l.length ≤ 9223372036854775807) {Q : Ending → World → Prop} (h : ∀ w', Below w.heap.size w w' → Q (.returned (.int .i64 (To.sil false l : Nat))) w') :
    Calls Tryz.prog 177 #[.string (bs l)] w Q := by
  have H := Lib.hid h
  have hs0 := bs_size l
  have hl1 : (l.length : Int) ≤ 9223372036854775807 := by omega
  clear h
  go_enter Tryz.func177, Tryz.ntmps177
  go_wp2_with fail
  go_loopg [2] l.length (fun gk vn wr => SilAt w l gk vn wr)
  case atStart => exact ⟨0, Nat.zero_le _, rfl, rfl, by simp, Below.refl _ _⟩
  case round =>
    obtain ⟨n, hn, rfl, rfl, hsil, hB⟩ := hrel
    have HX := Lib.hid (And.intro hsil hB)
    clear hsil hB
    have n0 : (0 : Int) ≤ (n : Int) := by omega
    have n1 : (n : Int) ≤ (l.length : Int) := by omega
    have hsl := sl_s l .i64 n (z := (n : Int)) rfl hn
    obtain ⟨r, hr⟩ : ∃ r, r = To.run To.isB (l.drop n) := ⟨_, rfl⟩
    have hrl := To.run_le To.isB (l.drop n)
    rw [← hr, List.length_drop] at hrl
    obtain ⟨m, hm⟩ : ∃ m, m = n + r := ⟨_, rfl⟩
    have hmi : (n : Int) + (r : Int) = (m : Int) := by omega
    have hml : m ≤ l.length := by omega
    have hr2 : (r : Int) ≤ (l.length : Int) := by omega
    have hsl2 := sl_s l .i64 m (z := (m : Int)) rfl hml
    have hdd : (l.drop n).drop r = l.drop m := by rw [List.drop_drop, hm]
    have hs1 := To.sil_run (l.drop n)
    have hs2 := To.run_stop To.isB (l.drop n)
    rw [← hr, hdd] at hs1 hs2
    have HR := Lib.hid (And.intro hr (And.intro hs1 (And.intro hs2 hm)))
    clear hr hs1 hs2 hdd hm
    go_wp2_with fail
    refine run_t cutB (l.drop n) (by rw [List.length_drop]; omega) fun w2 hB2 => ?_
    rw [← HR.out.1]
    have HB := Lib.hid (HX.out.2.trans (hB2.mono HX.out.2.size))
    clear hB2
    by_cases hend : m = l.length
    · have hei : (m : Int) = (l.length : Int) := by omega
      have hfin := Lib.hid (show To.sil false l = l.length by rw [HX.out.1, HR.out.2.1, hend, List.drop_length]; show n + (r + 0) = _; have := HR.out.2.2.2; omega)
      have h2 := Lib.hid (H.out w2 HB.out)
      rw [hfin.out] at h2
      clear hend
      go_wp2_with fail
      exact h2.out
    · have hlt : m < l.length := by omega
      have hei : (m : Int) < (l.length : Int) := by omega
      have hix := ix_s l .i64 m (z := (m : Int)) rfl hlt
      obtain ⟨c, rs, hcr⟩ : ∃ c rs, l.drop m = c :: rs := by
        cases hd : l.drop m with
        | nil => have := congrArg List.length hd; simp at this; omega
        | cons c rs => exact ⟨c, rs, rfl⟩
      have hlm : l[m] = c := by
        have := List.drop_eq_getElem_cons hlt
        rw [hcr] at this
        exact (List.cons.inj this).1.symm
      rw [hlm] at hix
      have hbc := HR.out.2.2.1 c (by rw [hcr]; rfl)
      clear hend hlm
      by_cases hh : c.toNat = 35
      · have hh1 : (c.toNat : Int) = 35 := by omega
        have hsh := To.sil_hash c rs hh
        rw [← hcr] at hsh
        obtain ⟨x, hx⟩ : ∃ x, x = Lib.indexByte (l.drop m) 10 := ⟨_, rfl⟩
        have hxp := idx_pos (l.drop m) 10
        rw [← hx] at hxp hsh
        rw [List.length_drop] at hxp
        have HC := Lib.hid (And.intro hx (And.intro hsh hcr))
        have hx1 : -1 ≤ x := hxp.1
        have hx2 : x < (l.length : Int) := by omega
        have hx3 : x < (l.length : Int) - (m : Int) := by omega
        clear hx hsh hcr hxp hh hbc
        by_cases hneg : x < 0
        · have hfin := Lib.hid (show To.sil false l = l.length by rw [HX.out.1, HR.out.2.1, HC.out.2.1.1 hneg, List.length_drop]; have := HR.out.2.2.2; omega)
          have h2 := Lib.hid (H.out w2 HB.out)
          rw [hfin.out] at h2
          go_wp2_with fail
          refine idx_t (l.drop m) 10 rfl ?_
          rw [← HC.out.1]
          go_wp2_with fail
          exact h2.out
        · obtain ⟨e, he⟩ : ∃ e : Nat, x = (e : Int) := ⟨x.toNat, by omega⟩
          subst he
          have hpe := HC.out.2.1.2 e rfl
          have HPE := Lib.hid hpe
          have hme : (m : Int) + (e : Int) ≤ (l.length : Int) := by omega
          have hei2 : (0 : Int) ≤ (e : Int) := by omega
          clear hpe hneg
          go_wp2_with fail
          refine idx_t (l.drop m) 10 rfl ?_
          rw [← HC.out.1]
          go_wp2_with fail
          go_roundg (l.length - (m + e))
          case measure => have := HPE.out.1; have := HR.out.2.2.2; omega
          case rel => exact ⟨m + e, by omega, rfl, by go_num, by rw [HX.out.1, HR.out.2.1, HPE.out.2, List.drop_drop]; have := HR.out.2.2.2; omega, HB.out⟩
      · have hh1 : ((c.toNat : Int) == 35) = false := by simp; omega
        have hh2 : ((c.toNat : Int) != 35) = true := by simp; omega
        have hfin := Lib.hid (show To.sil false l = m by rw [HX.out.1, HR.out.2.1, hcr, To.sil_stop c rs hbc hh]; have := HR.out.2.2.2; omega)
        have h2 := Lib.hid (H.out w2 HB.out)
        rw [hfin.out] at h2
        clear hcr hbc hh
        go_wp2_with fail
        exact h2.out
end Go.Proofs.YtmkhfonafcikdaaGreatDoor

/- Tokens: the iterator. -/
namespace Go.To
theorem number_le (l : List UInt8) : number l ≤ l.length := run_le _ _
theorem step_tok {s l0 : List UInt8} {k p : Nat} (A : List T × Option Nat) (hl : l0 = s.drop p) (hne : l0 ≠ []) (h0 : (tok l0).1 ≠ 0) (hsc : scan' p (s.drop p) = (A.1.drop k, A.2)) :
    ∃ hk : k < A.1.length, A.1[k] = ⟨(tok l0).1, l0.take (tok l0).2, p⟩ ∧ scan' (p + (tok l0).2 + sil false (l0.drop (tok l0).2)) (s.drop (p + (tok l0).2 + sil false (l0.drop (tok l0).2))) = (A.1.drop (k + 1), A.2) := by
  rw [← hl, scan'_tok p l0 hne h0] at hsc
  have e1 : ((l0.drop (tok l0).2).drop (sil false (l0.drop (tok l0).2))) = s.drop (p + (tok l0).2 + sil false (l0.drop (tok l0).2)) := by
    generalize sil false (l0.drop (tok l0).2) = q
    rw [hl, List.drop_drop, List.drop_drop]; congr 1; omega
  rw [e1] at hsc
  generalize scan' (p + (tok l0).2 + sil false (l0.drop (tok l0).2)) (s.drop (p + (tok l0).2 + sil false (l0.drop (tok l0).2))) = B at hsc
  simp only [Prod.mk.injEq] at hsc
  have hk : k < A.1.length := by
    have h := congrArg List.length hsc.1
    rw [List.length_drop, List.length_cons] at h
    omega
  have h := List.drop_eq_getElem_cons hk
  rw [← hsc.1] at h
  exact ⟨hk, (List.cons.inj h).1.symm, Prod.ext (List.cons.inj h).2 hsc.2⟩
theorem step_bad {s l0 : List UInt8} {k p : Nat} (A : List T × Option Nat) (hl : l0 = s.drop p) (hne : l0 ≠ []) (h0 : (tok l0).1 = 0) (hk : k ≤ A.1.length) (hsc : scan' p (s.drop p) = (A.1.drop k, A.2)) :
    k = A.1.length ∧ A.2 = some p := by
  rw [← hl, scan'_bad p l0 hne h0] at hsc
  simp only [Prod.mk.injEq] at hsc
  have h := congrArg List.length hsc.1
  rw [List.length_drop, List.length_nil] at h
  exact ⟨by omega, hsc.2.symm⟩
end Go.To
namespace Go.Proofs.YtmkhfonafcikdaaGreatDoor
open Go.RowKit Go.My

/-- A token, as a value; its cells. -/
def tokVal (x : To.T) : Value := .agg #[.int .u8 (x.kind : Int), .string (bs x.text), .int .i64 (x.pos : Int)]

/-- A token's cells. -/
def tokCells (x : To.T) : Array Value := #[.int .u8 (x.kind : Int), .string (bs x.text), .int .i64 (x.pos : Int)]

/-- What stands while a token is looked for. -/
structure TkAt (J : Nat → World → Tags → Prop) (s : List UInt8) (sb tb k : Nat) (x : To.T) (wr : World) (gr : Tags) : Prop where
  j : J k wr gr
  box : Box1 wr gr sb 9 501 #[.string (bs s)]
  tok : Box1 wr gr tb 122 500 (tokCells x)

theorem TkAt.turn0 {J : Nat → World → Tags → Prop} {s : List UInt8} {sb tb k : Nat} {x : To.T} {w w' : World} {g g' : Tags} (h : TkAt J s sb tb k x w g) (hJ : ∀ k W g W' g', J k W g → Turn W g W' g' [500] → J k W' g') (T : Turn w g w' g' []) : TkAt J s sb tb k x w' g' :=
  ⟨hJ _ _ _ _ _ h.j (T.mono (by simp)), h.box.turn T (by simp), h.tok.turn T (by simp)⟩

theorem tk_set {J : Nat → World → Tags → Prop} {s : List UInt8} {sb tb k p : Nat} {w : World} {g : Tags} (h : TkAt J s sb tb k ⟨0, [], p⟩ w g) (hJ : ∀ k W g W' g', J k W g → Turn W g W' g' [500] → J k W' g') (kd : Nat) (text : List UInt8) :
    TkAt J s sb tb k ⟨kd, text, p⟩ ((w.setCell ⟨tb, 0, none⟩ (.int .u8 (kd : Int))).setCell ⟨tb, 1, none⟩ (.string (bs text))).drew g := by
  obtain ⟨T1, B1⟩ := h.tok.store 0 (.int .u8 (kd : Int))
  obtain ⟨T2, B2⟩ := B1.store 1 (.string (bs text))
  have T := (T1.trans T2 (V := [500]) (by simp) (by simp)).trans (Turn.drew _ g) (V := [500]) (by simp) (by simp)
  refine ⟨hJ _ _ _ _ _ h.j T, h.box.turn T (by simp), ?_⟩
  exact B2.turn (Turn.drew _ g) (by simp)

theorem sign_b {w : World} (l : List UInt8) (hl : l.length ≤ 9223372036854775807) {Q : Ending → World → Prop} (h : ∀ w', Below w.heap.size w w' → Q (.returned (.int .i64 (To.sign l : Nat))) w') :
    Calls Tryz.prog 164 #[.string (bs l)] w Q := sign_t l hl (h w (Below.refl _ _))

theorem sl_pn (s l0 : List UInt8) (p n : Nat) (hl : l0 = s.drop p) (hn : p + n ≤ s.length) :
    ∀ wx, (Instr.slice 9 (.string (bs s)) (some (.int .i64 (p : Int))) (some (.int .i64 ((p : Int) + (n : Int)))) none).run Tryz.prog wx = .ok (.string (bs (l0.take n))) wx := by
  intro wx
  have hs := bs_size s
  rw [run_slice_string_if wx 9 (bs s) .i64 .i64 (p : Int) ((p : Int) + (n : Int)) Tryz.underlying9, if_pos ⟨by omega, by omega⟩, if_pos ⟨by omega, by omega⟩]
  have e : ((p : Int) + (n : Int)).toNat = p + n := by omega
  rw [e, Int.toNat_natCast, bs_cut, hl, Nat.add_sub_cancel_left]

/-- Before the j-th kind is tried. -/
def KindAt (J : Nat → World → Tags → Prop) (s : List UInt8) (sb tb k p : Nat) (l : List UInt8) (gk : Nat) (vj : Value) (wr : World) : Prop :=
  ∃ (j : Nat) (gr : Tags), j ≤ 3 ∧ gk = 3 - j ∧ vj = .int .i64 (j : Int) ∧ (1 ≤ j → To.word l = 0) ∧ (2 ≤ j → To.number l = 0) ∧ (3 ≤ j → To.sign l = 0) ∧ TkAt J s sb tb k ⟨0, [], p⟩ wr gr

/-- The token is found, or there is none. -/
def FoundAt (J : Nat → World → Tags → Prop) (s : List UInt8) (sb tb k p : Nat) (l : List UInt8) (wr : World) : Prop :=
  ∃ gr : Tags, TkAt J s sb tb k (if (To.tok l).1 = 0 then ⟨0, [], p⟩ else ⟨(To.tok l).1, l.take (To.tok l).2, p⟩) wr gr

theorem found_at {J : Nat → World → Tags → Prop} {s : List UInt8} {sb tb k p kd n : Nat} {l : List UInt8} {wr : World} {gr : Tags} (ht : To.tok l = (kd + 1 - 1, n)) (h : TkAt J s sb tb k ⟨kd, l.take n, p⟩ wr gr) (hk : kd ≠ 0 := by decide) : FoundAt J s sb tb k p l wr := by
  refine ⟨gr, ?_⟩
  rw [Nat.add_sub_cancel] at ht
  rw [ht, if_neg hk]
  exact h

/-- At the head of a round. -/
def ItAt (J : Nat → World → Tags → Prop) (s : List UInt8) (sb gk : Nat) (vp : Value) (wr : World) : Prop :=
  ∃ (k p : Nat) (gr : Tags), p ≤ s.length ∧ gk = s.length - p ∧ vp = .int .i64 (p : Int) ∧ To.scan' p (s.drop p) = ((To.all s).1.drop k, (To.all s).2) ∧ k ≤ (To.all s).1.length ∧ J k wr gr ∧ Box1 wr gr sb 9 501 #[.string (bs s)]

theorem ycells (x : To.T) : tokVal x = .agg #[.int .u8 (x.kind : Int), .string (bs x.text), .int .i64 (x.pos : Int)] := rfl

set_option maxRecDepth 100000 in
set_option maxHeartbeats 8000000 in
theorem all1_t {w : World} {g : Tags} (s : List UInt8) (hs : s.length ≤ 1000000) {sb : Nat} (hbox : Box1 w g sb 9 501 #[.string (bs s)]) (l : Nat) (J : Nat → World → Tags → Prop) (Jx R : World → Prop) (TB : List Nat) (h5 : 500 ∉ TB ∧ 501 ∉ TB)
    (hJ : ∀ k W g W' g', J k W g → Turn W g W' g' [500] → J k W' g')
    (hY : ∀ k W g (hk : k < (To.all s).1.length), J k W g → YieldsTo Tryz.prog l #[tokVal (To.all s).1[k]] W fun e W' => ∃ g', e = .returned (.bool true) ∧ J (k + 1) W' g' ∧ Turn W g W' g' TB)
    (hX : ∀ p W g, (To.all s).2 = some p → J (To.all s).1.length W g → YieldsTo Tryz.prog l #[tokVal ⟨0, [], p⟩] W fun e W' => e = .returned (.bool false) ∧ Jx W')
    (h0 : J 0 w g) (hend : ∀ W g, (To.all s).2 = none → J (To.all s).1.length W g → R W) (hstop : ∀ p W, (To.all s).2 = some p → Jx W → R W) :
    Calls Tryz.prog 176 #[.func (.yield l) #[] #[], .pointer (some ⟨sb, 0, none⟩)] w fun e w' => (∃ v, e = .returned v) ∧ R w' := by
  have HJ := Lib.hid (And.intro hJ (And.intro hY (And.intro hX (And.intro hend hstop))))
  have H0 := Lib.hid (And.intro h0 hbox)
  have hs1 := bs_size s
  have hs2 : (s.length : Int) ≤ 1000000 := by omega
  have c0 : w.cell? ⟨sb, 0, none⟩ = some (.string (bs s)) := (hbox.cell 0).1
  clear hJ hY hX hend hstop h0 hbox
  go_enter Tryz.func176, Tryz.ntmps176
  go_wp2_with fail
  refine silence_t s (by omega) fun w1 hB => ?_
  have X1 := Lib.hid (show ItAt J s sb (s.length - To.sil false s) (.int .i64 (To.sil false s : Int)) w1 from
    ⟨0, To.sil false s, g.ext w.heap.size 500, To.sil_le s false, rfl, rfl, by rw [← To.all_scan']; rfl, Nat.zero_le _, HJ.out.1 _ _ _ _ _ H0.out.1 ((Turn.of_below hB g 500).mono (by simp)), H0.out.2.turn (Turn.of_below hB g 500) (by simp)⟩)
  clear hB c0
  go_wp2_with fail
  go_loopg [3] (s.length - To.sil false s) (fun gk vp wr => ItAt J s sb gk vp wr)
  case atStart => exact X1.out
  case round =>
    obtain ⟨k, p, gr, hp, rfl, rfl, hsc, hk, hj, hbx⟩ := hrel
    have HX := Lib.hid (And.intro hsc (And.intro hk (And.intro hj hbx)))
    have p0 : (0 : Int) ≤ (p : Int) := by omega
    have c0 : wr.cell? ⟨sb, 0, none⟩ = some (.string (bs s)) := (hbx.cell 0).1
    clear hsc hk hj hbx X1 H0
    by_cases hlt : p < s.length
    · have hpi : (p : Int) < (s.length : Int) := by omega
      obtain ⟨tb, htb⟩ : ∃ tb, tb = wr.heap.size := ⟨_, rfl⟩
      have T0 := Turn.alloc wr gr 500 (.cells #[.int .u8 0, .string ⟨#[]⟩, .int .i64 (p : Int)] 122)
      have K0 := Lib.hid (show TkAt J s sb tb k ⟨0, [], p⟩ (wr.alloc (.cells #[.int .u8 0, .string ⟨#[]⟩, .int .i64 (p : Int)] 122)) (gr.ext wr.heap.size 500) from ⟨HJ.out.1 _ _ _ _ _ HX.out.2.2.1 (T0.mono (by simp)), HX.out.2.2.2.turn T0 (by simp), by rw [htb]; exact Box1.alloc wr gr _ 500 _⟩)
      clear T0
      go_wp2_with fail
      rw [← htb] at K0 ⊢
      clear htb
      refine kinds_t fun w2 hB => ?_
      have K2 := Lib.hid (show TkAt J s sb tb k ⟨0, [], p⟩ w2 _ from ⟨HJ.out.1 _ _ _ _ _ K0.out.j ((Turn.of_below hB _ 500).mono (by simp)), K0.out.box.turn (Turn.of_below hB _ 500) (by simp), K0.out.tok.turn (Turn.of_below hB _ 500) (by simp)⟩)
      clear hB K0 c0
      obtain ⟨l0, hl0⟩ : ∃ l0, l0 = s.drop p := ⟨_, rfl⟩
      have HL := Lib.hid hl0
      have hll : l0.length ≤ 1000000 := by rw [hl0, List.length_drop]; omega
      clear hl0
      go_upto_block 2 with fail
      go_cut [] (fun wx => FoundAt J s sb tb k p l0 wx)
      case first =>
        go_wp2_with fail
        go_loopg [23] 3 (fun gk vj wr => KindAt J s sb tb k p l0 gk vj wr)
        case atStart => exact ⟨0, _, by omega, rfl, rfl, fun h => absurd h (by omega), fun h => absurd h (by omega), fun h => absurd h (by omega), K2.out⟩
        case round =>
          obtain ⟨j, gj, hj, rfl, rfl, hj1, hj2, hj3, hK⟩ := hrel
          have j0 : (0 : Int) ≤ (j : Int) := by omega
          clear K2
          rcases (show j = 0 ∨ j = 1 ∨ j = 2 ∨ j = 3 by omega) with rfl | rfl | rfl | rfl
          · have HZ := Lib.hid (And.intro hj1 hj2)
            clear hj1 hj2 hj3
            have hk0 := fun wx => (kix wx).1
            have hsl := sl_s s .i64 p (z := (p : Int)) rfl hp
            have T0 := Turn.alloc wr gj 500 (.cells #[.int .u8 1, .func (.func 161) #[] #[]] 193)
            obtain ⟨kb, hkb⟩ : ∃ kb, kb = wr.heap.size := ⟨_, rfl⟩
            have K3 := Lib.hid (And.intro (show TkAt J s sb tb k ⟨0, [], p⟩ _ _ from ⟨HJ.out.1 _ _ _ _ _ hK.j (T0.mono (by simp)), hK.box.turn T0 (by simp), hK.tok.turn T0 (by simp)⟩) (show Box1 _ (gj.ext wr.heap.size 500) kb 193 500 #[.int .u8 1, .func (.func 161) #[] #[]] by rw [hkb]; exact Box1.alloc wr gj _ 500 _))
            have htk : tb ≠ kb ∧ kb ≠ tb := by have := hK.tok.lt; omega
            have hst : sb ≠ tb ∧ tb ≠ sb := by have h1 := hK.box.2; have h2 := hK.tok.2; exact ⟨fun e => by rw [e, h2] at h1; omega, fun e => by rw [← e, h2] at h1; omega⟩
            have HNE := Lib.hid (And.intro htk hst)
            clear hK T0 htk hst
            go_wp2_with fail
            rw [← hkb] at K3 ⊢
            clear hkb
            generalize wr.alloc (.cells #[.int .u8 1, .func (.func 161) #[] #[]] 193) = w3 at K3 ⊢
            have c1 : w3.cell? ⟨kb, 1, none⟩ = some (.func (.func 161) #[] #[]) := (K3.out.2.cell 1).1
            have c0 : w3.cell? ⟨sb, 0, none⟩ = some (.string (bs s)) := (K3.out.1.box.cell 0).1
            go_still_tail 5, (by kernel_rfl)
            change wpList _ _ _ _ _ w3.drew
            have D3 := Turn.drew w3 (gj.ext kb 500)
            have K4 := Lib.hid (And.intro (K3.out.1.turn0 HJ.out.1 D3) (K3.out.2.turn D3 (by simp)))
            clear D3 K3 c1 c0 hsl
            generalize w3.drew = w4 at K4 ⊢
            go_wp2_with fail
            rw [← HL.out]
            refine word_t l0 (by omega) fun w5 hB => ?_
            have T5 := Turn.of_below hB (gj.ext kb 500) 500
            have K5 := Lib.hid (And.intro (K4.out.1.turn0 HJ.out.1 T5) (K4.out.2.turn T5 (by simp)))
            clear hB T5 K4
            obtain ⟨n, hn⟩ : ∃ n, n = To.word l0 := ⟨_, rfl⟩
            rw [← hn]
            have HN := Lib.hid hn
            have hnl := To.word_le l0
            rw [← hn] at hnl
            clear hn
            by_cases hpos : 0 < n
            · have hp1 : (0 : Int) < (n : Int) := by omega
              have hp2 : (p : Int) + (n : Int) ≤ 1000000 := by have := congrArg List.length HL.out; rw [List.length_drop] at this; omega
              have c1 : w5.cell? ⟨kb, 0, none⟩ = some (.int .u8 1) := (K5.out.2.cell 0).1
              have c0 : w5.cell? ⟨sb, 0, none⟩ = some (.string (bs s)) := (K5.out.1.box.cell 0).1
              have t0 : w5.cell? ⟨tb, 0, none⟩ = some (.int .u8 0) := (K5.out.1.tok.cell 0).1
              have t1 : w5.cell? ⟨tb, 1, none⟩ = some (.string (bs [])) := (K5.out.1.tok.cell 1).1
              have f0 := (K5.out.1.tok.cell 0).2
              have f1 := (K5.out.1.tok.cell 1).2
              have hsl := sl_pn s l0 p n HL.out (by have := congrArg List.length HL.out; rw [List.length_drop] at this; omega)
              have hwr : IntKind.i64.wrap ((p : Int) + (n : Int)) = (p : Int) + (n : Int) := IntWalk.i64_in _ (by omega)
              obtain ⟨⟨e1, e2⟩, ⟨e3, e4⟩⟩ := HNE.out
              have HP := Lib.hid hpos
              clear hpos
              go_wp2_with fail
              go_region
              all_goals
                go_wp2_with fail
                go_meet
                case rel => exact found_at (kd := 1) (n := n) (by unfold To.tok; rw [← HN.out, if_pos HP.out]) (tk_set K5.out.1 HJ.out.1 1 (l0.take n))
            · have hp1 : (n : Int) = 0 := by omega
              go_wp2_with fail
              go_roundg 2
              case measure => omega
              case rel => exact ⟨1, _, by omega, rfl, rfl, fun _ => by rw [← HN.out]; omega, fun h => absurd h (by omega), fun h => absurd h (by omega), K5.out.1⟩
          · have HZ := Lib.hid (And.intro hj1 hj2)
            clear hj1 hj2 hj3
            have hk0 := fun wx => (kix wx).2.1
            have hsl := sl_s s .i64 p (z := (p : Int)) rfl hp
            have T0 := Turn.alloc wr gj 500 (.cells #[.int .u8 2, .func (.func 163) #[] #[]] 193)
            obtain ⟨kb, hkb⟩ : ∃ kb, kb = wr.heap.size := ⟨_, rfl⟩
            have K3 := Lib.hid (And.intro (show TkAt J s sb tb k ⟨0, [], p⟩ _ _ from ⟨HJ.out.1 _ _ _ _ _ hK.j (T0.mono (by simp)), hK.box.turn T0 (by simp), hK.tok.turn T0 (by simp)⟩) (show Box1 _ (gj.ext wr.heap.size 500) kb 193 500 #[.int .u8 2, .func (.func 163) #[] #[]] by rw [hkb]; exact Box1.alloc wr gj _ 500 _))
            have htk : tb ≠ kb ∧ kb ≠ tb := by have := hK.tok.lt; omega
            have hst : sb ≠ tb ∧ tb ≠ sb := by have h1 := hK.box.2; have h2 := hK.tok.2; exact ⟨fun e => by rw [e, h2] at h1; omega, fun e => by rw [← e, h2] at h1; omega⟩
            have HNE := Lib.hid (And.intro htk hst)
            clear hK T0 htk hst
            go_wp2_with fail
            rw [← hkb] at K3 ⊢
            clear hkb
            generalize wr.alloc (.cells #[.int .u8 2, .func (.func 163) #[] #[]] 193) = w3 at K3 ⊢
            have c1 : w3.cell? ⟨kb, 1, none⟩ = some (.func (.func 163) #[] #[]) := (K3.out.2.cell 1).1
            have c0 : w3.cell? ⟨sb, 0, none⟩ = some (.string (bs s)) := (K3.out.1.box.cell 0).1
            go_still_tail 5, (by kernel_rfl)
            change wpList _ _ _ _ _ w3.drew
            have D3 := Turn.drew w3 (gj.ext kb 500)
            have K4 := Lib.hid (And.intro (K3.out.1.turn0 HJ.out.1 D3) (K3.out.2.turn D3 (by simp)))
            clear D3 K3 c1 c0 hsl
            generalize w3.drew = w4 at K4 ⊢
            go_wp2_with fail
            rw [← HL.out]
            refine number_t l0 (by omega) fun w5 hB => ?_
            have T5 := Turn.of_below hB (gj.ext kb 500) 500
            have K5 := Lib.hid (And.intro (K4.out.1.turn0 HJ.out.1 T5) (K4.out.2.turn T5 (by simp)))
            clear hB T5 K4
            obtain ⟨n, hn⟩ : ∃ n, n = To.number l0 := ⟨_, rfl⟩
            rw [← hn]
            have HN := Lib.hid hn
            have hnl := To.number_le l0
            rw [← hn] at hnl
            clear hn
            by_cases hpos : 0 < n
            · have hp1 : (0 : Int) < (n : Int) := by omega
              have hp2 : (p : Int) + (n : Int) ≤ 1000000 := by have := congrArg List.length HL.out; rw [List.length_drop] at this; omega
              have c1 : w5.cell? ⟨kb, 0, none⟩ = some (.int .u8 2) := (K5.out.2.cell 0).1
              have c0 : w5.cell? ⟨sb, 0, none⟩ = some (.string (bs s)) := (K5.out.1.box.cell 0).1
              have t0 : w5.cell? ⟨tb, 0, none⟩ = some (.int .u8 0) := (K5.out.1.tok.cell 0).1
              have t1 : w5.cell? ⟨tb, 1, none⟩ = some (.string (bs [])) := (K5.out.1.tok.cell 1).1
              have f0 := (K5.out.1.tok.cell 0).2
              have f1 := (K5.out.1.tok.cell 1).2
              have hsl := sl_pn s l0 p n HL.out (by have := congrArg List.length HL.out; rw [List.length_drop] at this; omega)
              have hwr : IntKind.i64.wrap ((p : Int) + (n : Int)) = (p : Int) + (n : Int) := IntWalk.i64_in _ (by omega)
              obtain ⟨⟨e1, e2⟩, ⟨e3, e4⟩⟩ := HNE.out
              have HP := Lib.hid hpos
              clear hpos
              go_wp2_with fail
              go_region
              all_goals
                go_wp2_with fail
                go_meet
                case rel => exact found_at (kd := 2) (n := n) (by unfold To.tok; rw [← HN.out, if_neg (by have := HZ.out.1 (by omega); omega), if_pos HP.out]) (tk_set K5.out.1 HJ.out.1 2 (l0.take n))
            · have hp1 : (n : Int) = 0 := by omega
              go_wp2_with fail
              go_roundg 1
              case measure => omega
              case rel => exact ⟨2, _, by omega, rfl, rfl, fun _ => HZ.out.1 (by omega), fun _ => by rw [← HN.out]; omega, fun h => absurd h (by omega), K5.out.1⟩
          · have HZ := Lib.hid (And.intro hj1 hj2)
            clear hj1 hj2 hj3
            have hk0 := fun wx => (kix wx).2.2
            have hsl := sl_s s .i64 p (z := (p : Int)) rfl hp
            have T0 := Turn.alloc wr gj 500 (.cells #[.int .u8 3, .func (.func 164) #[] #[]] 193)
            obtain ⟨kb, hkb⟩ : ∃ kb, kb = wr.heap.size := ⟨_, rfl⟩
            have K3 := Lib.hid (And.intro (show TkAt J s sb tb k ⟨0, [], p⟩ _ _ from ⟨HJ.out.1 _ _ _ _ _ hK.j (T0.mono (by simp)), hK.box.turn T0 (by simp), hK.tok.turn T0 (by simp)⟩) (show Box1 _ (gj.ext wr.heap.size 500) kb 193 500 #[.int .u8 3, .func (.func 164) #[] #[]] by rw [hkb]; exact Box1.alloc wr gj _ 500 _))
            have htk : tb ≠ kb ∧ kb ≠ tb := by have := hK.tok.lt; omega
            have hst : sb ≠ tb ∧ tb ≠ sb := by have h1 := hK.box.2; have h2 := hK.tok.2; exact ⟨fun e => by rw [e, h2] at h1; omega, fun e => by rw [← e, h2] at h1; omega⟩
            have HNE := Lib.hid (And.intro htk hst)
            clear hK T0 htk hst
            go_wp2_with fail
            rw [← hkb] at K3 ⊢
            clear hkb
            generalize wr.alloc (.cells #[.int .u8 3, .func (.func 164) #[] #[]] 193) = w3 at K3 ⊢
            have c1 : w3.cell? ⟨kb, 1, none⟩ = some (.func (.func 164) #[] #[]) := (K3.out.2.cell 1).1
            have c0 : w3.cell? ⟨sb, 0, none⟩ = some (.string (bs s)) := (K3.out.1.box.cell 0).1
            go_still_tail 5, (by kernel_rfl)
            change wpList _ _ _ _ _ w3.drew
            have D3 := Turn.drew w3 (gj.ext kb 500)
            have K4 := Lib.hid (And.intro (K3.out.1.turn0 HJ.out.1 D3) (K3.out.2.turn D3 (by simp)))
            clear D3 K3 c1 c0 hsl
            generalize w3.drew = w4 at K4 ⊢
            go_wp2_with fail
            rw [← HL.out]
            refine sign_b l0 (by omega) fun w5 hB => ?_
            have T5 := Turn.of_below hB (gj.ext kb 500) 500
            have K5 := Lib.hid (And.intro (K4.out.1.turn0 HJ.out.1 T5) (K4.out.2.turn T5 (by simp)))
            clear hB T5 K4
            obtain ⟨n, hn⟩ : ∃ n, n = To.sign l0 := ⟨_, rfl⟩
            rw [← hn]
            have HN := Lib.hid hn
            have hnl := To.sign_le l0
            rw [← hn] at hnl
            clear hn
            by_cases hpos : 0 < n
            · have hp1 : (0 : Int) < (n : Int) := by omega
              have hp2 : (p : Int) + (n : Int) ≤ 1000000 := by have := congrArg List.length HL.out; rw [List.length_drop] at this; omega
              have c1 : w5.cell? ⟨kb, 0, none⟩ = some (.int .u8 3) := (K5.out.2.cell 0).1
              have c0 : w5.cell? ⟨sb, 0, none⟩ = some (.string (bs s)) := (K5.out.1.box.cell 0).1
              have t0 : w5.cell? ⟨tb, 0, none⟩ = some (.int .u8 0) := (K5.out.1.tok.cell 0).1
              have t1 : w5.cell? ⟨tb, 1, none⟩ = some (.string (bs [])) := (K5.out.1.tok.cell 1).1
              have f0 := (K5.out.1.tok.cell 0).2
              have f1 := (K5.out.1.tok.cell 1).2
              have hsl := sl_pn s l0 p n HL.out (by have := congrArg List.length HL.out; rw [List.length_drop] at this; omega)
              have hwr : IntKind.i64.wrap ((p : Int) + (n : Int)) = (p : Int) + (n : Int) := IntWalk.i64_in _ (by omega)
              obtain ⟨⟨e1, e2⟩, ⟨e3, e4⟩⟩ := HNE.out
              have HP := Lib.hid hpos
              clear hpos
              go_wp2_with fail
              go_region
              all_goals
                go_wp2_with fail
                go_meet
                case rel => exact found_at (kd := 3) (n := n) (by unfold To.tok; rw [← HN.out, if_neg (by have := HZ.out.1 (by omega); omega), if_neg (by have := HZ.out.2 (by omega); omega), if_pos HP.out]) (tk_set K5.out.1 HJ.out.1 3 (l0.take n))
            · have hp1 : (n : Int) = 0 := by omega
              go_wp2_with fail
              go_roundg 0
              case measure => omega
              case rel => exact ⟨3, _, by omega, rfl, rfl, fun _ => HZ.out.1 (by omega), fun _ => HZ.out.2 (by omega), fun _ => by rw [← HN.out]; omega, K5.out.1⟩
          · have hz := Lib.hid (show (To.tok l0).1 = 0 by unfold To.tok; rw [if_neg (by have := hj1 (by omega); omega), if_neg (by have := hj2 (by omega); omega), if_neg (by have := hj3 (by omega); omega)])
            clear hj1 hj2 hj3
            go_wp2_with fail
            go_meet
            case rel => exact ⟨gj, by rw [if_pos hz.out]; exact hK⟩
      case rest =>
        obtain ⟨g3, hT⟩ := hcut
        have HT := Lib.hid hT
        have hne : l0 ≠ [] := by intro e; have := congrArg List.length HL.out; rw [e, List.length_drop, List.length_nil] at this; omega
        have HNE := Lib.hid hne
        clear hT K2 hne
        by_cases hz : (To.tok l0).1 = 0
        · have HT2 := Lib.hid (show TkAt J s sb tb k ⟨0, [], p⟩ _ g3 by have := HT.out; rw [if_pos hz] at this; exact this)
          have hb := To.step_bad (To.all s) HL.out HNE.out hz HX.out.2.1 HX.out.1
          have HB := Lib.hid hb
          have t0 : wc.cell? ⟨tb, 0, none⟩ = some (.int .u8 0) := (HT2.out.tok.cell 0).1
          have t1 : wc.cell? ⟨tb, 1, none⟩ = some (.string (bs [])) := (HT2.out.tok.cell 1).1
          have t2 : wc.cell? ⟨tb, 2, none⟩ = some (.int .i64 (p : Int)) := (HT2.out.tok.cell 2).1
          have hYk := HJ.out.2.2.1 p wc g3 hb.2 (hb.1 ▸ HT2.out.j)
          clear HT hz hb
          go_upto_region 11 with fail
          refine (wpIn_wide (n := 5)).1 ?_
          obtain ⟨fn, tmps, assign, body, hy, hR⟩ := hYk
          have hy : (Instr.yield l #[.agg #[.int .u8 0, .string (bs []), .int .i64 (p : Int)]]).run Tryz.prog wc = .ok (.round l fn tmps assign body) wc := hy
          gi_wp2
          refine hR.mono ?_
          rintro e W' ⟨rfl, hJx⟩
          have hRR := Lib.hid (HJ.out.2.2.2.2 p W' HB.out.2 hJx)
          clear hJx hR hy
          gi_wp2
          go_wp2_with fail
          refine bodyPost_ret (results_none rfl _ _ _) rfl ?_
          exact ⟨⟨_, rfl⟩, hRR.out⟩
        · obtain ⟨kd, hkd⟩ : ∃ kd, kd = (To.tok l0).1 := ⟨_, rfl⟩
          obtain ⟨n, hn⟩ : ∃ n, n = (To.tok l0).2 := ⟨_, rfl⟩
          have HT2 := Lib.hid (show TkAt J s sb tb k ⟨kd, l0.take n, p⟩ _ g3 by have := HT.out; rw [if_neg hz] at this; rw [hkd, hn]; exact this)
          have hst := To.step_tok (To.all s) HL.out HNE.out hz HX.out.1
          have hnl := To.tok_le l0
          have hnp := To.tok_pos l0 hz
          rw [← hn] at hnl hnp
          rw [← hkd, ← hn] at hst
          obtain ⟨m, hm⟩ : ∃ m, m = To.sil false (l0.drop n) := ⟨_, rfl⟩
          have hml := To.sil_le (l0.drop n) false
          rw [← hm] at hml hst
          have hll2 := congrArg List.length HL.out
          rw [List.length_drop] at hml hll2
          have hpn : p + n + m ≤ s.length := by omega
          obtain ⟨hk2, hA, hsc2⟩ := hst
          have HZ := Lib.hid (And.intro hm (And.intro hsc2 (And.intro hk2 (And.intro hpn hnp))))
          have t0 : wc.cell? ⟨tb, 0, none⟩ = some (.int .u8 (kd : Int)) := (HT2.out.tok.cell 0).1
          have t1 : wc.cell? ⟨tb, 1, none⟩ = some (.string (bs (l0.take n))) := (HT2.out.tok.cell 1).1
          have t2 : wc.cell? ⟨tb, 2, none⟩ = some (.int .i64 (p : Int)) := (HT2.out.tok.cell 2).1
          have hYk := HJ.out.2.1 k wc g3 hk2 HT2.out.j
          rw [hA] at hYk
          have hs3 : (bs (l0.take n)).size = n := by rw [bs_size, List.length_take]; omega
          have hpn1 : (p : Int) + (n : Int) ≤ (s.length : Int) := by omega
          have hpn2 : (p : Int) + (n : Int) + (m : Int) ≤ (s.length : Int) := by omega
          have hsl := sl_s s .i64 (p + n) (z := (p : Int) + (n : Int)) (by omega) (by omega)
          have hdd : s.drop (p + n) = l0.drop n := by rw [HL.out, List.drop_drop]
          rw [hdd] at hsl
          clear HT hz hkd hn hm hml hll2 hA hsc2 hk2 hpn hnp hnl hdd
          go_upto_region 11 with fail
          refine (wpIn_wide (n := 5)).1 ?_
          obtain ⟨fn, tmps, assign, body, hy, hR⟩ := hYk
          have hy : (Instr.yield l #[.agg #[.int .u8 (kd : Int), .string (bs (l0.take n)), .int .i64 (p : Int)]]).run Tryz.prog wc = .ok (.round l fn tmps assign body) wc := hy
          gi_wp2
          refine hR.mono ?_
          rintro e W' ⟨g4, rfl, hJ4, hT4⟩
          have hbx := HT2.out.box.turn hT4 h5.2
          have htk := HT2.out.tok.turn hT4 h5.1
          have K5 := Lib.hid (And.intro hJ4 hbx)
          clear hR hy t0 t1 t2 hJ4 hT4
          have t1 : W'.cell? ⟨tb, 1, none⟩ = some (.string (bs (l0.take n))) := (htk.cell 1).1
          have c0 : W'.cell? ⟨sb, 0, none⟩ = some (.string (bs s)) := (hbx.cell 0).1
          clear hbx htk
          gi_wp2
          go_wp2_with fail
          refine silence_t (l0.drop n) (by rw [List.length_drop]; omega) fun w7 hB7 => ?_
          rw [← HZ.out.1]
          have T7 := Turn.of_below hB7 g4 500
          have K7 := Lib.hid (And.intro (HJ.out.1 _ _ _ _ _ K5.out.1 (T7.mono (by simp))) (K5.out.2.turn T7 (by simp)))
          go_wp2_with fail
          go_roundg (s.length - (p + n + m))
          case measure => have := HZ.out.2.2.2; omega
          case rel => exact ⟨k + 1, p + n + m, _, HZ.out.2.2.2.1, rfl, by go_num, HZ.out.2.1, HZ.out.2.2.1, K7.out.1, K7.out.2⟩
    · obtain rfl : p = s.length := by omega
      have hsc := HX.out.1
      rw [List.drop_length, To.scan'_nil] at hsc
      simp only [Prod.mk.injEq] at hsc
      have hkl : k = (To.all s).1.length := by
        have h1 := congrArg List.length hsc.1
        rw [List.length_drop] at h1
        have := HX.out.2.1
        simp at h1; omega
      have hR := Lib.hid (HJ.out.2.2.2.1 wr gr hsc.2.symm (hkl ▸ HX.out.2.2.1))
      clear hsc hkl
      go_wp2_with fail
      go_end0
      exact ⟨⟨_, rfl⟩, hR.out⟩
end Go.Proofs.YtmkhfonafcikdaaGreatDoor

/- Tokens: Read. -/
namespace Go.To
theorem scan_len : ∀ (f p : Nat) (l : List UInt8), (scan f p l).1.length ≤ l.length := by
  intro f
  induction f with
  | zero => intro p l; exact Nat.zero_le _
  | succ f ih =>
    intro p l
    rw [scan]
    split
    · exact Nat.zero_le _
    · split
      · exact Nat.zero_le _
      · rename_i h0 h1
        have hp := tok_pos l h1
        have hl : 0 < l.length := by cases l with | nil => exact absurd rfl h0 | cons _ _ => simp
        have := ih (p + (tok l).2 + sil false (l.drop (tok l).2)) ((l.drop (tok l).2).drop (sil false (l.drop (tok l).2)))
        rw [List.length_drop, List.length_drop] at this
        rw [List.length_cons]
        omega
theorem all_len (s : List UInt8) : (all s).1.length ≤ s.length := by
  have := scan_len (s.length + 1) (sil false s) (s.drop (sil false s))
  rw [List.length_drop] at this
  exact Nat.le_trans this (Nat.sub_le _ _)
theorem scan_kind : ∀ (f p : Nat) (l : List UInt8) (x : T), x ∈ (scan f p l).1 → 0 < x.kind ∧ x.kind ≤ 3 := by
  intro f
  induction f with
  | zero => intro p l x h; cases h
  | succ f ih =>
    intro p l x h
    rw [scan] at h
    split at h
    · cases h
    · split at h
      · cases h
      · rename_i h1
        rcases List.mem_cons.1 h with rfl | h
        · exact ⟨Nat.pos_of_ne_zero h1, tok_kind l⟩
        · exact ih _ _ _ h
theorem all_kind (s : List UInt8) (x : T) (h : x ∈ (all s).1) : 0 < x.kind ∧ x.kind ≤ 3 := scan_kind _ _ _ _ h
end Go.To
namespace Go.Proofs.YtmkhfonafcikdaaGreatDoor
open Go.RowKit Go.My
attribute [local go_sem] Oper.semAt_some

theorem fresh_since {w w' : World} {g0 : Tags} (g : Tags) (t : Nat) {τ : Nat} (hτ : τ ≠ 0) {e : TypeId} {size : Nat} {v : Value} {n : Nat} {xs : List Value} (hS : Since w w' g0) (hO : Owns w' g0 τ e size v n xs) :
    Turn w g w' (g.ext w.heap.size t) [] ∧ Owns w' (g.ext w.heap.size t) t e size v n xs := by
  refine ⟨Turn.of_below hS.below g t, ?_⟩
  obtain ⟨k, ho, hk⟩ := hO
  refine ⟨k, ho, fun b hb => Tags.ext_new _ _ _ _ ?_⟩
  rcases Nat.lt_or_ge b w.heap.size with h | h
  · have h1 := hS.zero b h
    rw [hk b hb] at h1
    exact absurd h1 hτ
  · exact h

/-- All tokens' cells. -/
def tokRow (xs : List To.T) : List Value := xs.flatMap fun x => (tokCells x).toList
theorem tokElem : Elem Tryz.prog 118 122 3 32 (.agg #[.int .u8 0, .string ⟨#[]⟩, .int .i64 0]) := Elem.mk' Tryz.underlying118 (by kernel_rfl) rfl (by decide)
theorem tok_one (x : To.T) : ∀ u ∈ (tokCells x).toList, u.oneCell' = true := by
  intro u hu
  simp [tokCells] at hu
  rcases hu with rfl | rfl | rfl <;> rfl
theorem tokRow_step (A : List To.T) (k : Nat) (hk : k < A.length) : tokRow (A.take (k + 1)) = tokRow (A.take k) ++ (tokCells A[k]).toList := by
  unfold tokRow
  rw [List.take_succ_eq_append_getElem hk, List.flatMap_append]
  simp

theorem all_t {w : World} (s : List UInt8) {Q : Ending → World → Prop} (h : Q (.returned (.func (.func 176) #[] #[.pointer (some ⟨w.heap.size, 0, none⟩)])) (w.alloc (.cells #[.string (bs s)] 9))) :
    Calls Tryz.prog 156 #[.string (bs s)] w Q := by
  have H := Lib.hid h
  clear h
  go_enter Tryz.func156, Tryz.ntmps156
  go_wp2_with fail
  exact H.out

theorem run_var {P : Program} (w : World) {ty : TypeId} {d : TypeDesc} (hu : P.underlying ty = some d) (hd : (match d with | .struct _ | .array _ _ => true | _ => false) = false) {a : Addr} {v : Value} (hc : w.cell? a = some v) : (loadVar ty a).run P w = .ok v w := by
  have hagg : (isAgg ty).run P w = .ok false w := by
    unfold isAgg
    rw [Sem.run_bind, run_underlying hu w]
    cases d <;> simp_all
  simp [loadVar, Sem.run_bind, hagg, Result.andThen, hc]

theorem results_cell3 {fn : Func} {p q u : Tmp} {tp tq tu : TypeId} (h : fn.results = #[.cell p tp, .cell q tq, .cell u tu]) (tmps : Array Value) (P : Program) (w : World) {a b c : Addr} {va vb vc : Value}
    (ea : tmps.getD p undef = .pointer (some a)) (eb : tmps.getD q undef = .pointer (some b)) (ec : tmps.getD u undef = .pointer (some c))
    (ra : (loadVar tp a).run P w = .ok va w) (rb : (loadVar tq b).run P w = .ok vb w) (rc : (loadVar tu c).run P w = .ok vc w) : (results fn tmps).run P w = .ok (.tuple #[va, vb, vc]) w := by
  have ea' : tmps[p]?.getD undef = .pointer (some a) := by simpa using ea
  have eb' : tmps[q]?.getD undef = .pointer (some b) := by simpa using eb
  have ec' : tmps[u]?.getD undef = .pointer (some c) := by simpa using ec
  simp [results, h, ea', eb', ec', asAddr, Sem.run_bind, Result.andThen, ra, rb, rc]

/-- What Read gives, out of its three cells. -/
theorem read_out {w : World} {tmps : Array Value} {r0 r1 r2 : Nat} {v : Value} {p e : Int} (e0 : tmps.getD 2 undef = .pointer (some ⟨r0, 0, none⟩)) (e1 : tmps.getD 3 undef = .pointer (some ⟨r1, 0, none⟩)) (e2 : tmps.getD 4 undef = .pointer (some ⟨r2, 0, none⟩))
    (c0 : w.cell? ⟨r0, 0, none⟩ = some v) (c1 : w.cell? ⟨r1, 0, none⟩ = some (.int .i64 p)) (c2 : w.cell? ⟨r2, 0, none⟩ = some (.int .i64 e)) :
    (results Tryz.f137 tmps).run Tryz.prog w = .ok (.tuple #[v, .int .i64 p, .int .i64 e]) w :=
  results_cell3 rfl tmps Tryz.prog w e0 e1 e2 (run_var w Tryz.underlying118 rfl c0) (run_var w Tryz.underlying3 rfl c1) (run_var w Tryz.underlying28 rfl c2)

/-- Between two rounds. -/
structure RdAt (w0 : World) (A : List To.T) (l D r0 r1 r2 : Nat) (r : Loop) (k : Nat) (W : World) (g : Tags) : Prop where
  since : Since w0 W g
  loop : Blk W g l 510 (.loop r)
  mark : Blk W g D 511 (.deferred (some []))
  toks : ∃ v, Box1 W g r0 118 512 #[v] ∧ Owns W g 515 122 3 v k (tokRow (A.take k))
  at_ : Box1 W g r1 3 513 #[.int .i64 0]
  err : Box1 W g r2 28 514 #[.int .i64 0]

theorem RdAt.turn {w0 : World} {A : List To.T} {l D r0 r1 r2 : Nat} {r : Loop} {k : Nat} {W W' : World} {g g' : Tags} (h : RdAt w0 A l D r0 r1 r2 r k W g) {t : Nat} (T : Turn W g W' g' [t]) (ht : t = 500 ∨ t = 516 ∨ t = 517) : RdAt w0 A l D r0 r1 r2 r k W' g' := by
  obtain ⟨v, h1, h2⟩ := h.toks
  exact ⟨h.since.turn T (by simp; omega), h.loop.turn T (by simp; omega), h.mark.turn T (by simp; omega), ⟨v, h1.turn T (by simp; omega), h2.turn T (by simp; omega)⟩, h.at_.turn T (by simp; omega), h.err.turn T (by simp; omega)⟩

theorem RdAt.put {w0 : World} {A : List To.T} {l D r0 r1 r2 : Nat} {r : Loop} {k : Nat} {W : World} {g : Tags} (h : RdAt w0 A l D r0 r1 r2 r k W g) (r' : Loop) :
    Turn W g (W.putObj l (.loop r')) g [510] ∧ RdAt w0 A l D r0 r1 r2 r' k (W.putObj l (.loop r')) g := by
  obtain ⟨T, B⟩ := h.loop.put (.loop r')
  obtain ⟨v, h1, h2⟩ := h.toks
  exact ⟨T, h.since.turn T (by decide), B, h.mark.turn T (by decide), ⟨v, h1.turn T (by decide), h2.turn T (by decide)⟩, h.at_.turn T (by decide), h.err.turn T (by decide)⟩

theorem RdAt.next {w0 : World} {A : List To.T} {l D r0 r1 r2 : Nat} {rb : Loop} {k : Nat} {W : World} {g : Tags} (h : RdAt w0 A l D r0 r1 r2 rb k W g) (hk : k < A.length) (r : Loop) {o : Obj} {w7 : World} {g7 : Tags} {ao : Option Addr} {cap : Nat}
    (hO : Owns w7 g7 515 122 3 (.slice ao (k + 1) cap) (k + 1) (tokRow (A.take k) ++ (tokCells A[k]).toList)) (hT : Turn (W.alloc o) (g.ext W.heap.size 517) w7 g7 [515]) :
    Blk (w7.setCell ⟨r0, 0, none⟩ (.slice ao (k + 1) cap)) g7 l 510 (.loop rb) ∧ RdAt w0 A l D r0 r1 r2 r (k + 1) ((w7.setCell ⟨r0, 0, none⟩ (.slice ao (k + 1) cap)).putObj l (.loop r)) g7 ∧
      Turn W g ((w7.setCell ⟨r0, 0, none⟩ (.slice ao (k + 1) cap)).putObj l (.loop r)) g7 [510, 512, 515] := by
  have T0 := Turn.alloc W g 517 o
  have T1 := T0.trans hT (V := [515]) (by simp) (by simp)
  obtain ⟨v, h1, h2⟩ := h.toks
  have b0 := h1.turn T1 (by decide)
  obtain ⟨T2, b0'⟩ := b0.store 0 (.slice ao (k + 1) cap)
  have T3 := T1.trans T2 (V := [512, 515]) (by simp) (by simp)
  have hl := h.loop.turn T3 (by decide)
  obtain ⟨T4, hl'⟩ := hl.put (.loop r)
  have T5 := T3.trans T4 (V := [510, 512, 515]) (by simp) (by simp)
  refine ⟨hl, ⟨h.since.turn T5 (by decide), hl', h.mark.turn T5 (by decide), ⟨_, b0'.turn T4 (by decide), ?_⟩, h.at_.turn T5 (by decide), h.err.turn T5 (by decide)⟩, T5⟩
  rw [tokRow_step A k hk]
  exact (hO.turn T2 (by decide)).turn T4 (by decide)

/-- Behind the bad token's round. -/
structure BadAt (w0 : World) (l D r0 r1 r2 : Nat) (r : Loop) (p : Nat) (W : World) (g : Tags) : Prop where
  since : Since w0 W g
  loop : Blk W g l 510 (.loop r)
  mark : Blk W g D 511 (.deferred (some []))
  toks : Box1 W g r0 118 512 #[.slice none 0 0]
  at_ : Box1 W g r1 3 513 #[.int .i64 (p : Int)]
  err : Box1 W g r2 28 514 #[.int .i64 4]

theorem RdAt.bad {w0 : World} {A : List To.T} {l D r0 r1 r2 : Nat} {rb : Loop} {k : Nat} {W : World} {g : Tags} (h : RdAt w0 A l D r0 r1 r2 rb k W g) (p : Nat) :
    ∃ T, 510 ∉ T ∧ 511 ∉ T ∧ 0 ∉ T ∧ Turn W g (((W.setCell ⟨r0, 0, none⟩ (.slice none 0 0)).setCell ⟨r1, 0, none⟩ (.int .i64 (p : Int))).setCell ⟨r2, 0, none⟩ (.int .i64 4)).drew g T ∧
      BadAt w0 l D r0 r1 r2 rb p (((W.setCell ⟨r0, 0, none⟩ (.slice none 0 0)).setCell ⟨r1, 0, none⟩ (.int .i64 (p : Int))).setCell ⟨r2, 0, none⟩ (.int .i64 4)).drew g := by
  obtain ⟨v, h1, h2⟩ := h.toks
  obtain ⟨T1, b0⟩ := h1.store 0 (.slice none 0 0)
  obtain ⟨T2, b1⟩ := (h.at_.turn T1 (by decide)).store 0 (.int .i64 (p : Int))
  have b2 := (h.err.turn T1 (by decide)).turn T2 (by decide)
  obtain ⟨T3, b2⟩ := b2.store 0 (.int .i64 4)
  have T4 := Turn.drew (((W.setCell ⟨r0, 0, none⟩ (.slice none 0 0)).setCell ⟨r1, 0, none⟩ (.int .i64 (p : Int))).setCell ⟨r2, 0, none⟩ (.int .i64 4)) g
  have T := ((T1.trans T2 (V := [512, 513]) (by simp) (by simp)).trans T3 (V := [512, 513, 514]) (by simp) (by simp)).trans T4 (V := [512, 513, 514]) (by simp) (by simp)
  exact ⟨[512, 513, 514], by decide, by decide, by decide, T, h.since.turn T (by decide), h.loop.turn T (by decide), h.mark.turn T (by decide), ((b0.turn T2 (by decide)).turn T3 (by decide)).turn T4 (by decide), (b1.turn T3 (by decide)).turn T4 (by decide), b2.turn T4 (by decide)⟩

theorem BadAt.put {w0 : World} {l D r0 r1 r2 : Nat} {r : Loop} {p : Nat} {W : World} {g : Tags} (h : BadAt w0 l D r0 r1 r2 r p W g) (r' : Loop) : BadAt w0 l D r0 r1 r2 r' p (W.putObj l (.loop r')) g := by
  obtain ⟨T, B⟩ := h.loop.put (.loop r')
  exact ⟨h.since.turn T (by decide), B, h.mark.turn T (by decide), h.toks.turn T (by decide), h.at_.turn T (by decide), h.err.turn T (by decide)⟩

theorem start_t {w0 W : World} {g : Tags} {r0 r1 r2 sb : Nat} {s : Value} (hS : Since w0 W g) (b0 : Box1 W g r0 118 512 #[.slice none 0 0]) (b1 : Box1 W g r1 3 513 #[.int .i64 0]) (b2 : Box1 W g r2 28 514 #[.int .i64 0])
    (bx : Box1 W g sb 9 501 #[s]) (A : List To.T) (r : Loop) : ∃ g', RdAt w0 A (W.heap.size + 1) W.heap.size r0 r1 r2 r 0 ((W.alloc (.deferred (some []))).alloc (.loop r)) g' ∧ Box1 ((W.alloc (.deferred (some []))).alloc (.loop r)) g' sb 9 501 #[s] := by
  have T0 := Turn.alloc W g 511 (.deferred (some []))
  have d0 := Blk.alloc W g 511 (.deferred (some []))
  generalize g.ext W.heap.size 511 = g0 at T0 d0
  have z0 : (W.alloc (.deferred (some []))).heap.size = W.heap.size + 1 := World.size_alloc _ _
  generalize W.alloc (.deferred (some [])) = W0 at *
  have T1 := Turn.alloc W0 g0 510 (.loop r)
  have l0 := Blk.alloc W0 g0 510 (.loop r)
  rw [z0] at T1 l0
  have T := T0.trans T1 (V := []) (by simp) (by simp)
  exact ⟨_, ⟨hS.turn T (by simp), l0, d0.turn T1 (by simp), ⟨_, b0.turn T (by simp), Owns.nil _ _ _ _ _⟩, b1.turn T (by simp), b2.turn T (by simp)⟩, bx.turn T (by simp)⟩

theorem RdAt.done {w0 : World} {A : List To.T} {l D r0 r1 r2 : Nat} {r : Loop} {k : Nat} {W : World} {g : Tags} (h : RdAt w0 A l D r0 r1 r2 r k W g) {v : Value} (hb : Box1 W g r0 118 512 #[v]) (ho : Owns W g 515 122 3 v k (tokRow (A.take k))) {W' : World}
    (hW : W' = ((W.setCell ⟨r0, 0, none⟩ v).setCell ⟨r1, 0, none⟩ (.int .i64 0)).setCell ⟨r2, 0, none⟩ (.int .i64 0)) :
    W'.heap[D]? = some (.deferred (some [])) ∧ Since w0 (W'.putObj D (.deferred none)) g ∧ Box1 (W'.putObj D (.deferred none)) g r0 118 512 #[v] ∧ Owns (W'.putObj D (.deferred none)) g 515 122 3 v k (tokRow (A.take k)) ∧
      Box1 (W'.putObj D (.deferred none)) g r1 3 513 #[.int .i64 0] ∧ Box1 (W'.putObj D (.deferred none)) g r2 28 514 #[.int .i64 0] := by
  obtain ⟨T1, b0⟩ := hb.store 0 v
  obtain ⟨T2, b1⟩ := (h.at_.turn T1 (by decide)).store 0 (.int .i64 0)
  have b2 := (h.err.turn T1 (by decide)).turn T2 (by decide)
  obtain ⟨T3, b2⟩ := b2.store 0 (.int .i64 0)
  rw [← hW] at T3 b2
  have T := (T1.trans T2 (V := [512, 513]) (by simp) (by simp)).trans T3 (V := [512, 513, 514]) (by simp) (by simp)
  have hD := h.mark.turn T (by decide)
  obtain ⟨T4, _⟩ := hD.put (.deferred none)
  exact ⟨hD.1, (h.since.turn T (by decide)).turn T4 (by decide), ((b0.turn T2 (by decide)).turn T3 (by decide)).turn T4 (by decide), (ho.turn T (by decide)).turn T4 (by decide), (b1.turn T3 (by decide)).turn T4 (by decide), b2.turn T4 (by decide)⟩

theorem three (w : World) (v : Value) (p e : Int) : ∃ g', Since w (((w.alloc (.cells #[v] 118)).alloc (.cells #[.int .i64 p] 3)).alloc (.cells #[.int .i64 e] 28)) g' ∧
    Box1 (((w.alloc (.cells #[v] 118)).alloc (.cells #[.int .i64 p] 3)).alloc (.cells #[.int .i64 e] 28)) g' w.heap.size 118 512 #[v] ∧
    Box1 (((w.alloc (.cells #[v] 118)).alloc (.cells #[.int .i64 p] 3)).alloc (.cells #[.int .i64 e] 28)) g' (w.heap.size + 1) 3 513 #[.int .i64 p] ∧
    Box1 (((w.alloc (.cells #[v] 118)).alloc (.cells #[.int .i64 p] 3)).alloc (.cells #[.int .i64 e] 28)) g' (w.heap.size + 1 + 1) 28 514 #[.int .i64 e] := by
  have T0 := Turn.alloc w (fun _ => 0) 512 (.cells #[v] 118)
  have b0 := Box1.alloc w (fun _ => 0) 118 512 #[v]
  have S0 := (Since.start w).turn T0 (by simp)
  generalize Tags.ext (fun _ => 0) w.heap.size 512 = g0 at T0 b0 S0
  have z0 : (w.alloc (.cells #[v] 118)).heap.size = w.heap.size + 1 := World.size_alloc _ _
  generalize w.alloc (.cells #[v] 118) = W0 at *
  have T1 := Turn.alloc W0 g0 513 (.cells #[.int .i64 p] 3)
  have b1 := Box1.alloc W0 g0 3 513 #[.int .i64 p]
  have b0' := b0.turn T1 (by simp)
  have S1 := S0.turn T1 (by simp)
  rw [z0] at b1
  have z1 : (W0.alloc (.cells #[.int .i64 p] 3)).heap.size = w.heap.size + 1 + 1 := by rw [World.size_alloc, z0]
  rw [z0] at T1 b0' S1
  generalize g0.ext (w.heap.size + 1) 513 = g1 at *
  generalize W0.alloc (.cells #[.int .i64 p] 3) = W1 at *
  have T2 := Turn.alloc W1 g1 514 (.cells #[.int .i64 e] 28)
  have b2 := Box1.alloc W1 g1 28 514 #[.int .i64 e]
  have b0'' := b0'.turn T2 (by simp)
  have b1' := b1.turn T2 (by simp)
  have S2 := S1.turn T2 (by simp)
  rw [z1] at b2 b0'' b1' S2
  exact ⟨_, S2, b0'', b1', b2⟩

set_option maxRecDepth 100000 in
set_option maxHeartbeats 8000000 in
theorem read_t {w : World} (g : Tags) (t : Nat) (s : List UInt8) {Q : Ending → World → Prop}
    (h : ∀ v w' g', Turn w g w' g' [] → Owns w' g' t 122 3 v (To.read s).1.length (tokRow (To.read s).1) → Q (.returned (.tuple #[v, .int .i64 ((To.read s).2.1 : Int), .int .i64 ((To.read s).2.2 : Int)])) w') :
    Calls Tryz.prog 137 #[.string (bs s)] w Q := by
  have H := Lib.hid h
  have hs1 := bs_size s
  clear h
  refine (callsIn_wide (n := 5)).1 (callsIn_of_wp_marks Tryz.func137 rfl trivial ?_ rfl)
  simp only [Tryz.ntmps137, List.size_toArray, List.length_cons, List.length_nil, Nat.reduceAdd, Nat.reduceSub, Array.replicate_succ, Array.replicate_zero, List.push_toArray, List.append_toArray, List.nil_append, List.cons_append]
  refine wpIn_wide.2 ?_
  by_cases hlong : 65536 < s.length
  · have hl1 : (65536 : Int) < (s.length : Int) := by omega
    go_wp2_with fail
    obtain ⟨g3, hS, b0, b1, b2⟩ := three w (.slice none 0 0) 0 3
    have hr : To.read s = ([], 0, 3) := by unfold To.read; rw [if_pos hlong]
    generalize ((w.alloc (.cells #[.slice none 0 0] 118)).alloc (.cells #[.int .i64 0] 3)).alloc (.cells #[.int .i64 3] 28) = Z at *
    have h1 := H.out (.slice none 0 0) Z (g.ext w.heap.size 0) (Turn.of_below hS.below g 0)
    rw [hr] at h1
    have h2 : Q (.returned (.tuple #[.slice none 0 0, .int .i64 0, .int .i64 3])) Z := h1 (Owns.nil _ _ _ _ _)
    exact ⟨_, read_out rfl rfl rfl (b0.cell 0).1 (b1.cell 0).1 (b2.cell 0).1, h2⟩
  · have hl1 : (s.length : Int) ≤ 65536 := by omega
    have hs : s.length ≤ 1000000 := by omega
    go_wp2_with fail
    refine all_t s ?_
    go_wp2_with fail
    obtain ⟨g3, hS, b0, b1, b2⟩ := three w (.slice none 0 0) 0 0
    have hz : (((w.alloc (.cells #[.slice none 0 0] 118)).alloc (.cells #[.int .i64 0] 3)).alloc (.cells #[.int .i64 0] 28)).heap.size = w.heap.size + 1 + 1 + 1 := by simp
    generalize ((w.alloc (.cells #[.slice none 0 0] 118)).alloc (.cells #[.int .i64 0] 3)).alloc (.cells #[.int .i64 0] 28) = Z at *
    have T3 := Turn.alloc Z g3 501 (.cells #[.string (bs s)] 9)
    have bx := Box1.alloc Z g3 9 501 #[.string (bs s)]
    rw [hz] at T3 bx
    replace hS := hS.turn T3 (by decide)
    replace b0 := b0.turn T3 (by decide)
    replace b1 := b1.turn T3 (by decide)
    replace b2 := b2.turn T3 (by decide)
    clear T3 hz
    generalize g3.ext (w.heap.size + 1 + 1 + 1) 501 = g4 at *
    generalize Z.alloc (.cells #[.string (bs s)] 9) = W3 at *
    generalize w.heap.size = r0 at *
    refine wp_range2 rfl (enters_of Tryz.func176 (by kernel_rfl) rfl) fun r e1 e2 e3 e4 e5 e6 => ?_
    obtain ⟨g5, h0, hbx⟩ := start_t hS b0 b1 b2 bx (To.all s).1 r
    simp only [List.append_toArray, List.cons_append, List.nil_append]
    have HE := Lib.hid (And.intro e1 (And.intro e2 (And.intro e3 (And.intro e4 (And.intro e5 e6)))))
    clear hS b0 b1 b2 bx e1 e2 e3 e4 e5 e6
    generalize W3.heap.size = D at *
    generalize (W3.alloc (.deferred (some []))).alloc (.loop r) = W5 at *
    refine Calls.mono (all1_t s hs hbx (D + 1) (fun k W g => RdAt w (To.all s).1 (D + 1) D r0 (r0 + 1) (r0 + 1 + 1) r k W g) (fun W => ∃ p g, (To.all s).2 = some p ∧ BadAt w (D + 1) D r0 (r0 + 1) (r0 + 1 + 1) { r with state := .done, pending := some .ret } p W g)
      (fun W => ((To.all s).2 = none ∧ ∃ g, RdAt w (To.all s).1 (D + 1) D r0 (r0 + 1) (r0 + 1 + 1) r (To.all s).1.length W g) ∨ ∃ p g, (To.all s).2 = some p ∧ BadAt w (D + 1) D r0 (r0 + 1) (r0 + 1 + 1) { r with state := .done, pending := some .ret } p W g)
      [510, 512, 515] (by decide) (fun k W g W' g' h T => h.turn T (.inl rfl)) ?hY ?hX h0 (fun W g h1 h2 => .inl ⟨h1, g, h2⟩) (fun p W _ h => .inr h)) ?_
    case hY =>
      intro k W g6 hk hR
      have hm := To.all_kind s _ (List.getElem_mem hk)
      have hkl := To.all_len s
      generalize (To.all s).1 = A at *
      obtain ⟨kd, text, pos, hx⟩ : ∃ kd text pos, A[k] = ⟨kd, text, pos⟩ := ⟨_, _, _, rfl⟩
      rw [hx] at hm ⊢
      have hkd : (0 : Int) < (kd : Int) := by have := hm.1; simp at this; omega
      have hk5 : k + 1 ≤ 65536 := by omega
      refine yields_of hR.loop HE.out.1 HE.out.2.1 HE.out.2.2.1 HE.out.2.2.2.1 HE.out.2.2.2.2.1 HE.out.2.2.2.2.2 ?_
      simp only [tokVal]
      have T1 := Turn.alloc W g6 516 (.cells #[.int .u8 (kd : Int), .string (bs text), .int .i64 (pos : Int)] 122)
      have bt := Box1.alloc W g6 122 516 #[.int .u8 (kd : Int), .string (bs text), .int .i64 (pos : Int)]
      have hR1 := hR.turn (T1.mono (V := [516]) (by simp)) (.inr (.inl rfl))
      obtain ⟨tb, htb⟩ : ∃ tb, tb = W.heap.size := ⟨_, rfl⟩
      have HX := Lib.hid (And.intro T1 (And.intro bt hR1))
      clear T1 bt hR hR1 hm hl1 hlong
      gi_wp2
      refine ⟨⟨_, HX.out.2.2.loop⟩, ?_⟩
      obtain ⟨T2, hR2⟩ := HX.out.2.2.put { state := .busy, pending := r.pending, fn := r.fn, tmps := r.tmps, params := r.params, assign := r.assign, body := r.body, defers := r.defers }
      have bt2 := HX.out.2.1.turn T2 (by decide)
      have T3 := HX.out.1.trans T2 (V := [510]) (by simp) (by simp)
      rw [← htb] at bt2 ⊢
      have htl := bt2.lt
      clear T2 htb
      generalize (W.alloc (.cells #[.int .u8 (kd : Int), .string (bs text), .int .i64 (pos : Int)] 122)).putObj (D + 1) (.loop { state := .busy, pending := r.pending, fn := r.fn, tmps := r.tmps, params := r.params, assign := r.assign, body := r.body, defers := r.defers }) = W2 at *
      generalize g6.ext W.heap.size 516 = g7 at *
      clear HX
      obtain ⟨v, hb, ho⟩ := hR2.toks
      obtain ⟨ao, cap, rfl⟩ := ho.form
      have c0 : W2.cell? ⟨tb, 0, none⟩ = some (.int .u8 (kd : Int)) := (bt2.cell 0).1
      have c1 : W2.cell? ⟨tb, 1, none⟩ = some (.string (bs text)) := (bt2.cell 1).1
      have c2 : W2.cell? ⟨tb, 2, none⟩ = some (.int .i64 (pos : Int)) := (bt2.cell 2).1
      have c3 : W2.cell? ⟨r0, 0, none⟩ = some (.slice ao k cap) := (hb.cell 0).1
      have HB := Lib.hid (And.intro hb (And.intro ho (And.intro hR2 T3)))
      clear hb ho hR2 T3 bt2
      gi_wp2_with (gi_at_builtin; refine wpListIn_append_t _ rfl (.tmp 17) (.tmp 19) rfl tokElem (g := g7.ext W2.heap.size 517) (tg := 515) rfl (HB.out.2.1.turn (Turn.alloc W2 g7 517 _) (by decide)) rfl (Src.lit (n := 1) _ _ rfl rfl) (tok_one ⟨kd, text, pos⟩) (by unfold maxLen; omega) (by omega) ?_; intro ao7 cap7 w7 g8 O7 T7; have K7 := Lib.hid (And.intro O7 T7); have b7 := (HB.out.1.turn (Turn.alloc W2 g7 517 _) (by decide)).turn T7 (by decide); have d7 : w7.cell? ⟨r0, 0, none⟩ = some (.slice ao k cap) := (b7.cell 0).1; have e7 := (b7.cell 0).2; clear b7 O7 T7)
      obtain ⟨n1, n2, n3⟩ := HB.out.2.2.1.next hk r (by rw [hx]; exact K7.out.1) K7.out.2
      exact ⟨g8, n1, rfl, g8, n2, HB.out.2.2.2.trans n3 (by simp) (by simp)⟩
    case hX =>
      intro p W g6 hp hR
      have HP := Lib.hid hp
      generalize (To.all s).1 = A at *
      refine yields_of hR.loop HE.out.1 HE.out.2.1 HE.out.2.2.1 HE.out.2.2.2.1 HE.out.2.2.2.2.1 HE.out.2.2.2.2.2 ?_
      have hv : tokVal ⟨0, [], p⟩ = .agg #[.int .u8 0, .string (bs []), .int .i64 (p : Int)] := rfl
      rw [hv]
      have T1 := Turn.alloc W g6 516 (.cells #[.int .u8 0, .string (bs []), .int .i64 (p : Int)] 122)
      have bt := Box1.alloc W g6 122 516 #[.int .u8 0, .string (bs []), .int .i64 (p : Int)]
      have hR1 := hR.turn (T1.mono (V := [516]) (by simp)) (.inr (.inl rfl))
      obtain ⟨tb, htb⟩ : ∃ tb, tb = W.heap.size := ⟨_, rfl⟩
      have HX := Lib.hid (And.intro T1 (And.intro bt hR1))
      clear T1 bt hR hR1 hl1 hlong hv hp
      gi_wp2
      refine ⟨⟨_, HX.out.2.2.loop⟩, ?_⟩
      obtain ⟨T2, hR2⟩ := HX.out.2.2.put { state := .busy, pending := r.pending, fn := r.fn, tmps := r.tmps, params := r.params, assign := r.assign, body := r.body, defers := r.defers }
      have bt2 := HX.out.2.1.turn T2 (by decide)
      rw [← htb] at bt2 hR2 ⊢
      clear T2 htb
      generalize (W.alloc (.cells #[.int .u8 0, .string (bs []), .int .i64 (p : Int)] 122)).putObj (D + 1) (.loop { state := .busy, pending := r.pending, fn := r.fn, tmps := r.tmps, params := r.params, assign := r.assign, body := r.body, defers := r.defers }) = W2 at *
      generalize g6.ext tb 516 = g7 at *
      clear HX
      obtain ⟨v, hb, ho⟩ := hR2.toks
      obtain ⟨ao, cap, rfl⟩ := ho.form
      have c0 : W2.cell? ⟨tb, 0, none⟩ = some (.int .u8 0) := (bt2.cell 0).1
      have c1 : W2.cell? ⟨tb, 2, none⟩ = some (.int .i64 (p : Int)) := (bt2.cell 2).1
      have c3 : W2.cell? ⟨r0, 0, none⟩ = some (.slice ao A.length cap) := (hb.cell 0).1
      have c4 : W2.cell? ⟨r0 + 1, 0, none⟩ = some (.int .i64 0) := (hR2.at_.cell 0).1
      have c5 : W2.cell? ⟨r0 + 1 + 1, 0, none⟩ = some (.int .i64 0) := (hR2.err.cell 0).1
      have f3 := (hb.cell 0).2
      have f4 := (hR2.at_.cell 0).2
      have f5 := (hR2.err.cell 0).2
      have n1 : r0 ≠ r0 + 1 ∧ r0 + 1 ≠ r0 := by omega
      have n2 : r0 ≠ r0 + 1 + 1 ∧ r0 + 1 + 1 ≠ r0 := by omega
      have n3 : r0 + 1 ≠ r0 + 1 + 1 ∧ r0 + 1 + 1 ≠ r0 + 1 := by omega
      have n4 : tb ≠ r0 ∧ r0 ≠ tb := by have h1 := hb.2; have h2 := bt2.2; exact ⟨fun e => by rw [e, h1] at h2; omega, fun e => by rw [← e, h1] at h2; omega⟩
      have n5 : tb ≠ r0 + 1 ∧ r0 + 1 ≠ tb := by have h1 := hR2.at_.2; have h2 := bt2.2; exact ⟨fun e => by rw [e, h1] at h2; omega, fun e => by rw [← e, h1] at h2; omega⟩
      have n6 : tb ≠ r0 + 1 + 1 ∧ r0 + 1 + 1 ≠ tb := by have h1 := hR2.err.2; have h2 := bt2.2; exact ⟨fun e => by rw [e, h1] at h2; omega, fun e => by rw [← e, h1] at h2; omega⟩
      have HB := Lib.hid hR2
      clear hb ho hR2 bt2
      obtain ⟨n1, n1'⟩ := n1
      obtain ⟨n2, n2'⟩ := n2
      obtain ⟨n3, n3'⟩ := n3
      obtain ⟨n4, n4'⟩ := n4
      obtain ⟨n5, n5'⟩ := n5
      obtain ⟨n6, n6'⟩ := n6
      gi_wp2
      gi_region
      all_goals
        gi_wp2
        obtain ⟨T, q1, q2, q3, q4, q5⟩ := HB.out.bad p
        have q6 := q5.put { r with state := .done, pending := some .ret }
        exact ⟨g7, q5.loop, rfl, p, HP.out, g7, q6⟩
    rintro e W6 ⟨⟨v, rfl⟩, (⟨hn, g6, hR⟩ | ⟨p, g6, hp, hR⟩)⟩
    · have hend := run_endLoop (P := Tryz.prog) hR.loop.1 (by rw [HE.out.1]; simp)
      rw [HE.out.2.1] at hend
      refine ⟨none, _, hend, ?_⟩
      obtain ⟨T, hR2⟩ := hR.put { state := .exhausted, pending := none, fn := r.fn, tmps := r.tmps, params := r.params, assign := r.assign, body := r.body, defers := r.defers }
      clear hend hR T h0 hbx
      generalize W6.putObj (D + 1) (.loop { state := .exhausted, pending := none, fn := r.fn, tmps := r.tmps, params := r.params, assign := r.assign, body := r.body, defers := r.defers }) = W7 at *
      obtain ⟨v, hb, ho⟩ := hR2.toks
      obtain ⟨ao, cap, rfl⟩ := ho.form
      have HR := Lib.hid (And.intro hR2 (And.intro hb ho))
      have c0 : W7.cell? ⟨r0, 0, none⟩ = some (.slice ao (To.all s).1.length cap) := (hb.cell 0).1
      have c1 : W7.cell? ⟨r0 + 1, 0, none⟩ = some (.int .i64 0) := (hR2.at_.cell 0).1
      have c2 : W7.cell? ⟨r0 + 1 + 1, 0, none⟩ = some (.int .i64 0) := (hR2.err.cell 0).1
      have f0 := (hb.cell 0).2
      have f1 := (hR2.at_.cell 0).2
      have f2 := (hR2.err.cell 0).2
      have hr : To.read s = ((To.all s).1, 0, 0) := by unfold To.read; rw [if_neg hlong, hn]
      clear hR2 hb ho hn
      go_wp2_with fail
      obtain ⟨d1, d2, d3, d4, d5, d6⟩ := HR.out.1.done HR.out.2.1 HR.out.2.2 rfl
      refine ⟨by simp, .inl ⟨_, _, rfl, run_takeDeferred d1, ?_⟩⟩
      rw [List.take_length] at d4
      obtain ⟨k1, k2⟩ := fresh_since g t (by decide) d2 d4
      have h1 := H.out (.slice ao (To.all s).1.length cap) _ _ k1
      rw [hr] at h1
      have h2 := h1 k2
      exact ⟨_, read_out rfl rfl rfl (d3.cell 0).1 (d5.cell 0).1 (d6.cell 0).1, h2⟩
    · refine ⟨some .ret, _, run_endLoop (P := Tryz.prog) hR.loop.1 (by simp), ?_⟩
      have hR2 := hR.put { state := .exhausted, pending := some .ret, fn := r.fn, tmps := r.tmps, params := r.params, assign := r.assign, body := r.body, defers := r.defers }
      clear hR h0 hbx
      generalize W6.putObj (D + 1) (.loop { state := .exhausted, pending := some .ret, fn := r.fn, tmps := r.tmps, params := r.params, assign := r.assign, body := r.body, defers := r.defers }) = W7 at *
      have hr : To.read s = ([], p, 4) := by unfold To.read; rw [if_neg hlong, hp]
      show Code.wpIn _ _ _ _ _ _ _
      gi_wp2
      refine ⟨by simp, .inl ⟨_, _, rfl, run_takeDeferred hR2.mark.1, ?_⟩⟩
      obtain ⟨T, _⟩ := hR2.mark.put (.deferred none)
      have h1 := H.out (.slice none 0 0) _ _ (Turn.of_below (hR2.since.turn T (by decide)).below g t)
      rw [hr] at h1
      have h2 : Q (.returned (.tuple #[.slice none 0 0, .int .i64 (p : Int), .int .i64 4])) _ := h1 (Owns.nil _ _ _ _ _)
      exact ⟨_, read_out rfl rfl rfl ((hR2.toks.turn T (by decide)).cell 0).1 ((hR2.at_.turn T (by decide)).cell 0).1 ((hR2.err.turn T (by decide)).cell 0).1, h2⟩
end Go.Proofs.YtmkhfonafcikdaaGreatDoor

/- A slice of tokens: what it reads as. -/
namespace Go.Proofs.YtmkhfonafcikdaaGreatDoor
open Go.RowKit Go.My

/-- v reads as the tokens xs. -/
def Toks (w : World) (g : Tags) (t : Nat) (v : Value) (xs : List To.T) : Prop :=
  ∃ ao cap, v = .slice ao xs.length cap ∧ xs.length ≤ cap ∧ cap ≤ maxLen ∧
    (0 < xs.length → ∃ b off, ao = some ⟨b, off, none⟩ ∧ g b = t ∧ b < w.heap.size ∧ ∀ j (hj : j < xs.length),
      w.cell? ⟨b, off + j * 3, none⟩ = some (.int .u8 ((xs[j]).kind : Int)) ∧ w.cell? ⟨b, off + j * 3 + 1, none⟩ = some (.string (bs (xs[j]).text)) ∧ w.cell? ⟨b, off + j * 3 + 2, none⟩ = some (.int .i64 ((xs[j]).pos : Int)))

theorem Toks.turn {w w' : World} {g g' : Tags} {T : List Nat} {t : Nat} {v : Value} {xs : List To.T} (h : Toks w g t v xs) (k : Turn w g w' g' T) (ht : t ∉ T) : Toks w' g' t v xs := by
  obtain ⟨ao, cap, hv, h1, h2, h3⟩ := h
  refine ⟨ao, cap, hv, h1, h2, fun hl => ?_⟩
  obtain ⟨b, off, e, hg, hb, hc⟩ := h3 hl
  have hk := k.block b hb (by rw [hg]; exact ht)
  refine ⟨b, off, e, (k.old b hb).trans hg, Nat.lt_of_lt_of_le hb k.size, fun j hj => ?_⟩
  obtain ⟨c0, c1, c2⟩ := hc j hj
  exact ⟨(World.cell?_of_block hk).trans c0, (World.cell?_of_block hk).trans c1, (World.cell?_of_block hk).trans c2⟩

theorem tokRow_len (xs : List To.T) : (tokRow xs).length = xs.length * 3 := by
  induction xs with
  | nil => rfl
  | cons x xs ih =>
    have : tokRow (x :: xs) = (tokCells x).toList ++ tokRow xs := by simp [tokRow]
    rw [this, List.length_append, ih, List.length_cons]
    simp [tokCells]; omega
theorem tokRow_at (xs : List To.T) (j : Nat) (hj : j < xs.length) : (tokRow xs)[j * 3]? = some (.int .u8 ((xs[j]).kind : Int)) ∧ (tokRow xs)[j * 3 + 1]? = some (.string (bs (xs[j]).text)) ∧ (tokRow xs)[j * 3 + 2]? = some (.int .i64 ((xs[j]).pos : Int)) := by
  induction xs generalizing j with
  | nil => exact absurd hj (Nat.not_lt_zero _)
  | cons x xs ih =>
    have e : tokRow (x :: xs) = .int .u8 (x.kind : Int) :: .string (bs x.text) :: .int .i64 (x.pos : Int) :: tokRow xs := by simp [tokRow, tokCells]
    rw [e]
    cases j with
    | zero => exact ⟨rfl, rfl, rfl⟩
    | succ j =>
      have := ih j (by simpa using hj)
      have e3 : (j + 1) * 3 = j * 3 + 3 := by omega
      rw [e3]
      exact this

theorem toks_of_cells {w : World} {g : Tags} {t b off cap : Nat} {xs : List To.T} {cur : Array Value} {e : TypeId} (hb : w.heap[b]? = some (.cells cur e (0, 0))) (hg : g b = t) (h1 : xs.length ≤ cap) (h2 : cap ≤ maxLen) (hcur : (cur.toList.drop off).take (xs.length * 3) = tokRow xs) :
    Toks w g t (.slice (some ⟨b, off, none⟩) xs.length cap) xs := by
  refine ⟨_, cap, rfl, h1, h2, fun hl => ⟨b, off, rfl, hg, (Array.getElem?_eq_some_iff.1 hb).1, fun j hj => ?_⟩⟩
  have hc : ∀ i, i < xs.length * 3 → w.cell? ⟨b, off + i, none⟩ = (tokRow xs)[i]? := by
    intro i hi
    rw [cell_of_row w b (off + i) cur e _ hb, ← hcur, List.getElem?_take, if_pos hi, List.getElem?_drop, Array.getElem?_toList]
  obtain ⟨k0, k1, k2⟩ := tokRow_at xs j hj
  exact ⟨(hc _ (by omega)).trans k0, by rw [Nat.add_assoc]; exact (hc _ (by omega)).trans k1, by rw [Nat.add_assoc]; exact (hc _ (by omega)).trans k2⟩

theorem toks_of_owns {w : World} {g : Tags} {t : Nat} {e : TypeId} {v : Value} {xs : List To.T} (h : Owns w g t e 3 v xs.length (tokRow xs)) : Toks w g t v xs := by
  obtain ⟨k, ⟨_, h1⟩, hk⟩ := h
  rcases h1 with ⟨rfl, h0, _⟩ | ⟨b, off, cap, cur, rfl, rfl, hb, hc, hm, _, ht⟩
  · exact ⟨none, 0, by rw [h0], by omega, Nat.zero_le _, fun h => absurd h (by omega)⟩
  · exact toks_of_cells hb (hk b rfl) hc hm ht
end Go.Proofs.YtmkhfonafcikdaaGreatDoor

/- Trees: Parse. -/
namespace Go.Proofs.YtmkhfonafcikdaaGreatDoor
open Go.RowKit Go.My Go.Nd

/-- What Parse answers. -/
def Parsed (w : World) (s : Tx) (e : Ending) (w' : World) : Prop :=
  Below w.heap.size w w' ∧ ∃ pv, e = .returned (.tuple #[pv, .int .i64 ((parse wrapI s).2.1 : Int), .int .i64 ((parse wrapI s).2.2 : Int)]) ∧ PrR w' w.heap.size w'.heap.size pv (parse wrapI s).1

theorem tokIn_of {w : World} {g : Tags} {t rb : Nat} {v : Value} {xs : List To.T} (h : Toks w g t v xs) (hr : w.heap.size ≤ rb) : TokIn w (· < rb) v xs := by
  obtain ⟨ao, cap, h1, h2, h3, h4⟩ := h
  refine ⟨ao, cap, h1, h2, h3, fun hl => ?_⟩
  obtain ⟨b, off, e, _, hb, hc⟩ := h4 hl
  exact ⟨b, off, e, Nat.lt_of_lt_of_le hb hr, hb, hc⟩
theorem PrR.nil (w : World) (lo hi : Nat) (h : lo ≤ hi) : PrR w lo hi (.agg #[.slice none 0 0, .slice none 0 0]) ⟨[], .nil⟩ := ⟨lo, _, _, rfl, Nat.le_refl _, h, FsR.nil _ _ _, LR.nil _ _ _ _⟩
theorem PrR.frame {w w' : World} {lo hi : Nat} {v : Value} {p : Pr} (h : PrR w lo hi v p) (hs : ∀ b, lo ≤ b → b < hi → w'.heap[b]? = w.heap[b]?) : PrR w' lo hi v p := by
  obtain ⟨m, v1, v2, e, h1, h2, h3, h4⟩ := h
  exact ⟨m, v1, v2, e, h1, h2, h3.frame fun b q1 q2 => hs b q1 (by omega), LR.frame h4 fun b q1 q2 => hs b (by omega) q2⟩
theorem PrR.mono {w : World} {lo hi lo' hi' : Nat} {v : Value} {p : Pr} (h : PrR w lo hi v p) (h1 : lo' ≤ lo) (h2 : hi ≤ hi') : PrR w lo' hi' v p := by
  obtain ⟨m, v1, v2, e, k1, k2, k3, k4⟩ := h
  exact ⟨m, v1, v2, e, by omega, by omega, k3.mono h1 (Nat.le_refl _), LR.mono k4 (Nat.le_refl _) h2⟩
theorem PrR.form {w : World} {lo hi : Nat} {v : Value} {p : Pr} (h : PrR w lo hi v p) : ∃ a1 c1 a2 c2, v = .agg #[.slice a1 p.funcs.length c1, .slice a2 p.body.len c2] := by
  obtain ⟨m, v1, v2, rfl, _, _, h3, h4⟩ := h
  obtain ⟨a1, c1, rfl⟩ := h3.form
  obtain ⟨a2, c2, rfl⟩ := h4.form
  exact ⟨a1, c1, a2, c2, rfl⟩
theorem PrR.parts {w : World} {lo hi : Nat} {v1 v2 : Value} {p : Pr} (h : PrR w lo hi (.agg #[v1, v2]) p) (S : Nat → Prop) (hS : ∀ b, lo ≤ b → b < hi → S b) : FuncsIn w S false v1 p.funcs ∧ Nodes w S false v2 p.body := by
  obtain ⟨m, u1, u2, e, h1, h2, h3, h4⟩ := h
  cases e
  exact ⟨h3.funcs fun b q1 q2 => hS b q1 (by omega), h4.nodes fun b q1 q2 => hS b (by omega) q2⟩

theorem turn_below {w w' : World} {g g' : Tags} (h : Turn w g w' g' []) : Below w.heap.size w w' := ⟨h.os, h.tape, h.output, h.size, fun k hk => h.block k hk (by simp)⟩

/-- Parse's own cell of the program. -/
structure RP (w : World) (c : Nat) (w1 : World) : Prop where
  hc : c = w.heap.size
  below : Below w.heap.size w w1
  row : w1.heap[c]? = some (.cells #[.slice none 0 0, .slice none 0 0] 25 (0, 0))
theorem RP.later {w : World} {c : Nat} {w1 w2 : World} (h : RP w c w1) (hb : Below w1.heap.size w1 w2) : RP w c w2 := ⟨h.hc, h.below.trans (hb.mono h.below.size), (hb.block _ (heap_lt h.row)).trans h.row⟩

theorem parse_results {w : World} {c : Nat} {v0 v1 : Value} {tmps : Array Value} {x y : Value} (t2 : tmps.getD 2 undef = .pointer (some ⟨c, 0, none⟩)) (t3 : tmps.getD 3 undef = x) (t4 : tmps.getD 4 undef = y)
    (h : w.heap[c]? = some (.cells #[v0, v1] 25 (0, 0))) : (results Tryz.f88 tmps).run Tryz.prog w = .ok (.tuple #[.agg #[v0, v1], x, y]) w := by
  have hv := prVar w c v0 v1 h
  have t2' : tmps[2]?.getD undef = .pointer (some ⟨c, 0, none⟩) := by simpa using t2
  have t3' : tmps[3]?.getD undef = x := by simpa using t3
  have t4' : tmps[4]?.getD undef = y := by simpa using t4
  simp [results, Tryz.results88, t2', t3', t4', asAddr, Result.andThen, hv]

set_option maxRecDepth 100000 in
set_option maxHeartbeats 4000000 in
theorem parse_t {w : World} (s : Tx) : Calls Tryz.prog 88 #[.string (bs s)] w (Parsed w s) := by
  have hin := To.read_in s
  obtain ⟨hA, hn, hz⟩ := Put.new w #[.slice none 0 0, .slice none 0 0] 25
  have X0 := Lib.hid (show RP w w.heap.size (w.alloc (.cells #[.slice none 0 0, .slice none 0 0] 25)) from ⟨rfl, hA, hn⟩)
  have HIN := Lib.hid hin
  obtain ⟨c, hc⟩ : ∃ c, c = w.heap.size := ⟨_, rfl⟩
  obtain ⟨wA, hwA⟩ : ∃ wA, wA = w.alloc (.cells #[.slice none 0 0, .slice none 0 0] 25) := ⟨_, rfl⟩
  rw [← hwA, ← hc] at X0
  obtain ⟨l, hl⟩ : ∃ l, l = (To.read s).1 := ⟨_, rfl⟩
  obtain ⟨p0, hp0⟩ : ∃ p0, p0 = (To.read s).2.1 := ⟨_, rfl⟩
  obtain ⟨e0, he0⟩ : ∃ e0, e0 = (To.read s).2.2 := ⟨_, rfl⟩
  have HL := Lib.hid (And.intro hl (And.intro hp0 he0))
  have hs1 := bs_size s
  clear hin hA hn hz
  go_enter Tryz.func88, Tryz.ntmps88
  go_upto_region 1 with fail
  rw [← hwA, ← hc]
  clear hwA hc hl hp0 he0
  go_wp2_with fail
  refine read_t (fun _ => 0) 7 s fun v w1 g1 hT hO => ?_
  rw [← HL.out.2.1, ← HL.out.2.2]
  have hk := toks_of_owns hO
  rw [← HL.out.1] at hk
  have X1 := Lib.hid (And.intro (X0.out.later (turn_below hT)) (And.intro hk (show g1 c = 0 from hT.old c (heap_lt X0.out.row))))
  obtain ⟨ao, cap, hv, k1, k2, k3⟩ := hk
  subst hv
  clear hT hO k1 k2 k3
  by_cases he : e0 = 0
  · have he' : (e0 : Int) = 0 := by omega
    subst he
    have hlen : l.length ≤ 65536 := by rw [HL.out.1]; have := HIN.out.2.1; have := HIN.out.2.2.2.1 HL.out.2.2.symm; omega
    have hrd : Rd (w1.alloc (.cells #[.slice ao l.length cap, .int .i64 0, .bool false] 188)) w1.heap.size (.slice ao l.length cap) l (l.map (·.text)) false := by
      obtain ⟨hA, hn, hz⟩ := Put.new w1 #[.slice ao l.length cap, .int .i64 0, .bool false] 188
      refine ⟨by simpa using hn, List.suffix_refl _, (tokIn_of X1.out.2.1 (Nat.le_refl _)).frame hA.size fun b _ hlt => hA.block b hlt, hlen, fun x hx => ?_⟩
      rw [HL.out.1] at hx
      have := (HIN.out.1 x hx).1
      have := HIN.out.2.2.2.1 HL.out.2.2.symm
      omega
    have X2 := Lib.hid (And.intro hrd (Put.new w1 #[.slice ao l.length cap, .int .i64 0, .bool false] 188).1)
    clear hrd hlen he'
    obtain ⟨rb, hrb⟩ : ∃ rb, rb = w1.heap.size := ⟨_, rfl⟩
    obtain ⟨w2, hw2⟩ : ∃ w2, w2 = w1.alloc (.cells #[.slice ao l.length cap, .int .i64 0, .bool false] 188) := ⟨_, rfl⟩
    rw [← hrb, ← hw2] at X2
    have hB2 := X2.out.2
    rw [hrb] at hB2
    have X3 := Lib.hid (And.intro (X1.out.1.later hB2) (show c < rb by have := heap_lt X1.out.1.row; omega))
    clear hB2
    go_upto_region 5 with fail
    rw [← hrb, ← hw2]
    have HRB := Lib.hid hrb
    clear hrb hw2
    go_wp2_with fail
    refine (program_t X2.out.1).mono ?_
    rintro e w3 ⟨hs3, ⟨inn, h3⟩, hres⟩
    have row3 := (hs3.kept (heap_lt X3.out.1.row) (Nat.ne_of_lt X3.out.2)).trans X3.out.1.row
    have hB3 : Below w.heap.size w w3 := by
      have hb := X3.out.1.below
      have hc := X3.out.1.hc
      have hlt := X3.out.2
      exact ⟨hs3.os.trans hb.os, hs3.tape.trans hb.tape, hs3.output.trans hb.output, Nat.le_trans hb.size hs3.size, fun k hk => (hs3.block k (by have := hb.size; omega) (by intro e; cases e; omega)).trans (hb.block k hk)⟩
    cases hrd : progT [] (l.map (·.text)) with
    | bad r =>
      rw [hrd] at hres h3
      subst hres
      obtain ⟨q, hq⟩ : ∃ q, q = l.length - r.length := ⟨_, rfl⟩
      have hrl : r.length ≤ l.length := h3.le
      have hp4 := put2 row3 (.slice none 0 0) (.slice none 0 0)
      have hb4 := hp4.below hB3 (by rw [X3.out.1.hc]; exact Nat.le_refl _)
      have hcell := h3.cell.2.1
      rw [show (R.bad r : R Pr).rest = r from rfl, ← hq, ← World.cell?_of_block (hp4.oth rb (Nat.ne_of_gt X3.out.2))] at hcell
      have hpb := parse_bad wrapI s HL.out.2.2.symm (by rw [← HL.out.1]; exact hrd)
      have htok : ∀ (hlt : q < l.length), ∃ b off, ao = some ⟨b, off, none⟩ ∧ b ≠ c ∧ ((w3.setCell ⟨c, 0, none⟩ (.slice none 0 0)).setCell ⟨c, 1, none⟩ (.slice none 0 0)).cell? ⟨b, off + q * 3 + 2, none⟩ = some (.int .i64 ((l[q]).pos : Int)) := by
        intro hlt
        obtain ⟨ao', cap', e, _, _, k⟩ := X1.out.2.1
        cases e
        obtain ⟨b, off, e, hg, hb, hc⟩ := k (by omega)
        have hbc : b ≠ c := fun e => by subst e; rw [X1.out.2.2] at hg; cases hg
        have hbr : b < rb ∧ w2.heap[b]? = w1.heap[b]? := ⟨by rw [HRB.out]; exact hb, X2.out.2.block b (by rw [HRB.out]; exact hb)⟩
        refine ⟨b, off, e, hbc, ?_⟩
        rw [World.cell?_of_block ((hp4.oth b hbc).trans ((hs3.kept (by have := X2.out.1.lt; omega) (by omega)).trans hbr.2))]
        exact (hc q hlt).2.2
      have x0 := cell_of_row w3 c 0 _ _ _ row3
      have x1 := cell_of_row w3 c 1 _ _ _ row3
      have f0 := frozen_of_row w3 c 0 _ _ row3
      have f1 := frozen_of_row w3 c 1 _ _ row3
      simp at x0 x1
      obtain ⟨w4, hw4⟩ : ∃ w4, w4 = (w3.setCell ⟨c, 0, none⟩ (.slice none 0 0)).setCell ⟨c, 1, none⟩ (.slice none 0 0) := ⟨_, rfl⟩
      rw [← hw4] at hp4 hb4 hcell htok
      have X4 := Lib.hid (And.intro hp4.row (And.intro hb4 (And.intro hpb (And.intro hq hrl))))
      have HT := Lib.hid htok
      clear hp4 hb4 hpb hs3 h3 row3 hB3 hrd htok hq hrl
      go_upto_region 6 with fail
      rw [← hw4]
      clear hw4 x0 x1 f0 f1
      have c0 := cell_of_row w4 c 0 _ _ _ X4.out.1
      have c1 := cell_of_row w4 c 1 _ _ _ X4.out.1
      have f0 := frozen_of_row w4 c 0 _ _ X4.out.1
      have f1 := frozen_of_row w4 c 1 _ _ X4.out.1
      simp at c0 c1
      by_cases hlt : q < l.length
      · obtain ⟨b, off, rfl, hbc, ht⟩ := HT.out hlt
        have hbc' : ¬ b = c := hbc
        have hbc2 : ¬ c = b := fun e => hbc e.symm
        have hcr : ¬ c = rb := Nat.ne_of_lt X3.out.2
        have hcr2 : ¬ rb = c := Nat.ne_of_gt X3.out.2
        have hlti : (q : Int) < (l.length : Int) := by omega
        have hq0 : (0 : Int) ≤ (q : Int) := by omega
        have hd : decide (q < l.length) = true := by simpa using hlt
        go_wp2_with fail
        go_region
        all_goals
          go_wp2_with fail
          have hp := put2 X4.out.1 (.slice none 0 0) (.slice none 0 0)
          have hrow : ((w4.setCell ⟨c, 0, none⟩ (.slice none 0 0)).setCell ⟨c, 1, none⟩ (.slice none 0 0)).drew.heap[c]? = some (.cells #[.slice none 0 0, .slice none 0 0] 25 (0, 0)) := hp.row
          refine bodyPost_ret (parse_results rfl rfl rfl hrow) rfl ?_
          have hb := (hp.below X4.out.2.1 (by rw [X3.out.1.hc]; exact Nat.le_refl _)).drew
          have hpb := X4.out.2.2.1
          rw [show placeOf s (To.read s).1 r = (l[q]).pos by unfold placeOf; rw [← HL.out.1, ← X4.out.2.2.2.1, List.getElem?_eq_getElem hlt]] at hpb
          refine ⟨hb, .agg #[.slice none 0 0, .slice none 0 0], ?_, ?_⟩
          · rw [hpb]; rfl
          · rw [hpb]; exact PrR.nil _ _ _ hb.size
      · have hlti : (l.length : Int) ≤ (q : Int) := by omega
        have hd : decide (q < l.length) = false := by simpa using hlt
        go_wp2_with fail
        have hp := put2 X4.out.1 (.slice none 0 0) (.slice none 0 0)
        refine bodyPost_ret (parse_results rfl rfl rfl hp.row) rfl ?_
        have hb := hp.below X4.out.2.1 (by rw [X3.out.1.hc]; exact Nat.le_refl _)
        have hpb := X4.out.2.2.1
        rw [show placeOf s (To.read s).1 r = s.length by unfold placeOf; rw [← HL.out.1, ← X4.out.2.2.2.1, List.getElem?_eq_none (by omega)]] at hpb
        refine ⟨hb, .agg #[.slice none 0 0, .slice none 0 0], ?_, ?_⟩
        · rw [hpb]; rfl
        · rw [hpb]; exact PrR.nil _ _ _ hb.size
    | ok p r =>
      rw [hrd] at hres h3
      obtain ⟨v, rfl, hP⟩ := hres
      obtain ⟨a1, c1, a2, c2, rfl⟩ := hP.form
      have hp4 := put2 row3 (.slice a1 p.funcs.length c1) (.slice a2 p.body.len c2)
      have hb4 := hp4.below hB3 (by rw [X3.out.1.hc]; exact Nat.le_refl _)
      have hc2 : c < w2.heap.size := heap_lt X3.out.1.row
      have hP4 := hP.frame (w' := (w3.setCell ⟨c, 0, none⟩ (.slice a1 p.funcs.length c1)).setCell ⟨c, 1, none⟩ (.slice a2 p.body.len c2)) fun b q1 _ => hp4.oth b (by omega)
      have hz4 := hp4.size
      have hpo := parse_ok wrapI s HL.out.2.2.symm (by rw [← HL.out.1]; exact hrd)
      have x0 := cell_of_row w3 c 0 _ _ _ row3
      have x1 := cell_of_row w3 c 1 _ _ _ row3
      have f0 := frozen_of_row w3 c 0 _ _ row3
      have f1 := frozen_of_row w3 c 1 _ _ row3
      simp at x0 x1
      obtain ⟨w4, hw4⟩ : ∃ w4, w4 = (w3.setCell ⟨c, 0, none⟩ (.slice a1 p.funcs.length c1)).setCell ⟨c, 1, none⟩ (.slice a2 p.body.len c2) := ⟨_, rfl⟩
      rw [← hw4] at hp4 hb4 hP4 hz4
      have hP5 := hP4.mono (show w.heap.size ≤ w2.heap.size by have := X3.out.1.hc; omega) (show w3.heap.size ≤ w4.heap.size by omega)
      have hcg : c + 1 ≤ w2.heap.size := hc2
      have X4 := Lib.hid (And.intro hp4.row (And.intro hb4 (And.intro hpo (hP4.mono hcg (show w3.heap.size ≤ w4.heap.size by omega)))))
      clear hp4 hb4 hpo hs3 h3 row3 hB3 hrd hP hP4 hP5 hz4 hc2 hcg
      go_upto_region 6 with fail
      rw [← hw4]
      clear hw4 x0 x1 f0 f1
      have y0 := cell_of_row w4 c 0 _ _ _ X4.out.1
      have y1 := cell_of_row w4 c 1 _ _ _ X4.out.1
      simp at y0 y1
      go_wp2_with fail
      obtain ⟨hF, hN⟩ := X4.out.2.2.2.parts (· < w4.heap.size) (fun b _ h => h)
      refine (great_t (p := p) (Nat.le_refl _) hF hN).mono ?_
      rintro e w5 ⟨rfl, hb5⟩
      obtain ⟨g, hg⟩ : ∃ g, g = greatP wrapI p := ⟨_, rfl⟩
      rw [← hg]
      have row5 := (hb5.block _ (heap_lt X4.out.1)).trans X4.out.1
      have z0 := cell_of_row w5 c 0 _ _ _ row5
      have z1 := cell_of_row w5 c 1 _ _ _ row5
      have k0 := frozen_of_row w5 c 0 _ _ row5
      have k1 := frozen_of_row w5 c 1 _ _ row5
      simp at z0 z1
      have X5 := Lib.hid (And.intro row5 (And.intro (X4.out.2.1.trans (hb5.mono X4.out.2.1.size)) (And.intro (show greatP wrapI p = (great wrapI p.body || p.funcs.any fun f => great wrapI f.body) by unfold greatP bodiesOf; rw [List.any_cons, List.any_map]; rfl) (And.intro hg (X4.out.2.2.2.frame fun b _ q2 => hb5.block b q2)))))
      have HZ := Lib.hid hb5.size
      clear hb5 hg row5 y0 y1 hF hN
      cases g with
      | true =>
        go_wp2_with fail
        have hp := put2 X5.out.1 (.slice none 0 0) (.slice none 0 0)
        refine bodyPost_ret (parse_results rfl rfl rfl hp.row) rfl ?_
        have hb := hp.below X5.out.2.1 (by rw [X3.out.1.hc]; exact Nat.le_refl _)
        have hpo := X4.out.2.2.1
        rw [← X5.out.2.2.1, ← X5.out.2.2.2.1, if_pos rfl] at hpo
        refine ⟨hb, .agg #[.slice none 0 0, .slice none 0 0], ?_, ?_⟩
        · rw [hpo]; rfl
        · rw [hpo]; exact PrR.nil _ _ _ hb.size
      | false =>
        go_wp2_with fail
        have hp := put2 X5.out.1 (.slice a1 p.funcs.length c1) (.slice a2 p.body.len c2)
        refine bodyPost_ret (parse_results rfl rfl rfl hp.row) rfl ?_
        have hb := hp.below X5.out.2.1 (by rw [X3.out.1.hc]; exact Nat.le_refl _)
        have hpo := X4.out.2.2.1
        rw [← X5.out.2.2.1, ← X5.out.2.2.2.1, if_neg (by decide)] at hpo
        refine ⟨hb, .agg #[.slice a1 p.funcs.length c1, .slice a2 p.body.len c2], ?_, ?_⟩
        · rw [hpo]; rfl
        · rw [hpo]
          have hcw := X3.out.1.hc
          have hz := hp.size
          have hzz := HZ.out
          exact (X5.out.2.2.2.2.frame fun b q1 _ => hp.oth b (by omega)).mono (by omega) (by omega)
  · have he' : ¬ (e0 : Int) = 0 := by omega
    have row1 := X1.out.1.row
    have x0 := cell_of_row w1 c 0 _ _ _ row1
    have x1 := cell_of_row w1 c 1 _ _ _ row1
    have f0 := frozen_of_row w1 c 0 _ _ row1
    have f1 := frozen_of_row w1 c 1 _ _ row1
    simp at x0 x1
    clear row1
    go_wp2_with fail
    have hp := put2 X1.out.1.row (.slice none 0 0) (.slice none 0 0)
    refine bodyPost_ret (parse_results rfl rfl rfl hp.row) rfl ?_
    have hpb := parse_bad0 wrapI s (by rw [← HL.out.2.2]; exact he)
    rw [← HL.out.2.1, ← HL.out.2.2] at hpb
    have hb := hp.below X1.out.1.below (by rw [X1.out.1.hc]; exact Nat.le_refl _)
    refine ⟨hb, .agg #[.slice none 0 0, .slice none 0 0], ?_, ?_⟩
    · rw [hpb]; rfl
    · rw [hpb]; exact PrR.nil _ _ _ hb.size
end Go.Proofs.YtmkhfonafcikdaaGreatDoor

/- Trees: what Parse answered, laid into a cell of the caller's. -/
namespace Go.Proofs.YtmkhfonafcikdaaGreatDoor
open Go.RowKit Go.My Go.Nd

/-- The program p lies in the block b; all that it holds, ahead of it. -/
structure PB (w0 w : World) (b : Nat) (p : Pr) (a1 : Option Addr) (d1 : Nat) (a2 : Option Addr) (d2 : Nat) : Prop where
  below : Below w0.heap.size w0 w
  row : w.heap[b]? = some (.cells #[.slice a1 p.funcs.length d1, .slice a2 p.body.len d2] 25 (0, 0))
  funcs : FuncsIn w (· < b) false (.slice a1 p.funcs.length d1) p.funcs
  nodes : Nodes w (· < b) false (.slice a2 p.body.len d2) p.body
theorem PB.lt {w0 w : World} {b : Nat} {p : Pr} {a1 a2 : Option Addr} {d1 d2 : Nat} (h : PB w0 w b p a1 d1 a2 d2) : b < w.heap.size := heap_lt h.row
theorem PB.later {w0 w w' : World} {b : Nat} {p : Pr} {a1 a2 : Option Addr} {d1 d2 : Nat} (h : PB w0 w b p a1 d1 a2 d2) (hb : Below w.heap.size w w') : PB w0 w' b p a1 d1 a2 d2 :=
  have hm := hb.mono (Nat.le_of_lt h.lt)
  ⟨h.below.trans (hb.mono h.below.size), (hb.block _ h.lt).trans h.row, h.funcs.below hm, h.nodes.below hm⟩
theorem PB.cells {w0 w : World} {b : Nat} {p : Pr} {a1 a2 : Option Addr} {d1 d2 : Nat} (h : PB w0 w b p a1 d1 a2 d2) : w.cell? ⟨b, 0, none⟩ = some (.slice a1 p.funcs.length d1) ∧ w.cell? ⟨b, 1, none⟩ = some (.slice a2 p.body.len d2) := by
  have p0 := cell_of_row w b 0 _ _ _ h.row
  have p1 := cell_of_row w b 1 _ _ _ h.row
  exact ⟨by simpa using p0, by simpa using p1⟩
theorem PB.wide {w0 w : World} {b B : Nat} {p : Pr} {a1 a2 : Option Addr} {d1 d2 : Nat} (h : PB w0 w b p a1 d1 a2 d2) (hB : b ≤ B) : FuncsIn w (· < B) false (.slice a1 p.funcs.length d1) p.funcs ∧ Nodes w (· < B) false (.slice a2 p.body.len d2) p.body :=
  ⟨h.funcs.mono fun _ _ q => Nat.lt_of_lt_of_le q hB, h.nodes.mono fun _ _ q => Nat.lt_of_lt_of_le q hB⟩
/-- What is behind a call of Parse: the value's form; the block that takes it. -/
theorem PB.of {w0 w w1 : World} {pv : Value} {p : Pr} (h0 : Below w0.heap.size w0 w) (hb : Below w.heap.size w w1) (hP : PrR w1 w.heap.size w1.heap.size pv p) :
    ∃ a1 d1 a2 d2, pv = .agg #[.slice a1 p.funcs.length d1, .slice a2 p.body.len d2] ∧ PB w0 (w1.alloc (.cells #[.slice a1 p.funcs.length d1, .slice a2 p.body.len d2] 25)) w1.heap.size p a1 d1 a2 d2 := by
  obtain ⟨a1, d1, a2, d2, rfl⟩ := hP.form
  obtain ⟨hF, hN⟩ := hP.parts (· < w1.heap.size) (fun b _ h => h)
  obtain ⟨hA2, hn2, hz2⟩ := Put.new w1 #[.slice a1 p.funcs.length d1, .slice a2 p.body.len d2] 25
  exact ⟨a1, d1, a2, d2, rfl, h0.trans ((hb.trans (hA2.mono hb.size)).mono h0.size), hn2, hF.below hA2, hN.below hA2⟩
end Go.Proofs.YtmkhfonafcikdaaGreatDoor
