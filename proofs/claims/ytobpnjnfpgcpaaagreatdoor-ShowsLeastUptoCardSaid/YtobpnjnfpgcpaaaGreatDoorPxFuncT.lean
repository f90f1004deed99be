/- Trees: the reader: a function. -/
import Derived.Test.YtobpnjnfpgcpaaaGreatDoorPxTextT
namespace Go.Proofs.YtobpnjnfpgcpaaaGreatDoor
open Go.RowKit Go.My Go.Nd

abbrev TFn : TypeId := 50

/-- A function's cells, and its blocks. -/
structure FV where
  f : Nd.Fn
  va : Value
  vb : Value
  F1 : List Nat
  F2 : List Nat
def FV.cells (x : FV) : List Value := [.string (tx x.f.name), x.va, x.vb]
structure FV.Ok (w : World) (x : FV) : Prop where
  name : x.f.name.length ≤ 140737488351232
  args : TF w x.F1 x.va x.f.args
  body : LF w TN x.F2 x.vb x.f.body
def FR (w : World) (lo hi : Nat) (v : Value) (f : Nd.Fn) : Prop := ∃ x : FV, v = .agg x.cells.toArray ∧ x.Ok w ∧ x.f = f ∧ InR lo hi (x.F1 ++ x.F2)

theorem FV.Ok.frame {w w' : World} {x : FV} (h : x.Ok w) (hs : ∀ b ∈ x.F1 ++ x.F2, w'.heap[b]? = w.heap[b]?) : x.Ok w' :=
  ⟨h.name, h.args.frame fun b hb => hs b (List.mem_append_left _ hb), h.body.frame fun b hb => hs b (List.mem_append_right _ hb)⟩
theorem FR.frame {w w' : World} {lo hi : Nat} {v : Value} {f : Nd.Fn} (h : FR w lo hi v f) (hs : ∀ b, lo ≤ b → b < hi → w'.heap[b]? = w.heap[b]?) : FR w' lo hi v f := by
  obtain ⟨x, h0, h1, h2, h3⟩ := h
  exact ⟨x, h0, h1.frame fun b hb => hs b (h3.2 b hb).1 (h3.2 b hb).2, h2, h3⟩
theorem FR.mono {w : World} {lo hi lo' hi' : Nat} {v : Value} {f : Nd.Fn} (h : FR w lo hi v f) (h1 : lo' ≤ lo) (h2 : hi ≤ hi') : FR w lo' hi' v f := by
  obtain ⟨x, k0, k1, k2, k3⟩ := h; exact ⟨x, k0, k1, k2, k3.mono h1 h2⟩
theorem FR.later {w w' : World} {lo hi : Nat} {v : Value} {f : Nd.Fn} (h : FR w lo hi v f) (hb : Below w.heap.size w w') (hh : hi ≤ w.heap.size) : FR w' lo hi v f := h.frame fun b _ hb' => hb.block b (by omega)
theorem FR.mk {w : World} {lo m hi : Nat} {n : Tx} {ar : List Tx} {b : Ns} {va vb : Value} (hn : n.length ≤ 65536) (h1 : TR w lo m va ar) (h2 : LR w TN m hi vb b) (l1 : lo ≤ m) (l2 : m ≤ hi) : FR w lo hi (.agg #[.string (bs n), va, vb]) ⟨n, ar, b⟩ := by
  obtain ⟨F1, k1, r1⟩ := h1
  obtain ⟨F2, k2, r2⟩ := h2
  exact ⟨⟨⟨n, ar, b⟩, va, vb, F1, F2⟩, rfl, ⟨show n.length ≤ _ by omega, k1, k2⟩, rfl, r1.app r2 l1 l2⟩

theorem must_hit {α : Type} (s : Tx) (x : α) (q : List Tx) : must s x (s :: q) = .ok x q := by unfold must; simp only; rw [if_pos trivial]
theorem must_miss {α : Type} (s : Tx) (x : α) (q : List Tx) (h : q.head? ≠ some s) : must s x q = .bad q := by
  cases q with
  | nil => rfl
  | cons s' q' => unfold must; simp only; rw [if_neg (by intro e; subst e; exact h rfl)]
theorem func_b1 {ts q : List Tx} (h : nameOf ts = .bad q) : func ts = .bad q := by rw [func_is, h]; rfl
theorem func_b2 {ts q : List Tx} {s : Tx} (h : nameOf ts = .ok s q) (h2 : q.head? ≠ some [40]) : func ts = .bad q := by
  rw [func_is, h]
  simp only [R.then_, must_miss _ _ _ h2]
theorem func_3 {ts q : List Tx} {s : Tx} (h : nameOf ts = .ok s ([40] :: q)) : func ts = (several [41] nameOf q).then_ fun l r2 => (block (stm true) r2).map fun b => ⟨s, l, Ns.of b⟩ := by
  rw [func_is, h]
  simp only [R.then_, must_hit]
theorem func_b3 {ts q u : List Tx} {s : Tx} (h : nameOf ts = .ok s ([40] :: q)) (h2 : several [41] nameOf q = .bad u) : func ts = .bad u := by rw [func_3 h, h2]; rfl
theorem func_4 {ts q u : List Tx} {s : Tx} {l : List Tx} (h : nameOf ts = .ok s ([40] :: q)) (h2 : several [41] nameOf q = .ok l u) : func ts = (block (stm true) u).map fun b => ⟨s, l, Ns.of b⟩ := by rw [func_3 h, h2]; rfl

/-- What a call that reads a function does. -/
def GotF (w : World) (rb : Nat) (tv : Value) (xs : List To.T) (r : R Nd.Fn) (e : Ending) (w' : World) : Prop :=
  Step w w' (some rb) ∧ match r with | .ok f q => Rd w' rb tv xs q false ∧ ∃ v, e = .returned v ∧ FR w' w.heap.size w'.heap.size v f | .bad q => (∃ inn, Rd w' rb tv xs q inn) ∧ e = .panicked wrongChain

/-- In the middle: the result's cell c. -/
structure RF (w : World) (rb c : Nat) (w1 : World) : Prop where
  hc : c = w.heap.size
  hrb : rb < c
  st : Step w w1 (some rb)
  row : w1.heap[c]? = some (.cells #[.string ⟨#[]⟩, .slice none 0 0, .slice none 0 0] TFn (0, 0))
theorem RF.start {w : World} {rb : Nat} (h : rb < w.heap.size) : RF w rb w.heap.size (w.alloc (.cells #[.string ⟨#[]⟩, .slice none 0 0, .slice none 0 0] TFn)) :=
  ⟨rfl, h, Step.of_below (Put.new w _ TFn).1, (Put.new w _ TFn).2.1⟩
theorem RF.lt {w : World} {rb c : Nat} {w1 : World} (h : RF w rb c w1) : c < w1.heap.size := heap_lt h.row
theorem RF.step {w : World} {rb c : Nat} {w1 w2 : World} (h : RF w rb c w1) (hs : Step w1 w2 (some rb)) : RF w rb c w2 :=
  ⟨h.hc, h.hrb, h.st.trans hs, (hs.kept h.lt (Nat.ne_of_gt h.hrb)).trans h.row⟩
theorem RF.below {w : World} {rb c : Nat} {w1 w2 : World} (h : RF w rb c w1) (hs : Below w1.heap.size w1 w2) : RF w rb c w2 := h.step (Step.of_below hs)
theorem RF.put {w : World} {rb c : Nat} {w1 w2 : World} {b : Nat} {cs : Array Value} {T : TypeId} (h : RF w rb c w1) (hp : Put w1 w2 b cs T) (hb : c < b) : RF w rb c w2 :=
  ⟨h.hc, h.hrb, h.st.put hp (by have := h.hc; omega), (hp.oth c (by omega)).trans h.row⟩
theorem RF.bad {w : World} {rb c : Nat} {w1 : World} {tv : Value} {xs : List To.T} {inn : Bool} {r : List Tx} (h : RF w rb c w1) (h1 : Rd w1 rb tv xs r inn) : GotF w rb tv xs (.bad r) (.panicked wrongChain) w1 := ⟨h.st, ⟨_, h1⟩, rfl⟩

theorem fnVar (w : World) (c : Nat) (v0 v1 v2 : Value) (h : w.heap[c]? = some (.cells #[v0, v1, v2] TFn (0, 0))) : (loadVar 50 ⟨c, 0, none⟩).run Tryz.prog w = .ok (.agg #[v0, v1, v2]) w := by
  have c0 := cell_of_row w c 0 _ _ _ h
  have c1 := cell_of_row w c 1 _ _ _ h
  have c2 := cell_of_row w c 2 _ _ _ h
  simp at c0 c1 c2
  simp [loadVar, go_sem, c0, c1, c2]
theorem row3 {w : World} {c : Nat} {v0 v1 v2 : Value} {T : TypeId} (h : w.heap[c]? = some (.cells #[v0, v1, v2] T (0, 0))) :
    w.cell? ⟨c, 0, none⟩ = some v0 ∧ w.cell? ⟨c, 1, none⟩ = some v1 ∧ w.cell? ⟨c, 2, none⟩ = some v2 ∧ w.frozen? ⟨c, 0, none⟩ = false ∧ w.frozen? ⟨c, 1, none⟩ = false ∧ w.frozen? ⟨c, 2, none⟩ = false :=
  ⟨cell_of_row w c 0 _ _ _ h, cell_of_row w c 1 _ _ _ h, cell_of_row w c 2 _ _ _ h, frozen_of_row w c 0 _ _ h, frozen_of_row w c 1 _ _ h, frozen_of_row w c 2 _ _ h⟩
theorem Rd.set {w : World} {rb : Nat} {tv : Value} {xs : List To.T} {ts : List Tx} {inn : Bool} (h : Rd w rb tv xs ts inn) (b : Bool) :
    Put w (w.setCell ⟨rb, 2, none⟩ (.bool b)) rb #[tv, .int .i64 ((xs.length - ts.length : Nat) : Int), .bool b] 66 ∧ Rd (w.setCell ⟨rb, 2, none⟩ (.bool b)) rb tv xs ts b := by
  have hp : Put w (w.setCell ⟨rb, 2, none⟩ (.bool b)) rb #[tv, .int .i64 ((xs.length - ts.length : Nat) : Int), .bool b] 66 := Put.one h.row 2 _
  exact ⟨hp, hp.row, h.suf, h.toks.frame (by rw [hp.size]; exact Nat.le_refl _) fun b hb _ => hp.oth b (Nat.ne_of_lt hb), h.len, h.short⟩
theorem Put.stepRb {w w' : World} {rb : Nat} {cs : Array Value} {T : TypeId} (h : Put w w' rb cs T) : Step w w' (some rb) := h.step

set_option maxRecDepth 100000 in
set_option maxHeartbeats 4000000 in
theorem func_t {rb : Nat} {tv : Value} {xs : List To.T} {w : World} {ts : List Tx} (h : Rd w rb tv xs ts false) :
    Calls Tryz.prog 61 #[.pointer (some ⟨rb, 0, none⟩)] w (GotF w rb tv xs (func ts)) := by
  have R0 := RF.start h.lt
  have h0 := h.later (Put.new w #[.string ⟨#[]⟩, .slice none 0 0, .slice none 0 0] TFn).1
  obtain ⟨c, hc⟩ : ∃ c, c = w.heap.size := ⟨_, rfl⟩
  obtain ⟨wA, hwA⟩ : ∃ wA, wA = w.alloc (.cells #[.string ⟨#[]⟩, .slice none 0 0, .slice none 0 0] TFn) := ⟨_, rfl⟩
  rw [← hwA] at R0 h0
  rw [← hc] at R0
  have X0 := Lib.hid (And.intro R0 h0)
  clear h R0 h0
  go_enter Tryz.func61, Tryz.ntmps61
  go_upto_region 1 with fail
  rw [← hwA, ← hc]
  clear hwA hc
  go_wp2_with fail
  refine (name_g X0.out.2).mono ?_
  rintro e w1 ⟨hs1, h1, hres⟩
  cases hrd : nameOf ts with
  | bad q =>
    rw [hrd] at hres h1
    subst hres
    have X1 := Lib.hid (And.intro (X0.out.1.step hs1) (And.intro h1 hrd))
    clear hs1 h1 hrd
    go_wp2_with fail
    refine ⟨rfl, ?_⟩
    rw [func_b1 X1.out.2.2]
    exact X1.out.1.bad X1.out.2.1
  | ok s q =>
    rw [hrd] at hres h1
    obtain ⟨rfl, hsl⟩ := hres
    have hA := Put.new w1 #[.string (bs s), .slice none 0 0, .slice none 0 0] TFn
    obtain ⟨b3, hb3⟩ : ∃ b3, b3 = w1.heap.size := ⟨_, rfl⟩
    obtain ⟨w2, hw2⟩ : ∃ w2, w2 = w1.alloc (.cells #[.string (bs s), .slice none 0 0, .slice none 0 0] TFn) := ⟨_, rfl⟩
    rw [← hw2, ← hb3] at hA
    have hA1 := hA.1
    rw [hb3] at hA1
    have X2 := Lib.hid (And.intro (X0.out.1.step (hs1.trans (Step.of_below hA1))) (And.intro hA.2.1 (And.intro (h1.later hA1) (And.intro hrd (And.intro hsl (show c < b3 by have := X0.out.1.lt; have := hs1.size; omega))))))
    clear hA hA1 hs1 h1 hrd hsl
    go_upto_region 2 with fail
    rw [← hw2, ← hb3]
    clear hw2 hb3
    go_wp2_with fail
    by_cases hh : q.head? = some [40]
    · obtain ⟨q1, rfl⟩ := head_form hh
      refine takes_yes X2.out.2.2.1 (by decide) fun w3 hs3 h3 => ?_
      have hcb := X2.out.2.2.2.2.2
      have hrb := X2.out.1.hrb
      have X3 := Lib.hid (And.intro (X2.out.1.step hs3) (And.intro ((hs3.kept (heap_lt X2.out.2.1) (by omega)).trans X2.out.2.1) h3))
      clear hs3 h3 hh hcb hrb
      go_wp2_with (refine must_yes ?_)
      refine (sevt_t [41] (by decide) (by decide) X3.out.2.2).mono ?_
      rintro e w4 ⟨hs4, h4, hres⟩
      cases hrd : several [41] nameOf q1 with
      | bad u =>
        rw [hrd] at hres h4
        subst hres
        have X4 := Lib.hid (And.intro (X3.out.1.step hs4) (And.intro h4 hrd))
        clear hs4 h4 hrd
        go_wp2_with fail
        refine ⟨rfl, ?_⟩
        rw [func_b3 X2.out.2.2.2.1 X4.out.2.2]
        exact X4.out.1.bad X4.out.2.1
      | ok l u =>
        rw [hrd] at hres h4
        obtain ⟨v, rfl, hL⟩ := hres
        obtain ⟨a1, d1, rfl⟩ := hL.form
        have hcb := X2.out.2.2.2.2.2
        have hrb := X2.out.1.hrb
        have R4 := X3.out.1.step hs4
        have row4 := (hs4.kept (heap_lt X3.out.2.1) (by omega)).trans X3.out.2.1
        obtain ⟨x0, x1, x2, f0, f1, f2⟩ := row3 row4
        have hp5 : Put w4 (w4.setCell ⟨b3, 1, none⟩ (.slice a1 l.length d1)) b3 #[.string (bs s), .slice a1 l.length d1, .slice none 0 0] TFn := Put.one row4 1 _
        have hb3lt := heap_lt X3.out.2.1
        have hL5 : TR (w4.setCell ⟨b3, 1, none⟩ (.slice a1 l.length d1)) w3.heap.size w4.heap.size (.slice a1 l.length d1) l := hL.frame fun b q1 _ => hp5.oth b (by omega)
        have R5 := R4.put hp5 hcb
        have h5 := h4.put hp5 (by omega)
        obtain ⟨w5, hw5⟩ : ∃ w5, w5 = w4.setCell ⟨b3, 1, none⟩ (.slice a1 l.length d1) := ⟨_, rfl⟩
        have hrow5 := hp5.row
        have hz5 := hp5.size
        rw [← hw5] at R5 h5 hrow5 hL5 hz5
        obtain ⟨hp6, h6⟩ := h5.set true
        have R6 := R5.step hp6.step
        have hrow6 := (hp6.oth b3 (by omega)).trans hrow5
        have hL6 := hL5.frame fun b q1 _ => hp6.oth b (by have := R5.lt; have := X3.out.1.lt; omega)
        have hz6 := hp6.size
        obtain ⟨_, _, k2, _, fk2⟩ := h5.cell
        obtain ⟨w6, hw6⟩ : ∃ w6, w6 = w5.setCell ⟨rb, 2, none⟩ (.bool true) := ⟨_, rfl⟩
        rw [← hw6] at h6 R6 hrow6 hL6 hz6
        have X6 := Lib.hid (And.intro R6 (And.intro h6 (And.intro hrow6 (And.intro hL6 (And.intro hrd (And.intro (show w3.heap.size ≤ w4.heap.size from hs4.size) (And.intro (show w6.heap.size = w4.heap.size by omega) (show b3 < w3.heap.size from hb3lt))))))))
        clear R4 row4 hp5 hb3lt hL5 R5 h5 hrow5 hz5 hp6 h6 R6 hrow6 hL6 hz6 hs4 h4 hrd hL hcb hrb
        go_upto_region 4 with fail
        rw [← hw5]
        clear hw5 x0 x1 x2 f0 f1 f2
        go_upto_region 5 with fail
        rw [← hw6]
        clear hw6 k2 fk2
        go_wp2_with fail
        refine (block_t (ts := u) X6.out.2.1).mono ?_
        rintro e w7 ⟨hs7, h7, hres⟩
        cases hrd : block (stm true) u with
        | bad z =>
          rw [hrd] at hres h7
          subst hres
          have X7 := Lib.hid (And.intro (X6.out.1.step hs7) (And.intro h7 hrd))
          clear hs7 h7 hrd
          go_wp2_with fail
          refine ⟨rfl, ?_⟩
          rw [func_4 X2.out.2.2.2.1 X6.out.2.2.2.2.1, X7.out.2.2]
          exact X7.out.1.bad X7.out.2.1
        | ok bl z =>
          rw [hrd] at hres h7
          obtain ⟨v, rfl, hM⟩ := hres
          obtain ⟨m1, e1, rfl⟩ := hM.form
          have hcb := X2.out.2.2.2.2.2
          have hrb := X2.out.1.hrb
          have hb3lt := X6.out.2.2.2.2.2.2.2
          have hz34 := X6.out.2.2.2.2.2.1
          have hz46 := X6.out.2.2.2.2.2.2.1
          have R7 := X6.out.1.step hs7
          have row7 := (hs7.kept (heap_lt X6.out.2.2.1) (by omega)).trans X6.out.2.2.1
          obtain ⟨x0, x1, x2, f0, f1, f2⟩ := row3 row7
          have hp8 : Put w7 (w7.setCell ⟨b3, 2, none⟩ (.slice m1 (Ns.of bl).len e1)) b3 #[.string (bs s), .slice a1 l.length d1, .slice m1 (Ns.of bl).len e1] TFn := Put.one row7 2 _
          have hc3 := X3.out.1.lt
          have A7 : TR w7 w3.heap.size w4.heap.size (.slice a1 l.length d1) l := X6.out.2.2.2.1.kept hs7 (by omega) (by omega)
          have A8 := A7.frame fun b q1 _ => hp8.oth b (by omega)
          have M8 := LR.frame hM fun b q1 _ => hp8.oth b (by omega)
          have R8 := R7.put hp8 hcb
          have h8 := h7.put hp8 (by omega)
          have hrow8 := hp8.row
          have hz8 := hp8.size
          obtain ⟨w8, hw8⟩ : ∃ w8, w8 = w7.setCell ⟨b3, 2, none⟩ (.slice m1 (Ns.of bl).len e1) := ⟨_, rfl⟩
          rw [← hw8] at A8 M8 R8 h8 hrow8 hz8
          obtain ⟨hp9, h9⟩ := h8.set false
          obtain ⟨_, _, k2, _, fk2⟩ := h8.cell
          have R9 := R8.step hp9.step
          have hrow9 := (hp9.oth b3 (by omega)).trans hrow8
          have A9 := A8.frame fun b q1 _ => hp9.oth b (by omega)
          have M9 := LR.frame M8 fun b q1 _ => hp9.oth b (by omega)
          have hz9 := hp9.size
          obtain ⟨w9, hw9⟩ : ∃ w9, w9 = w8.setCell ⟨rb, 2, none⟩ (.bool false) := ⟨_, rfl⟩
          rw [← hw9] at h9 R9 hrow9 A9 M9 hz9
          have hF9 : FR w9 (c + 1) w9.heap.size (.agg #[.string (bs s), .slice a1 l.length d1, .slice m1 (Ns.of bl).len e1]) ⟨s, l, Ns.of bl⟩ := FR.mk X2.out.2.2.2.2.1 (A9.mono (show c + 1 ≤ w3.heap.size by omega) (show w4.heap.size ≤ w6.heap.size by omega)) (M9.mono (Nat.le_refl _) (show w7.heap.size ≤ w9.heap.size by omega)) (by omega) (by have := hs7.size; omega)
          obtain ⟨y0, y1, y2, g0, g1, g2⟩ := row3 R9.row
          obtain ⟨z0, z1, z2, _, _, _⟩ := row3 hrow9
          have X9 := Lib.hid (And.intro R9 (And.intro h9 (And.intro hF9 hrd)))
          clear hcb hrb hb3lt hz34 hz46 R7 row7 hp8 A7 A8 M8 R8 h8 hrow8 hz8 hp9 h9 R9 hrow9 A9 M9 hz9 hF9 hrd hs7 h7 hM hc3
          go_upto_region 6 with fail
          rw [← hw8]
          clear hw8 x0 x1 x2 f0 f1 f2
          go_upto_region 7 with fail
          rw [← hw9]
          clear hw9 k2 fk2
          go_wp2_with fail
          have hp := put3 X9.out.1.row (.string (bs s)) (.slice a1 l.length d1) (.slice m1 (Ns.of bl).len e1)
          refine bodyPost_ret (results_cell1 rfl _ _ _ rfl (fnVar _ c _ _ _ hp.row)) rfl ?_
          rw [func_4 X2.out.2.2.2.1 X6.out.2.2.2.2.1, X9.out.2.2.2]
          have hcw := X9.out.1.hc
          exact ⟨X9.out.1.st.put hp (by omega), X9.out.2.1.put hp X9.out.1.hrb, _, rfl, (X9.out.2.2.1.frame fun b q1 _ => hp.oth b (by omega)).mono (by omega) (by rw [hp.size]; exact Nat.le_refl _)⟩
    · refine takes_no X2.out.2.2.1 [40] (by decide) hh fun w3 hb3 => ?_
      have X3 := Lib.hid (And.intro hh hb3)
      clear hh hb3
      go_wp2_with (refine must_no ?_)
      refine ⟨rfl, ?_⟩
      rw [func_b2 X2.out.2.2.2.1 X3.out.1]
      exact (X2.out.1.below X3.out.2).bad (X2.out.2.2.1.later X3.out.2)
end Go.Proofs.YtobpnjnfpgcpaaaGreatDoor
