/- Trees: the reader: while and if. -/
import Derived.Test.YtobpnjnfpgcpaaaGreatDoorPxBlockT
namespace Go.Proofs.YtobpnjnfpgcpaaaGreatDoor
open Go.RowKit Go.My Go.Nd

/-- Blocks are read, where so many tokens are left at most. -/
def ReadsB (rb : Nat) (tv : Value) (xs : List To.T) (inn : Bool) (n : Nat) : Prop :=
  ∀ (w : World) (ts : List Tx), ts.length ≤ n → Rd w rb tv xs ts inn → Calls Tryz.prog 95 #[.pointer (some ⟨rb, 0, none⟩)] w (GotL w rb tv xs inn (block (stm inn) ts))

theorem LR.kept {w w' : World} {rb lo hi : Nat} {v : Value} {l : Ns} (h : LR w TN lo hi v l) (hs : Step w w' (some rb)) (hrb : rb < lo) (hh : hi ≤ w.heap.size) : LR w' TN lo hi v l :=
  LR.frame h fun b h1 h2 => hs.kept (by omega) (by omega)

set_option maxRecDepth 100000 in
set_option maxHeartbeats 4000000 in
theorem loop_r {rb : Nat} {tv : Value} {xs : List To.T} {inn : Bool} {n : Nat} (hbl : ReadsB rb tv xs inn n) {w : World} {ts : List Tx} (hn : ts.length ≤ n) (h : Rd w rb tv xs ts inn) :
    Calls Tryz.prog 97 #[.pointer (some ⟨rb, 0, none⟩)] w (Got w rb tv xs inn (loop inn ts)) := by
  have R0 := RA.start h.lt
  have h0 := h.later (Put.new w #[.int .u8 0, .string ⟨#[]⟩, .slice none 0 0, .slice none 0 0, .slice none 0 0] TN).1
  obtain ⟨c, hc⟩ : ∃ c, c = w.heap.size := ⟨_, rfl⟩
  obtain ⟨wA, hwA⟩ : ∃ wA, wA = w.alloc (.cells #[.int .u8 0, .string ⟨#[]⟩, .slice none 0 0, .slice none 0 0, .slice none 0 0] TN) := ⟨_, rfl⟩
  rw [← hwA] at R0 h0
  rw [← hc] at R0
  have X0 := Lib.hid (And.intro R0 h0)
  clear h R0 h0
  have HE := Lib.hid (And.intro hbl hn)
  clear hbl hn
  go_enter Tryz.func97, Tryz.ntmps97
  go_upto_region 1 with fail
  rw [← hwA, ← hc]
  clear hwA hc
  go_wp2_with fail
  refine (expr_t X0.out.2).mono ?_
  rintro e w1 ⟨hs1, h1, hres⟩
  cases hrd : expr ts with
  | bad q =>
    rw [hrd] at hres h1
    subst hres
    have X1 := Lib.hid (And.intro (X0.out.1.step hs1) (And.intro h1 hrd))
    clear hs1 h1 hrd
    go_wp2_with fail
    refine ⟨rfl, ?_⟩
    unfold loop
    rw [X1.out.2.2]
    exact X1.out.1.bad X1.out.2.1
  | ok x q =>
    rw [hrd] at hres h1
    obtain ⟨v, rfl, hN⟩ := hres
    obtain ⟨a1, d1, a2, d2, a3, d3, rfl⟩ := hN.form
    have hL := LR.one hN hs1.size (Nat.le_refl _)
    have hA := Put.new w1 #[.int .u8 (x.kind : Int), .string (tx x.text), .slice a1 x.l.len d1, .slice a2 x.body.len d2, .slice a3 x.els.len d3] TN
    obtain ⟨b2, hb2⟩ : ∃ b2, b2 = w1.heap.size := ⟨_, rfl⟩
    obtain ⟨w2, hw2⟩ : ∃ w2, w2 = w1.alloc (.cells #[.int .u8 (x.kind : Int), .string (tx x.text), .slice a1 x.l.len d1, .slice a2 x.body.len d2, .slice a3 x.els.len d3] TN) := ⟨_, rfl⟩
    rw [← hw2] at hL hA
    have hq := (expr_down ts).lt hrd
    have X1 := Lib.hid (And.intro (X0.out.1.step (hs1.trans (Step.of_below hA.1))) (And.intro (h1.later hA.1) (And.intro (show LR w2 TN wA.heap.size w2.heap.size (.slice (some ⟨b2, 0, none⟩) 1 1) (Ns.of [x]) from hA.2.2 ▸ hb2 ▸ hL) (And.intro (Nat.le_trans hs1.size hA.1.size) (And.intro hrd (show q.length ≤ n by have := HE.out.2; omega))))))
    clear hs1 h1 hL hA hN hq hrd
    go_wp2_with fail
    rw [← hw2, ← hb2]
    clear hw2 hb2
    refine (HE.out.1 w2 q X1.out.2.2.2.2.2 X1.out.2.1).mono ?_
    rintro e w3 ⟨hs3, h3, hres⟩
    cases hrd : block (stm inn) q with
    | bad u =>
      rw [hrd] at hres h3
      subst hres
      have X3 := Lib.hid (And.intro (X1.out.1.step hs3) (And.intro h3 hrd))
      clear hs3 h3 hrd
      go_wp2_with fail
      refine ⟨rfl, ?_⟩
      unfold loop
      rw [X1.out.2.2.2.2.1]
      show Got w rb tv xs inn (R.map _ (block (stm inn) q)) _ _
      rw [X3.out.2.2]
      exact X3.out.1.bad X3.out.2.1
    | ok l u =>
      rw [hrd] at hres h3
      obtain ⟨v, rfl, hM⟩ := hres
      obtain ⟨m1, e1, rfl⟩ := hM.form
      have hrb : rb < wA.heap.size := Nat.lt_trans X0.out.1.hrb X0.out.1.lt
      have hN3 : NR w3 TN wA.heap.size w3.heap.size (.agg #[.int .u8 ((10 : Nat) : Int), .string (tx []), .slice (some ⟨b2, 0, none⟩) 1 1, .slice m1 (Ns.of l).len e1, .slice none 0 0]) ⟨10, [], Ns.of [x], Ns.of l, .nil⟩ := NR.mk (by decide) (by decide) (LR.kept X1.out.2.2.1 hs3 hrb (Nat.le_refl _)) hM (LR.nil _ _ _ w3.heap.size) X1.out.2.2.2.1 hs3.size (Nat.le_refl _)
      have R3 := X1.out.1.step hs3
      obtain ⟨y0, y1, y2, y3, y4, g0, g1, g2, g3, g4⟩ := row5 R3.row
      have X3 := Lib.hid (And.intro R3 (And.intro h3 (And.intro hrd (NR.past X0.out.1 hN3))))
      clear hs3 h3 hrd R3 hN3 hM hrb
      go_wp2_with fail
      have hp := put5 X3.out.1.row (.int .u8 10) (.string ⟨#[]⟩) (.slice (some ⟨b2, 0, none⟩) 1 1) (.slice m1 (Ns.of l).len e1) (.slice none 0 0)
      refine bodyPost_ret (results_cell1 rfl _ _ _ rfl (nodeVar _ c _ _ _ _ _ hp.row)) rfl ?_
      unfold loop
      rw [X1.out.2.2.2.2.1]
      show Got w rb tv xs inn (R.map _ (block (stm inn) q)) _ _
      rw [X3.out.2.2.1]
      exact X3.out.1.fin (x := ⟨10, [], Ns.of [x], Ns.of l, .nil⟩) X3.out.2.1 X3.out.2.2.2 (fun _ h => h) hp

/-- Behind an if's first block. -/
def ifTail (inner : Bool) (x : Nd) (b : List Nd) (r2 : List Tx) : R Nd := match r2 with
  | [] => .ok ⟨9, [], Ns.of [x], Ns.of b, .nil⟩ []
  | p :: r3 => if p = [101, 108, 115, 101] then (block (stm inner) r3).map fun e => ⟨9, [], Ns.of [x], Ns.of b, Ns.of e⟩ else .ok ⟨9, [], Ns.of [x], Ns.of b, .nil⟩ (p :: r3)
theorem branch_is (inner : Bool) (ts : List Tx) : branch inner ts = (expr ts).then_ fun x r1 => (block (stm inner) r1).then_ fun b r2 => ifTail inner x b r2 := rfl
theorem ifTail_no (inner : Bool) (x : Nd) (b : List Nd) (r : List Tx) (h : r.head? ≠ some [101, 108, 115, 101]) : ifTail inner x b r = .ok ⟨9, [], Ns.of [x], Ns.of b, .nil⟩ r := by
  cases r with
  | nil => rfl
  | cons p r' => unfold ifTail; simp only; rw [if_neg (by intro e; subst e; exact h rfl)]
theorem ifTail_yes (inner : Bool) (x : Nd) (b : List Nd) (r : List Tx) : ifTail inner x b ([101, 108, 115, 101] :: r) = (block (stm inner) r).map fun e => ⟨9, [], Ns.of [x], Ns.of b, Ns.of e⟩ := by unfold ifTail; simp only; rw [if_pos trivial]

set_option maxRecDepth 100000 in
set_option maxHeartbeats 4000000 in
theorem branch_r {rb : Nat} {tv : Value} {xs : List To.T} {inn : Bool} {n : Nat} (hbl : ReadsB rb tv xs inn n) {w : World} {ts : List Tx} (hn : ts.length ≤ n) (h : Rd w rb tv xs ts inn) :
    Calls Tryz.prog 96 #[.pointer (some ⟨rb, 0, none⟩)] w (Got w rb tv xs inn (branch inn ts)) := by
  have R0 := RA.start h.lt
  have h0 := h.later (Put.new w #[.int .u8 0, .string ⟨#[]⟩, .slice none 0 0, .slice none 0 0, .slice none 0 0] TN).1
  obtain ⟨c, hc⟩ : ∃ c, c = w.heap.size := ⟨_, rfl⟩
  obtain ⟨wA, hwA⟩ : ∃ wA, wA = w.alloc (.cells #[.int .u8 0, .string ⟨#[]⟩, .slice none 0 0, .slice none 0 0, .slice none 0 0] TN) := ⟨_, rfl⟩
  rw [← hwA] at R0 h0
  rw [← hc] at R0
  have X0 := Lib.hid (And.intro R0 h0)
  clear h R0 h0
  have HE := Lib.hid (And.intro hbl hn)
  clear hbl hn
  go_enter Tryz.func96, Tryz.ntmps96
  go_upto_region 1 with fail
  rw [← hwA, ← hc]
  clear hwA hc
  go_wp2_with fail
  refine (expr_t X0.out.2).mono ?_
  rintro e w1 ⟨hs1, h1, hres⟩
  cases hrd : expr ts with
  | bad q =>
    rw [hrd] at hres h1
    subst hres
    have X1 := Lib.hid (And.intro (X0.out.1.step hs1) (And.intro h1 hrd))
    clear hs1 h1 hrd
    go_wp2_with fail
    refine ⟨rfl, ?_⟩
    rw [branch_is, X1.out.2.2]
    exact X1.out.1.bad X1.out.2.1
  | ok x q =>
    rw [hrd] at hres h1
    obtain ⟨v, rfl, hN⟩ := hres
    obtain ⟨a1, d1, a2, d2, a3, d3, rfl⟩ := hN.form
    have hL := LR.one hN hs1.size (Nat.le_refl _)
    have hA := Put.new w1 #[.int .u8 (x.kind : Int), .string (tx x.text), .slice a1 x.l.len d1, .slice a2 x.body.len d2, .slice a3 x.els.len d3] TN
    obtain ⟨b2, hb2⟩ : ∃ b2, b2 = w1.heap.size := ⟨_, rfl⟩
    obtain ⟨w2, hw2⟩ : ∃ w2, w2 = w1.alloc (.cells #[.int .u8 (x.kind : Int), .string (tx x.text), .slice a1 x.l.len d1, .slice a2 x.body.len d2, .slice a3 x.els.len d3] TN) := ⟨_, rfl⟩
    rw [← hw2] at hL hA
    have hq := (expr_down ts).lt hrd
    have X1 := Lib.hid (And.intro (X0.out.1.step (hs1.trans (Step.of_below hA.1))) (And.intro (h1.later hA.1) (And.intro (show LR w2 TN wA.heap.size w2.heap.size (.slice (some ⟨b2, 0, none⟩) 1 1) (Ns.of [x]) from hA.2.2 ▸ hb2 ▸ hL) (And.intro (Nat.le_trans hs1.size hA.1.size) (And.intro hrd (show q.length ≤ n by have := HE.out.2; omega))))))
    clear hs1 h1 hL hA hN hq hrd
    go_wp2_with fail
    rw [← hw2, ← hb2]
    clear hw2 hb2
    refine (HE.out.1 w2 q X1.out.2.2.2.2.2 X1.out.2.1).mono ?_
    rintro e w3 ⟨hs3, h3, hres⟩
    cases hrd : block (stm inn) q with
    | bad u =>
      rw [hrd] at hres h3
      subst hres
      have X3 := Lib.hid (And.intro (X1.out.1.step hs3) (And.intro h3 hrd))
      clear hs3 h3 hrd
      go_wp2_with fail
      refine ⟨rfl, ?_⟩
      rw [branch_is, X1.out.2.2.2.2.1]
      show Got w rb tv xs inn ((block (stm inn) q).then_ _) _ _
      rw [X3.out.2.2]
      exact X3.out.1.bad X3.out.2.1
    | ok l u =>
      rw [hrd] at hres h3
      obtain ⟨v, rfl, hM⟩ := hres
      obtain ⟨m1, e1, rfl⟩ := hM.form
      have hrb : rb < wA.heap.size := Nat.lt_trans X0.out.1.hrb X0.out.1.lt
      have hL3 := LR.kept X1.out.2.2.1 hs3 hrb (Nat.le_refl _)
      have hb := (X1.out.1.step hs3).box #[.int .u8 9, .string ⟨#[]⟩, .slice (some ⟨b2, 0, none⟩) 1 1, .slice m1 (Ns.of l).len e1, .slice none 0 0]
      obtain ⟨b4, hb4⟩ : ∃ b4, b4 = w3.heap.size := ⟨_, rfl⟩
      obtain ⟨w4, hw4⟩ : ∃ w4, w4 = w3.alloc (.cells #[.int .u8 9, .string ⟨#[]⟩, .slice (some ⟨b2, 0, none⟩) 1 1, .slice m1 (Ns.of l).len e1, .slice none 0 0] TN) := ⟨_, rfl⟩
      rw [← hw4] at hb
      have hu := (block_down (stm_down inn) q).lt hrd
      have X3 := Lib.hid (And.intro hb.1 (And.intro (hb4 ▸ hb.2.1) (And.intro (h3.later hb.2.2) (And.intro hrd (And.intro (show c < b4 by have := X1.out.1.lt; have := hs3.size; omega) (And.intro (hL3.later hb.2.2 hs3.size) (And.intro (hM.later hb.2.2 (Nat.le_refl _)) (show u.length ≤ n by have := X1.out.2.2.2.2.2; omega))))))))
      have HZ := Lib.hid (And.intro hs3.size (And.intro hb4 hb.2.2.size))
      clear hs3 h3 hrd hM hL3 hb hu hrb
      go_upto_region 2 with fail
      rw [← hw4, ← hb4]
      clear hw4 hb4
      go_wp2_with fail
      by_cases hh : u.head? = some [101, 108, 115, 101]
      · obtain ⟨u', rfl⟩ := head_form hh
        refine takes_yes X3.out.2.2.1 (by decide) fun w5 hs5 h5 => ?_
        have hrbA : rb < wA.heap.size := Nat.lt_trans X0.out.1.hrb X0.out.1.lt
        have hcb := X3.out.2.2.2.2.1
        have hw24 : w2.heap.size ≤ w4.heap.size := Nat.le_trans HZ.out.1 HZ.out.2.2
        have X5 := Lib.hid (And.intro (X3.out.1.step hs5) (And.intro h5 (And.intro ((hs5.kept (heap_lt X3.out.2.1) (by have := X3.out.1.hrb; omega)).trans X3.out.2.1) (And.intro (LR.kept X3.out.2.2.2.2.2.1 hs5 hrbA hw24) (And.intro (LR.kept X3.out.2.2.2.2.2.2.1 hs5 (by have := X1.out.2.2.2.1; omega) HZ.out.2.2) hs5.size)))))
        clear hs5 h5 hh hrbA hcb hw24
        go_wp2_with fail
        refine (HE.out.1 w5 u' (by have := X3.out.2.2.2.2.2.2.2; rw [List.length_cons] at this; omega) X5.out.2.1).mono ?_
        rintro e w6 ⟨hs6, h6, hres⟩
        cases hrd : block (stm inn) u' with
        | bad t =>
          rw [hrd] at hres h6
          subst hres
          have X6 := Lib.hid (And.intro (X5.out.1.step hs6) (And.intro h6 hrd))
          clear hs6 h6 hrd
          go_wp2_with fail
          refine ⟨rfl, ?_⟩
          rw [branch_is, X1.out.2.2.2.2.1]
          show Got w rb tv xs inn ((block (stm inn) q).then_ _) _ _
          rw [X3.out.2.2.2.1]
          show Got w rb tv xs inn (ifTail inn x l ([101, 108, 115, 101] :: u')) _ _
          rw [ifTail_yes, X6.out.2.2]
          exact X6.out.1.bad X6.out.2.1
        | ok l2 t =>
          rw [hrd] at hres h6
          obtain ⟨v, rfl, hM6⟩ := hres
          obtain ⟨m2, e2, rfl⟩ := hM6.form
          have hrbA : rb < wA.heap.size := Nat.lt_trans X0.out.1.hrb X0.out.1.lt
          have hcb := X3.out.2.2.2.2.1
          have hz24 : w2.heap.size ≤ w4.heap.size := Nat.le_trans HZ.out.1 HZ.out.2.2
          have R6 := X5.out.1.step hs6
          have row6 := (hs6.kept (heap_lt X5.out.2.2.1) (by have := X3.out.1.hrb; omega)).trans X5.out.2.2.1
          obtain ⟨x0, x1, x2, x3, x4, f0, f1, f2, f3, f4⟩ := row5 row6
          have hp1 : Put w6 (w6.setCell ⟨b4, 4, none⟩ (.slice m2 (Ns.of l2).len e2)) b4 #[.int .u8 9, .string ⟨#[]⟩, .slice (some ⟨b2, 0, none⟩) 1 1, .slice m1 (Ns.of l).len e1, .slice m2 (Ns.of l2).len e2] TN := Put.one row6 4 _
          obtain ⟨w7, hw7⟩ : ∃ w7, w7 = w6.setCell ⟨b4, 4, none⟩ (.slice m2 (Ns.of l2).len e2) := ⟨_, rfl⟩
          rw [← hw7] at hp1
          have hsz := hp1.size
          have z3 := HZ.out.1
          have z4 := X5.out.2.2.2.2.2
          have hbz := HZ.out.2.1
          have L1 : LR w7 TN wA.heap.size w2.heap.size (.slice (some ⟨b2, 0, none⟩) 1 1) (Ns.of [x]) := LR.frame (LR.kept X5.out.2.2.2.1 hs6 hrbA (by omega)) fun b q1 q2 => hp1.oth b (by omega)
          have L2 : LR w7 TN w2.heap.size w3.heap.size (.slice m1 (Ns.of l).len e1) (Ns.of l) := LR.frame (LR.kept X5.out.2.2.2.2.1 hs6 (by have := X1.out.2.2.2.1; omega) (by have := HZ.out.2.2; omega)) fun b q1 q2 => hp1.oth b (by omega)
          have hb4lt := heap_lt X5.out.2.2.1
          have L3 : LR w7 TN w5.heap.size w6.heap.size (.slice m2 (Ns.of l2).len e2) (Ns.of l2) := LR.frame hM6 fun b q1 q2 => hp1.oth b (by omega)
          have hN7 : NR w7 TN wA.heap.size w7.heap.size (.agg #[.int .u8 ((9 : Nat) : Int), .string (tx []), .slice (some ⟨b2, 0, none⟩) 1 1, .slice m1 (Ns.of l).len e1, .slice m2 (Ns.of l2).len e2]) ⟨9, [], Ns.of [x], Ns.of l, Ns.of l2⟩ :=
            NR.mk (by decide) (by decide) L1 L2 (L3.mono (show w3.heap.size ≤ w5.heap.size by have := HZ.out.2.2; omega) (by omega)) X1.out.2.2.2.1 z3 (by have := HZ.out.2.2; have := hs6.size; omega)
          have R7 := R6.put hp1 hcb
          obtain ⟨z0', z1', z2', z3', z4', _, _, _, _, _⟩ := row5 hp1.row
          obtain ⟨y0, y1, y2, y3, y4, g0, g1, g2, g3, g4⟩ := row5 R7.row
          have X7 := Lib.hid (And.intro R7 (And.intro (h6.put hp1 (by have := X3.out.1.hrb; omega)) (And.intro (NR.past X0.out.1 hN7) hrd)))
          clear hs6 h6 hrd hM6 hrbA hcb hz24 R6 row6 hp1 hsz z3 z4 hbz L1 L2 hb4lt L3 hN7 R7
          go_upto_region 4 with fail
          rw [← hw7]
          clear hw7 x0 x1 x2 x3 x4 f0 f1 f2 f3 f4
          go_wp2_with fail
          have hp := put5 X7.out.1.row (.int .u8 9) (.string ⟨#[]⟩) (.slice (some ⟨b2, 0, none⟩) 1 1) (.slice m1 (Ns.of l).len e1) (.slice m2 (Ns.of l2).len e2)
          refine bodyPost_ret (results_cell1 rfl _ _ _ rfl (nodeVar _ c _ _ _ _ _ hp.row)) rfl ?_
          rw [branch_is, X1.out.2.2.2.2.1]
          show Got w rb tv xs inn ((block (stm inn) q).then_ _) _ _
          rw [X3.out.2.2.2.1]
          show Got w rb tv xs inn (ifTail inn x l ([101, 108, 115, 101] :: u')) _ _
          rw [ifTail_yes, X7.out.2.2.2]
          exact X7.out.1.fin (x := ⟨9, [], Ns.of [x], Ns.of l, Ns.of l2⟩) X7.out.2.1 X7.out.2.2.1 (fun _ h => h) hp
      · refine takes_no X3.out.2.2.1 [101, 108, 115, 101] (by decide) hh fun w5 hb5 => ?_
        have R5 := X3.out.1.below hb5
        have row5' := (hb5.block _ (heap_lt X3.out.2.1)).trans X3.out.2.1
        obtain ⟨x0, x1, x2, x3, x4, _, _, _, _, _⟩ := row5 row5'
        obtain ⟨y0, y1, y2, y3, y4, g0, g1, g2, g3, g4⟩ := row5 R5.row
        have hN5 : NR w5 TN wA.heap.size w5.heap.size (.agg #[.int .u8 ((9 : Nat) : Int), .string (tx []), .slice (some ⟨b2, 0, none⟩) 1 1, .slice m1 (Ns.of l).len e1, .slice none 0 0]) ⟨9, [], Ns.of [x], Ns.of l, .nil⟩ :=
          NR.mk (by decide) (by decide) (LR.later X3.out.2.2.2.2.2.1 hb5 (Nat.le_trans HZ.out.1 HZ.out.2.2)) (LR.later X3.out.2.2.2.2.2.2.1 hb5 HZ.out.2.2) (LR.nil _ _ _ w5.heap.size) X1.out.2.2.2.1 HZ.out.1 (Nat.le_trans HZ.out.2.2 hb5.size)
        have X5 := Lib.hid (And.intro R5 (And.intro (X3.out.2.2.1.later hb5) (And.intro hh (NR.past X0.out.1 hN5))))
        clear hb5 R5 row5' hh hN5
        go_wp2_with fail
        have hp := put5 X5.out.1.row (.int .u8 9) (.string ⟨#[]⟩) (.slice (some ⟨b2, 0, none⟩) 1 1) (.slice m1 (Ns.of l).len e1) (.slice none 0 0)
        refine bodyPost_ret (results_cell1 rfl _ _ _ rfl (nodeVar _ c _ _ _ _ _ hp.row)) rfl ?_
        rw [branch_is, X1.out.2.2.2.2.1]
        show Got w rb tv xs inn ((block (stm inn) q).then_ _) _ _
        rw [X3.out.2.2.2.1]
        show Got w rb tv xs inn (ifTail inn x l u) _ _
        rw [ifTail_no inn x l u X5.out.2.2.1]
        exact X5.out.1.fin (x := ⟨9, [], Ns.of [x], Ns.of l, .nil⟩) X5.out.2.1 X5.out.2.2.2 (fun _ h => h) hp
end Go.Proofs.YtobpnjnfpgcpaaaGreatDoor
