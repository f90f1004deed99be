/- Trees, as the document has them: the reader: a function. -/
import Derived.Test.YtcldcigopkfmmaaGreatDoorRrStm2Q
import Derived.Test.YtcldcigopkfmmaaGreatDoorTrD3
namespace Go.Nd
theorem func_end {bad : Bool} {ts : List Tx} {r0 : R Tx} {m1 : R Unit} {sv : R (List Tx)} {B : R (List Nd)} {s : Tx} {l : List Tx} {b : List Nd} (h0 : r0 = gate bad ts (nameOf ts)) (h1 : m1 = mustG r0.isBad r0.rest [40]) (h2 : sv = gate m1.isBad m1.rest (several [41] nameOf m1.rest)) (h3 : B = gate sv.isBad sv.rest (block (stm true) sv.rest))
    (i0 : r0.Is s) (i2 : sv.Is l) (i3 : B.Is b) : (gate bad ts (func ts)).rest = B.rest ∧ (gate bad ts (func ts)).isBad = B.isBad ∧ (gate bad ts (func ts)).Is ⟨s, l, Ns.of b⟩ := by
  cases bad with
  | true =>
    subst h0 h1 h2 h3
    exact ⟨rfl, rfl, R.Is.bad _ _⟩
  | false =>
    rw [gate_ok, func_is]
    rw [gate_ok] at h0
    cases hn : nameOf ts with
    | bad q => rw [hn] at h0; subst h0 h1 h2 h3; exact ⟨rfl, rfl, R.Is.bad _ _⟩
    | ok n q =>
      rw [hn] at h0
      subst h0
      obtain rfl := i0 n q rfl
      have hm1 : m1 = must [40] () q := h1
      show (((must [40] () q).then_ _).rest = _) ∧ _
      rw [show ((R.ok n q).then_ fun n r => (must [40] () r).then_ fun _ r1 => (several [41] nameOf r1).then_ fun ar r2 => (block (stm true) r2).map fun b => (⟨n, ar, Ns.of b⟩ : Fn)) = (must [40] () q).then_ fun _ r1 => (several [41] nameOf r1).then_ fun ar r2 => (block (stm true) r2).map fun b => (⟨n, ar, Ns.of b⟩ : Fn) from rfl]
      rw [← hm1]
      cases m1 with
      | bad q1 => subst h2 h3; exact ⟨rfl, rfl, R.Is.bad _ _⟩
      | ok u q1 =>
        have hsv : sv = several [41] nameOf q1 := h2
        rw [show ((R.ok u q1).then_ fun _ r1 => (several [41] nameOf r1).then_ fun ar r2 => (block (stm true) r2).map fun b => (⟨n, ar, Ns.of b⟩ : Fn)) = (several [41] nameOf q1).then_ fun ar r2 => (block (stm true) r2).map fun b => (⟨n, ar, Ns.of b⟩ : Fn) from rfl]
        rw [← hsv]
        cases sv with
        | bad q2 => subst h3; exact ⟨rfl, rfl, R.Is.bad _ _⟩
        | ok ar q2 =>
          obtain rfl := i2 ar q2 rfl
          have hB : B = block (stm true) q2 := h3
          rw [show ((R.ok ar q2).then_ fun ar r2 => (block (stm true) r2).map fun b => (⟨n, ar, Ns.of b⟩ : Fn)) = (block (stm true) q2).map fun b => (⟨n, ar, Ns.of b⟩ : Fn) from rfl]
          rw [← hB]
          exact ⟨R.map_rest _ _, R.map_isBad _ _, i3.map _⟩
end Go.Nd
namespace Go.Proofs.YtcldcigopkfmmaaGreatDoor
open Go.RowKit Go.My Go.Nd

theorem nm_any {w : World} {rb : Nat} {tv : Value} {xs : List To.T} {ts : List Tx} {inn bad : Bool} (h : Rr w rb tv xs ts inn bad) {Q : Ending → World → Prop} (hQ : ∀ w' s, Step w w' (some rb) → Rr w' rb tv xs (gate bad ts (nameOf ts)).rest inn (gate bad ts (nameOf ts)).isBad → (gate bad ts (nameOf ts)).Is s → s.length ≤ 65536 → Q (.returned (.string (bs s))) w') :
    Calls Tryz.prog 106 #[.pointer (some ⟨rb, 0, none⟩)] w Q := by
  by_cases hh : nameAt bad ts = true
  · cases bad with
    | true => cases hh
    | false =>
      cases ts with
      | nil => exact absurd hh (by decide)
      | cons s r =>
        have hsl : s.length ≤ 65536 := by obtain ⟨_, _, _, _, _, _, _, _, _, _, hs, _⟩ := h.token 0 (by simp); simpa using hs
        have hn : To.name s = true := hh
        have e : gate false (s :: r) (nameOf (s :: r)) = .ok s r := by rw [gate_ok]; unfold nameOf; simp only; rw [if_pos hn]
        rw [e] at hQ
        exact nm_yes h hn fun w' hs h' => hQ w' s hs h' (R.Is.ok _ _) hsl
  · have hf : nameAt bad ts = false := by simpa using hh
    have e : gate bad ts (nameOf ts) = .bad ts := by
      cases bad with
      | true => rfl
      | false =>
        cases ts with
        | nil => rfl
        | cons s r => rw [gate_ok]; unfold nameOf; simp only; rw [if_neg (show ¬ To.name s = true by have : To.name s = false := hf; rw [this]; decide)]
    rw [e] at hQ
    exact nm_no h hf fun w' hs h' => hQ w' [] hs h' (R.Is.bad _ _) (by decide)

/-- APPEND OF A TEXT, AS ONE STEP OF A REGION THAT DRAWS ITS ORDER. -/
theorem step_text {w : World} {ops : Array Oper} {o : Oper} {a : Act} {K : Act → World → Prop} {Q : Exit → Act → World → Prop} {X : Prop} (hgd : o.guard = none) (s x : Operand)
    (ho : o.op = .call { callee := .builtin .append, args := #[s, x], argTypes := #[68, 68] }) {v : Value} {l : List Tx} {lo hi : Nat} {y : Value} {u : Tx}
    (hs : a.eval s = v) (hown : TR w lo hi v l) (hu : u.length ≤ 65536) (hy : a.eval x = y) (hx : Src w 1 y 1 [.string (bs u)]) (h1 : lo ≤ hi) (h2 : hi ≤ w.heap.size) (hn : (l.length + 1) * 16 ≤ 140737488351232)
    (h : ∀ ao cap w', TR w' lo w'.heap.size (.slice ao (l.length + 1) cap) (l ++ [u]) → Below lo w w' → K (a.put o.dst (.slice ao (l.length + 1) cap)) w') :
    if Region.wanted o (yielded ops a.tmps) = true then Oper.wp Tryz.prog o a w K Q else X := by
  obtain ⟨k, ho', hk, _⟩ := TR.app (w' := w) (v' := v) hu hn hown h1 h2
  refine step_append hgd s x ho strEl hs ho' hy hx (by simp [Value.oneCell']) (by simp only [maxLen]; omega) (by omega) fun v' w' k' q1 q2 q3 => ?_
  obtain ⟨ao, cap, rfl⟩ := own_form q1
  obtain ⟨k2, ho2, _, go⟩ := TR.app (w' := w') (v' := .slice ao (l.length + 1) cap) hu hn hown h1 h2
  have hkk : k2 = k := by
    obtain ⟨_, e1⟩ := ho'
    obtain ⟨_, e2⟩ := ho2
    rcases e1 with ⟨rfl, _, rfl⟩ | ⟨b, off, c, cur, rfl, rfl, _⟩ <;> rcases e2 with ⟨e, _, rfl⟩ | ⟨b', off', c', cur', e, rfl, _⟩
    · rfl
    · cases e
    · cases e
    · cases e; rfl
  subst hkk
  exact h ao cap w' (go k' q1 q2 q3) (q2.below (by have := h1; omega) fun b hb => (hk b hb).1)

theorem No.gateT {r : R Tx} {s : Tx} (h : ∀ x q, r = .ok x q → q.head? ≠ some s) : No r.isBad r.rest s := by
  cases r with
  | ok x q => exact No.head (h x q rfl) _
  | bad q => rfl

theorem row3_alloc {w : World} {c : Nat} {v0 v1 v2 : Value} {T : TypeId} (h : w.heap[c]? = some (.cells #[v0, v1, v2] T (0, 0))) (o : Obj) : (w.alloc o).heap[c]? = some (.cells #[v0, v1, v2] T (0, 0)) :=
  ((Below.alloc (Below.refl _ w) (Nat.le_refl _) o).block c (heap_lt h)).trans h

/-- What a call that reads a function does. -/
def GotFR (w : World) (rb : Nat) (tv : Value) (xs : List To.T) (r : R Nd.Fn) (e : Ending) (w' : World) : Prop :=
  Step w w' (some rb) ∧ Rr w' rb tv xs r.rest false r.isBad ∧ ∃ v f, e = .returned v ∧ FR w' w.heap.size w'.heap.size v f ∧ r.Is f

/-- A function's box, ahead of its body. -/
structure FnSt (w : World) (rb : Nat) (tv : Value) (xs : List To.T) (c b3 : Nat) (s : Tx) (l : List Tx) (va : Value) (ts : List Tx) (inn bad : Bool) (wr : World) : Prop where
  hA : RF w rb c wr
  rd : Rr wr rb tv xs ts inn bad
  hb : c < b3
  box : wr.heap[b3]? = some (.cells #[.string (bs s), va, .slice none 0 0] TFn (0, 0))
  args : TR wr (b3 + 1) wr.heap.size va l
theorem FnSt.step {w : World} {rb : Nat} {tv : Value} {xs : List To.T} {c b3 : Nat} {s : Tx} {l : List Tx} {va : Value} {ts ts' : List Tx} {inn inn' bad bad' : Bool} {wr w' : World} (h : FnSt w rb tv xs c b3 s l va ts inn bad wr) (hs : Step wr w' (some rb)) (hr : Rr w' rb tv xs ts' inn' bad') : FnSt w rb tv xs c b3 s l va ts' inn' bad' w' := by
  have hrb := h.hA.hrb
  have hcb := h.hb
  exact ⟨h.hA.step hs, hr, hcb, (hs.kept (heap_lt h.box) (by omega)).trans h.box, (h.args.kept hs (by omega) (Nat.le_refl _)).mono (Nat.le_refl _) hs.size⟩
theorem FnSt.lt {w : World} {rb : Nat} {tv : Value} {xs : List To.T} {c b3 : Nat} {s : Tx} {l : List Tx} {va : Value} {ts : List Tx} {inn bad : Bool} {wr : World} (h : FnSt w rb tv xs c b3 s l va ts inn bad wr) : b3 + 1 ≤ wr.heap.size := heap_lt h.box
/-- One more argument. -/
theorem FnSt.more {w : World} {rb : Nat} {tv : Value} {xs : List To.T} {c b3 : Nat} {s u : Tx} {l : List Tx} {va va' : Value} {ts ts' : List Tx} {inn bad bad' : Bool} {wr w2 w4 w5 w6 : World} (h : FnSt w rb tv xs c b3 s l va ts inn bad wr) (hs : Step wr w2 (some rb)) (hr : Rr w2 rb tv xs ts' inn bad') (hA : Below w2.heap.size w2 w4) (hB : Below (b3 + 1) w4 w5) (hT : TR w5 (b3 + 1) w5.heap.size va' (l ++ [u]))
    (hp : Put w5 w6 b3 #[.string (bs s), va', .slice none 0 0] TFn) : FnSt w rb tv xs c b3 s (l ++ [u]) va' ts' inn bad' w6 := by
  have hrb := h.hA.hrb
  have hcb := h.hb
  have hc := h.hA.hc
  have hlt := h.lt
  have s4 : Step wr w4 (some rb) := hs.trans (Step.of_below hA)
  have hA5 : RF w rb c w5 := by
    have k4 := h.hA.step s4
    exact ⟨k4.hc, k4.hrb, ⟨hB.os.trans k4.st.os, hB.tape.trans k4.st.tape, hB.output.trans k4.st.output, Nat.le_trans k4.st.size hB.size, fun k hk hk' => (hB.block k (by omega)).trans (k4.st.block k hk hk')⟩, (hB.block c (by omega)).trans k4.row⟩
  exact ⟨hA5.put hp hcb, ((hr.later hA).keep hB.size fun k hk => hB.block k (by omega)).put hp (by omega), hcb, hp.row, by rw [hp.size]; exact hT.frame fun b q1 _ => hp.oth b (by omega)⟩

theorem FnSt.fin {w : World} {rb : Nat} {tv : Value} {xs : List To.T} {c b3 : Nat} {s : Tx} {l : List Tx} {bl : List Nd} {va vb : Value} {ts : List Tx} {bad : Bool} {w8 w9 w10 w11 w12 : World} {B : R (List Nd)} {r : R Nd.Fn} (h8 : FnSt w rb tv xs c b3 s l va ts true bad w8) (hs9 : Step w8 w9 (some rb)) (h9 : Rr w9 rb tv xs B.rest true B.isBad) (hL : LR w9 TN w8.heap.size w9.heap.size vb (Ns.of bl)) (hsl : s.length ≤ 65536)
    (hp10 : Put w9 w10 b3 #[.string (bs s), va, vb] TFn) (hw11 : w11 = w10.setCell ⟨rb, 2, none⟩ (.bool false)) (hp12 : Put w11 w12 c #[.string (bs s), va, vb] TFn) (hr : r.rest = B.rest ∧ r.isBad = B.isBad ∧ r.Is ⟨s, l, Ns.of bl⟩) : GotFR w rb tv xs r (.returned (.agg #[.string (bs s), va, vb])) w12 := by
  have hrb := h8.hA.hrb
  have hcb := h8.hb
  have hc := h8.hA.hc
  have hlt := h8.lt
  have z9 := hs9.size
  have h10 := h9.put hp10 (by omega)
  have hin := h10.setInner false
  rw [← hw11] at hin
  have s11 : Step w w11 (some rb) := ((h8.hA.st.trans hs9).put hp10 (by omega)).trans hin.1
  have z10 := hp10.size
  have z11 := hin.1.size
  have z12 := hp12.size
  have oth : ∀ b, b3 < b → b < w9.heap.size → w12.heap[b]? = w9.heap[b]? := fun b hb hlt => (hp12.oth b (by omega)).trans ((hin.1.kept (by omega) (by omega)).trans (hp10.oth b (by omega)))
  have ta : TR w12 (b3 + 1) w8.heap.size va l := (h8.args.kept hs9 (by omega) (Nat.le_refl _)).frame fun b q1 q2 => oth b (by omega) (by omega)
  have tb : LR w12 TN w8.heap.size w9.heap.size vb (Ns.of bl) := LR.frame hL fun b q1 q2 => oth b (by omega) q2
  rw [← hr.1, ← hr.2.1] at hin
  exact ⟨s11.put hp12 (by omega), hin.2.put hp12 hrb, _, _, rfl, (FR.mk hsl ta tb (by omega) z9).mono (by omega) (by omega), hr.2.2⟩

structure FnLp (w : World) (rb : Nat) (tv : Value) (xs : List To.T) (c b3 m : Nat) (s : Tx) (tot : R (List Tx)) (l : List Tx) (va : Value) (ts : List Tx) (bad : Bool) (wr : World) : Prop where
  st : FnSt w rb tv xs c b3 s l va ts false bad wr
  plain : tot = gate bad ts (((nameOf ts).then_ fun x r => (sevTail [41] nameOf r).map (x :: ·)).map (l ++ ·))
  many : bad = false → l.length + ts.length ≤ m
def FnAt (w : World) (rb : Nat) (tv : Value) (xs : List To.T) (c b3 m : Nat) (s : Tx) (tot : R (List Tx)) (gk : Nat) (wr : World) : Prop :=
  ∃ l va ts bad, gk = (if bad then 0 else ts.length + 1) ∧ FnLp w rb tv xs c b3 m s tot l va ts bad wr

set_option maxRecDepth 100000 in
set_option maxHeartbeats 8000000 in
theorem rfunc_t {rb : Nat} {tv : Value} {xs : List To.T} {w : World} {ts : List Tx} {bad : Bool} (h : Rr w rb tv xs ts false bad) :
    Calls Tryz.prog 59 #[.pointer (some ⟨rb, 0, none⟩)] w (GotFR w rb tv xs (gate bad ts (func ts))) := by
  have R0 := RF.start h.lt
  have h0 := h.later (Put.new w #[.string ⟨#[]⟩, .slice none 0 0, .slice none 0 0] TFn).1
  obtain ⟨c, hc⟩ : ∃ c, c = w.heap.size := ⟨_, rfl⟩
  obtain ⟨wA, hwA⟩ : ∃ wA, wA = w.alloc (.cells #[.string ⟨#[]⟩, .slice none 0 0, .slice none 0 0] TFn) := ⟨_, rfl⟩
  rw [← hwA] at R0 h0
  rw [← hc] at R0
  have X0 := Lib.hid (And.intro R0 h0)
  have HL := Lib.hid (And.intro h.le h.len)
  clear h R0 h0
  go_enter Tryz.func59, Tryz.ntmps59
  go_upto_region 1 with fail
  rw [← hwA, ← hc]
  clear hwA hc
  go_wp2_with fail
  refine nm_any X0.out.2 fun w1 s hs1 h1 hi1 hsl => ?_
  obtain ⟨r0, hr0⟩ : ∃ r0, r0 = gate bad ts (nameOf ts) := ⟨_, rfl⟩
  rw [← hr0] at h1 hi1
  have hst : FnSt w rb tv xs c w1.heap.size s [] (.slice none 0 0) r0.rest false r0.isBad (w1.alloc (.cells #[.string (bs s), .slice none 0 0, .slice none 0 0] TFn)) := by
    obtain ⟨hA, hn, hz⟩ := Put.new w1 #[.string (bs s), .slice none 0 0, .slice none 0 0] TFn
    have hlt := X0.out.1.lt
    have hs := hs1.size
    exact ⟨(X0.out.1.step hs1).below hA, h1.later hA, by omega, hn, TR.nil _ _ _⟩
  obtain ⟨b3, hb3⟩ : ∃ b3, b3 = w1.heap.size := ⟨_, rfl⟩
  obtain ⟨w3, hw3, hst⟩ := hide_world (P := fun w3 => FnSt _ _ _ _ _ _ _ _ _ _ _ _ w3) hst
  rw [← hb3] at hst
  have X1 := Lib.hid (And.intro hst (And.intro hr0 (And.intro hi1 hsl)))
  clear hst hs1 h1 hi1 hr0 hsl
  go_upto_region 2 with fail
  rw [← hw3, ← hb3]
  clear hw3 hb3
  go_wp2_with fail
  refine mu_any X1.out.1.rd [40] fun w4 hs4 h4 => ?_
  obtain ⟨m1, hm1⟩ : ∃ m1, m1 = mustG r0.isBad r0.rest [40] := ⟨_, rfl⟩
  rw [← hm1] at h4
  have X4 := Lib.hid (And.intro (X1.out.1.step hs4 h4) hm1)
  clear hs4 h4 hm1
  obtain ⟨sv, hsv⟩ : ∃ sv, sv = gate m1.isBad m1.rest (several [41] nameOf m1.rest) := ⟨_, rfl⟩
  have HSV := Lib.hid hsv
  clear hsv
  go_wp2_with fail
  by_cases hh : m1.isBad = false ∧ m1.rest.head? = some [41]
  · obtain ⟨hh1, hh2⟩ := hh
    obtain ⟨q, hq⟩ := head_form hh2
    have h4 := X4.out.1.rd
    rw [hh1, hq] at h4
    refine tk_yes h4 fun w5 hs5 h5 => ?_
    have hs : sv = .ok [] q := by rw [HSV.out, hh1, hq, gate_ok, several_none]
    have hst := X4.out.1.step hs5 h5
    obtain ⟨l, hl⟩ : ∃ l : List Tx, l = [] := ⟨_, rfl⟩
    obtain ⟨va0, hva⟩ : ∃ va0 : Option Addr, va0 = none := ⟨_, rfl⟩
    obtain ⟨vac, hvc⟩ : ∃ vac : Nat, vac = 0 := ⟨_, rfl⟩
    have XT := Lib.hid (show FnSt w rb tv xs c b3 s l (.slice va0 l.length vac) sv.rest false sv.isBad w5 ∧ sv.Is l from ⟨by rw [hl, hva, hvc, hs]; exact hst, by rw [hs, hl]; exact R.Is.ok _ _⟩)
    clear hst hs5 h5 h4 hh1 hh2 hq hs hl hva hvc
    have hin := XT.out.1.rd.setInner true
    obtain ⟨_, _, k2, _, _, kf2, _⟩ := XT.out.1.rd.cell
    have hst := XT.out.1.step hin.1 hin.2
    obtain ⟨w8, hw8, hst⟩ := hide_world (P := fun w8 => FnSt _ _ _ _ _ _ _ _ _ _ _ _ w8) hst
    have X8 := Lib.hid hst
    clear hin hst
    go_upto_region 9 with fail
    rw [← hw8]
    clear hw8 k2 kf2
    go_wp2_with fail
    refine (rblock_t (rstm_r sv.rest.length) (stm_down true) (Nat.le_succ _) X8.out.rd).mono ?_
    rintro e w9 ⟨hs9, h9, v9, bl, rfl, hL9, hi9⟩
    obtain ⟨p1, q1, rfl⟩ := hL9.form
    obtain ⟨B, hB⟩ : ∃ B, B = gate sv.isBad sv.rest (block (stm true) sv.rest) := ⟨_, rfl⟩
    rw [← hB] at h9 hi9
    have hst9 := X8.out.step hs9 h9
    obtain ⟨e0, e1, e2, f0, f1, f2⟩ := row3 hst9.box
    have hp10 : Put w9 (w9.setCell ⟨b3, 2, none⟩ (.slice p1 (Ns.of bl).len q1)) b3 #[.string (bs s), .slice va0 l.length vac, .slice p1 (Ns.of bl).len q1] TFn := Put.one hst9.box 2 _
    obtain ⟨w10, hw10, hp10⟩ := hide_world (P := fun w10 => Put w9 w10 b3 #[.string (bs s), .slice va0 l.length vac, .slice p1 (Ns.of bl).len q1] TFn) hp10
    have hend := func_end X1.out.2.1 X4.out.2 HSV.out hB X1.out.2.2.1 XT.out.2 hi9
    have hA10 := hst9.hA.put hp10 hst9.hb
    have hrd10 := hst9.rd.put hp10 (by have := hst9.hA.hrb; have := hst9.hb; omega)
    have X9 := Lib.hid (And.intro hs9 (And.intro h9 (And.intro hL9 (And.intro hp10 (And.intro hend (And.intro hA10 hrd10))))))
    clear hs9 h9 hL9 hi9 hB hst9 hend hA10 hrd10 hp10
    go_upto_region 10 with fail
    rw [← hw10]
    clear hw10 e0 e1 e2 f0 f1 f2
    obtain ⟨_, _, k2, _, _, kf2, _⟩ := X9.out.2.2.2.2.2.2.cell
    have hin := X9.out.2.2.2.2.2.2.setInner false
    have hA11 := X9.out.2.2.2.2.2.1.step hin.1
    have hbx := (hin.1.kept (heap_lt X9.out.2.2.2.1.row) (by have := X8.out.hb; have := X8.out.hA.hrb; omega)).trans X9.out.2.2.2.1.row
    obtain ⟨w11, hw11⟩ : ∃ w11, w11 = w10.setCell ⟨rb, 2, none⟩ (.bool false) := ⟨_, rfl⟩
    rw [← hw11] at hA11 hbx
    have HW := Lib.hid (And.intro hw11 hA11.row)
    go_upto_region 11 with fail
    rw [← hw11]
    clear hw11 k2 kf2 hin
    obtain ⟨e0, e1, e2, _, _, _⟩ := row3 hbx
    obtain ⟨g0, g1, g2, f0, f1, f2⟩ := row3 hA11.row
    clear hA11 hbx
    go_wp2_with fail
    have hp := put3 HW.out.2 (.string (bs s)) (.slice va0 l.length vac) (.slice p1 (Ns.of bl).len q1)
    refine bodyPost_ret (results_cell1 rfl _ _ _ rfl (fnVar _ c _ _ _ hp.row)) rfl ?_
    exact X8.out.fin X9.out.1 X9.out.2.1 X9.out.2.2.1 X1.out.2.2.2 X9.out.2.2.2.1 HW.out.1 hp X9.out.2.2.2.2.1
  · have hno : No m1.isBad m1.rest [41] := by
      cases hb : m1.isBad with
      | true => rfl
      | false => exact No.head (fun e => hh ⟨hb, e⟩) _
    have hpl : sv = gate m1.isBad m1.rest (((nameOf m1.rest).then_ fun x r => (sevTail [41] nameOf r).map (x :: ·)).map ([] ++ ·)) := by
      rw [HSV.out]
      cases hb : m1.isBad with
      | true => rfl
      | false =>
        rw [gate_ok, gate_ok, several_first nameOf_down m1.rest (fun e => hh ⟨hb, e⟩)]
        rw [show (fun (x : List Tx) => [] ++ x) = id from funext fun x => List.nil_append x]
        generalize (nameOf m1.rest).then_ (fun x r => (sevTail [41] nameOf r).map (x :: ·)) = z
        cases z <;> rfl
    have HPL := Lib.hid hpl
    clear hh hpl
    refine tk_no X4.out.1.rd [41] hno ?_
    clear hno
    obtain ⟨ts0, hts0⟩ : ∃ ts0, ts0 = m1.rest := ⟨_, rfl⟩
    obtain ⟨bad0, hbad0⟩ : ∃ bad0, bad0 = m1.isBad := ⟨_, rfl⟩
    have HIN := Lib.hid (show FnLp w rb tv xs c b3 xs.length s sv [] (.slice none 0 0) ts0 bad0 w4 by
      rw [hts0, hbad0]
      exact ⟨X4.out.1, HPL.out, fun _ => by have := X4.out.1.rd.le; simpa using this⟩)
    clear hts0 hbad0
    go_wp2_with fail
    go_loopg [] (if bad0 then 0 else ts0.length + 1) (fun gk wr => FnAt w rb tv xs c b3 xs.length s sv gk wr)
    case atStart => exact ⟨[], _, ts0, bad0, rfl, HIN.out⟩
    case round =>
      obtain ⟨l, va, ts1, bad1, rfl, hst⟩ := hrel
      obtain ⟨va0, vac, rfl⟩ := hst.st.args.form
      obtain ⟨_, _, _, c3, _, _, _⟩ := hst.st.rd.cell
      have HS := Lib.hid hst
      clear hst HIN
      cases bad1 with
      | true =>
        have hs : sv = .bad ts1 := HS.out.plain
        have XT := Lib.hid (show FnSt w rb tv xs c b3 s l (.slice va0 l.length vac) sv.rest false sv.isBad wr ∧ sv.Is l from ⟨by rw [hs]; exact HS.out.st, by rw [hs]; exact R.Is.bad _ _⟩)
        clear hs
        have hin := XT.out.1.rd.setInner true
        obtain ⟨_, _, k2, _, _, kf2, _⟩ := XT.out.1.rd.cell
        have hst := XT.out.1.step hin.1 hin.2
        obtain ⟨w8, hw8, hst⟩ := hide_world (P := fun w8 => FnSt _ _ _ _ _ _ _ _ _ _ _ _ w8) hst
        have X8 := Lib.hid hst
        clear hin hst
        go_upto_region 9 with fail
        rw [← hw8]
        clear hw8 k2 kf2
        go_wp2_with fail
        refine (rblock_t (rstm_r sv.rest.length) (stm_down true) (Nat.le_succ _) X8.out.rd).mono ?_
        rintro e w9 ⟨hs9, h9, v9, bl, rfl, hL9, hi9⟩
        obtain ⟨p1, q1, rfl⟩ := hL9.form
        obtain ⟨B, hB⟩ : ∃ B, B = gate sv.isBad sv.rest (block (stm true) sv.rest) := ⟨_, rfl⟩
        rw [← hB] at h9 hi9
        have hst9 := X8.out.step hs9 h9
        obtain ⟨e0, e1, e2, f0, f1, f2⟩ := row3 hst9.box
        have hp10 : Put w9 (w9.setCell ⟨b3, 2, none⟩ (.slice p1 (Ns.of bl).len q1)) b3 #[.string (bs s), .slice va0 l.length vac, .slice p1 (Ns.of bl).len q1] TFn := Put.one hst9.box 2 _
        obtain ⟨w10, hw10, hp10⟩ := hide_world (P := fun w10 => Put w9 w10 b3 #[.string (bs s), .slice va0 l.length vac, .slice p1 (Ns.of bl).len q1] TFn) hp10
        have hend := func_end X1.out.2.1 X4.out.2 HSV.out hB X1.out.2.2.1 XT.out.2 hi9
        have hA10 := hst9.hA.put hp10 hst9.hb
        have hrd10 := hst9.rd.put hp10 (by have := hst9.hA.hrb; have := hst9.hb; omega)
        have X9 := Lib.hid (And.intro hs9 (And.intro h9 (And.intro hL9 (And.intro hp10 (And.intro hend (And.intro hA10 hrd10))))))
        clear hs9 h9 hL9 hi9 hB hst9 hend hA10 hrd10 hp10
        go_upto_region 10 with fail
        rw [← hw10]
        clear hw10 e0 e1 e2 f0 f1 f2
        obtain ⟨_, _, k2, _, _, kf2, _⟩ := X9.out.2.2.2.2.2.2.cell
        have hin := X9.out.2.2.2.2.2.2.setInner false
        have hA11 := X9.out.2.2.2.2.2.1.step hin.1
        have hbx := (hin.1.kept (heap_lt X9.out.2.2.2.1.row) (by have := X8.out.hb; have := X8.out.hA.hrb; omega)).trans X9.out.2.2.2.1.row
        obtain ⟨w11, hw11⟩ : ∃ w11, w11 = w10.setCell ⟨rb, 2, none⟩ (.bool false) := ⟨_, rfl⟩
        rw [← hw11] at hA11 hbx
        have HW := Lib.hid (And.intro hw11 hA11.row)
        go_upto_region 11 with fail
        rw [← hw11]
        clear hw11 k2 kf2 hin
        obtain ⟨e0, e1, e2, _, _, _⟩ := row3 hbx
        obtain ⟨g0, g1, g2, f0, f1, f2⟩ := row3 hA11.row
        clear hA11 hbx
        go_wp2_with fail
        have hp := put3 HW.out.2 (.string (bs s)) (.slice va0 l.length vac) (.slice p1 (Ns.of bl).len q1)
        refine bodyPost_ret (results_cell1 rfl _ _ _ rfl (fnVar _ c _ _ _ hp.row)) rfl ?_
        exact X8.out.fin X9.out.1 X9.out.2.1 X9.out.2.2.1 X1.out.2.2.2 X9.out.2.2.2.1 HW.out.1 hp X9.out.2.2.2.2.1
      | false =>
        go_upto_region 5 with fail
        have hbox := HS.out.st.box
        obtain ⟨x0, x1, x2, _, _, _⟩ := row3 hbox
        have HAFT := Lib.hid (fun (w2 : World) (hs2 : Step wr.drew w2 (some rb)) => (show w2.heap[b3]? = some (.cells #[.string (bs s), .slice va0 l.length vac, .slice none 0 0] TFn (0, 0)) from (hs2.kept (heap_lt HS.out.st.box) (by have := HS.out.st.hb; have := HS.out.st.hA.hrb; omega)).trans HS.out.st.box))
        have HM := Lib.hid (show (l.length + 1) * 16 ≤ 140737488351232 by have := HS.out.many rfl; have := HL.out; omega)
        have hz3 : b3 + 1 ≤ wr.heap.size := HS.out.st.lt
        have HZ := Lib.hid hz3
        clear hbox hz3 c3
        go_region_law (first
          | (go_simp; go_at_call 106; refine nm_any (HS.out.st.rd.later (Below.refl _ wr).drew) fun w2 u hs2 h2 hi2 hul => ?_; have hrow2 := HAFT.out w2 hs2; obtain ⟨x0', x1', x2', g0', g1', g2'⟩ := row3 hrow2; have y1' := fun o => (row3 (row3_alloc hrow2 o)).2.1; have X2 := Lib.hid (And.intro hs2 (And.intro h2 (And.intro hi2 (And.intro hul hrow2)))); clear hs2 h2 hi2 hul hrow2)
          | (refine step_text rfl (.tmp 18) (.tmp 21) rfl (v := .slice va0 l.length vac) (l := l) (u := u) (lo := b3 + 1) (hi := wr.heap.size) rfl (TR.later (TR.kept (HS.out.st.args.later (Below.refl _ wr).drew (Nat.le_refl _)) X2.out.1 (by have := HS.out.st.hb; have := HS.out.st.hA.hrb; omega) (Nat.le_refl _)) (Put.new w2 #[.string (bs u)] TS).1 X2.out.1.size) X2.out.2.2.2.1 (y := .slice (some ⟨w2.heap.size, 0, none⟩) 1 1) rfl (Src.lit #[.string (bs u)] 9 rfl rfl) HZ.out (Nat.le_trans X2.out.1.size (Put.new w2 #[.string (bs u)] TS).1.size) HM.out ?_; intro ao cp w5 hT hB; have hrow5 := (hB.block b3 (Nat.lt_succ_self _)).trans (row3_alloc X2.out.2.2.2.2 (.cells #[.string (bs u)] TS)); obtain ⟨m0, m1', m2, n0, n1, n2⟩ := row3 hrow5; have X5 := Lib.hid (And.intro hT (And.intro hB hrow5)); clear hT hB hrow5))
        all_goals
          have hp6 : Put w5 (w5.setCell ⟨b3, 1, none⟩ (.slice ao (l.length + 1) cp)) b3 #[.string (bs s), .slice ao (l.length + 1) cp, .slice none 0 0] TFn := Put.one X5.out.2.2 1 _
          have hst6 := HS.out.st.more ((Step.of_below (Below.refl _ wr).drew).trans X2.out.1) X2.out.2.1 (Put.new w2 #[.string (bs u)] TS).1 X5.out.2.1 X5.out.1 hp6
          obtain ⟨w6, hw6, hst6⟩ := hide_world (P := fun w6 => FnSt _ _ _ _ _ _ _ _ _ _ _ _ w6) hst6
          rw [← hw6]
          obtain ⟨r1, hr1⟩ : ∃ r1, r1 = nameOf ts1 := ⟨_, rfl⟩
          have hi1 := X2.out.2.2.1
          rw [gate_ok, ← hr1] at hst6 hi1
          have X6 := Lib.hid (And.intro hst6 (And.intro hi1 (show r1.Down ts1 from hr1 ▸ nameOf_down ts1)))
          have HP := Lib.hid (show sv = (r1.then_ fun x r => (sevTail [41] nameOf r).map (x :: ·)).map (l ++ ·) by rw [HS.out.plain, gate_ok, ← hr1])
          clear hp6 hst6 hw6 hr1 hi1 x0' x1' x2' g0' g1' g2' y1' m0 m1' m2 n0 n1 n2
          go_wp2_with fail
          by_cases k1 : ∃ q, r1 = .ok u ([41] :: q)
          · obtain ⟨q, rfl⟩ := k1
            refine tk_yes (show Rr w6 rb tv xs ([41] :: q) false false from X6.out.1.rd) fun w7 hs7 h7 => ?_
            have hst7 := X6.out.1.step hs7 h7
            have hs : sv = .ok (l ++ [u]) q := by
              rw [HP.out]
              show R.map _ (R.map _ (sevTail [41] nameOf ([41] :: q))) = _
              rw [show sevTail [41] nameOf ([41] :: q) = .ok [] q by unfold sevTail; simp only; rw [if_pos trivial]]
              rfl
            have hll : l.length + 1 = (l ++ [u]).length := by simp
            rw [hll] at hst7
            obtain ⟨l', hl'⟩ : ∃ l' : List Tx, l' = l ++ [u] := ⟨_, rfl⟩
            rw [← hl'] at hst7 hs
            have XT := Lib.hid (show FnSt w rb tv xs c b3 s l' (.slice ao l'.length cp) sv.rest false sv.isBad w7 ∧ sv.Is l' from ⟨by rw [hs]; exact hst7, by rw [hs]; exact R.Is.ok _ _⟩)
            clear hst7 hs hll hl' hs7 h7 HP X6 X5 X2 HS HPL
            have hin := XT.out.1.rd.setInner true
            obtain ⟨_, _, k2, _, _, kf2, _⟩ := XT.out.1.rd.cell
            have hst := XT.out.1.step hin.1 hin.2
            obtain ⟨w8, hw8, hst⟩ := hide_world (P := fun w8 => FnSt _ _ _ _ _ _ _ _ _ _ _ _ w8) hst
            have X8 := Lib.hid hst
            clear hin hst
            go_upto_region 9 with fail
            rw [← hw8]
            clear hw8 k2 kf2
            go_wp2_with fail
            refine (rblock_t (rstm_r sv.rest.length) (stm_down true) (Nat.le_succ _) X8.out.rd).mono ?_
            rintro e w9 ⟨hs9, h9, v9, bl, rfl, hL9, hi9⟩
            obtain ⟨p1, q1, rfl⟩ := hL9.form
            obtain ⟨B, hB⟩ : ∃ B, B = gate sv.isBad sv.rest (block (stm true) sv.rest) := ⟨_, rfl⟩
            rw [← hB] at h9 hi9
            have hst9 := X8.out.step hs9 h9
            obtain ⟨e0, e1, e2, f0, f1, f2⟩ := row3 hst9.box
            have hp10 : Put w9 (w9.setCell ⟨b3, 2, none⟩ (.slice p1 (Ns.of bl).len q1)) b3 #[.string (bs s), .slice ao l'.length cp, .slice p1 (Ns.of bl).len q1] TFn := Put.one hst9.box 2 _
            obtain ⟨w10, hw10, hp10⟩ := hide_world (P := fun w10 => Put w9 w10 b3 #[.string (bs s), .slice ao l'.length cp, .slice p1 (Ns.of bl).len q1] TFn) hp10
            have hend := func_end X1.out.2.1 X4.out.2 HSV.out hB X1.out.2.2.1 XT.out.2 hi9
            have hA10 := hst9.hA.put hp10 hst9.hb
            have hrd10 := hst9.rd.put hp10 (by have := hst9.hA.hrb; have := hst9.hb; omega)
            have X9 := Lib.hid (And.intro hs9 (And.intro h9 (And.intro hL9 (And.intro hp10 (And.intro hend (And.intro hA10 hrd10))))))
            clear hs9 h9 hL9 hi9 hB hst9 hend hA10 hrd10 hp10
            go_upto_region 10 with fail
            rw [← hw10]
            clear hw10 e0 e1 e2 f0 f1 f2
            obtain ⟨_, _, k2, _, _, kf2, _⟩ := X9.out.2.2.2.2.2.2.cell
            have hin := X9.out.2.2.2.2.2.2.setInner false
            have hA11 := X9.out.2.2.2.2.2.1.step hin.1
            have hbx := (hin.1.kept (heap_lt X9.out.2.2.2.1.row) (by have := X8.out.hb; have := X8.out.hA.hrb; omega)).trans X9.out.2.2.2.1.row
            obtain ⟨w11, hw11⟩ : ∃ w11, w11 = w10.setCell ⟨rb, 2, none⟩ (.bool false) := ⟨_, rfl⟩
            rw [← hw11] at hA11 hbx
            have HW := Lib.hid (And.intro hw11 hA11.row)
            go_upto_region 11 with fail
            rw [← hw11]
            clear hw11 k2 kf2 hin
            obtain ⟨e0, e1, e2, _, _, _⟩ := row3 hbx
            obtain ⟨g0, g1, g2, f0, f1, f2⟩ := row3 hA11.row
            clear hA11 hbx
            go_wp2_with fail
            have hp := put3 HW.out.2 (.string (bs s)) (.slice ao l'.length cp) (.slice p1 (Ns.of bl).len q1)
            refine bodyPost_ret (results_cell1 rfl _ _ _ rfl (fnVar _ c _ _ _ hp.row)) rfl ?_
            exact X8.out.fin X9.out.1 X9.out.2.1 X9.out.2.2.1 X1.out.2.2.2 X9.out.2.2.2.1 HW.out.1 hp X9.out.2.2.2.2.1
          · by_cases k2 : ∃ q, r1 = .ok u ([44] :: q)
            · obtain ⟨q, rfl⟩ := k2
              refine tk_no X6.out.1.rd [41] (No.head (by show ([44] :: q).head? ≠ _; simp) _) ?_
              clear k1
              go_wp2_with fail
              refine mu_yes (show Rr w6 rb tv xs ([44] :: q) false false from X6.out.1.rd) fun w7 hs7 h7 => ?_
              have hst7 := X6.out.1.step hs7 h7
              have X7 := Lib.hid hst7
              clear hst7 hs7 h7
              go_wp2_with fail
              go_roundg (if false = true then 0 else q.length + 1)
              case measure => have := X6.out.2.2.2; simp at this ⊢; omega
              case rel =>
                have hq := X6.out.2.2.2
                rw [List.length_cons] at hq
                have h2 := HS.out.many rfl
                refine ⟨l ++ [u], _, q, false, rfl, X7.out, ?_, fun _ => by rw [List.length_append, List.length_singleton]; omega⟩
                rw [gate_ok, HP.out]
                show R.map _ (R.map _ (sevTail [41] nameOf ([44] :: q))) = _
                rw [sevTail_comma nameOf_down (by decide), R.map_map]
                congr 1
                funext a
                simp
            · have hne1 : ∀ y q, r1 = .ok y q → q.head? ≠ some [41] := fun y q e hh => by
                obtain ⟨q', rfl⟩ := head_form hh
                obtain rfl := X6.out.2.1 y _ e
                exact k1 ⟨q', e⟩
              have hne2 : ∀ y q, r1 = .ok y q → q.head? ≠ some [44] := fun y q e hh => by
                obtain ⟨q', rfl⟩ := head_form hh
                obtain rfl := X6.out.2.1 y _ e
                exact k2 ⟨q', e⟩
              have HN2 := Lib.hid (And.intro hne1 hne2)
              clear k1 k2 hne1 hne2
              refine tk_no X6.out.1.rd [41] (No.gateT HN2.out.1) ?_
              go_wp2_with fail
              refine mu_no X6.out.1.rd [44] (No.gateT HN2.out.2) fun w7 hs7 h7 => ?_
              have hst7 := X6.out.1.step hs7 h7
              have X7 := Lib.hid hst7
              clear hst7 hs7 h7
              go_wp2_with fail
              go_roundg (if true = true then 0 else r1.rest.length + 1)
              case measure => simp
              case rel =>
                refine ⟨l ++ [u], _, r1.rest, true, rfl, X7.out, ?_, fun e => by cases e⟩
                rw [gate_bad, HP.out]
                cases hr : r1 with
                | ok y q => show R.map _ (R.map _ (sevTail [41] nameOf q)) = _; rw [sevTail_bad q (HN2.out.1 y q hr) (HN2.out.2 y q hr)]; rfl
                | bad q => rfl
end Go.Proofs.YtcldcigopkfmmaaGreatDoor
