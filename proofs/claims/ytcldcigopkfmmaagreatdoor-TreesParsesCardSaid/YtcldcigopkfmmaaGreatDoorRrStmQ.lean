/- Trees, as the document has them: the reader: a statement. -/
import Derived.Test.YtcldcigopkfmmaaGreatDoorRrBlockQ
namespace Go.Nd
theorem then_gate {α β γ : Type} (r : R α) (f : List Tx → R β) (k : α → β → γ) : (r.then_ fun x q => (f q).map (k x)).rest = (gate r.isBad r.rest (f r.rest)).rest ∧ (r.then_ fun x q => (f q).map (k x)).isBad = (gate r.isBad r.rest (f r.rest)).isBad := by
  cases r with
  | bad q => exact ⟨rfl, rfl⟩
  | ok x q => exact ⟨R.map_rest _ _, R.map_isBad _ _⟩
theorem R.Is.then_ {α β γ : Type} {r : R α} {f : List Tx → R β} (k : α → β → γ) {x : α} {y : β} (h : r.Is x) (hg : (gate r.isBad r.rest (f r.rest)).Is y) : (r.then_ fun x q => (f q).map (k x)).Is (k x y) := by
  cases r with
  | bad q => intro z q' e; cases e
  | ok z q =>
    obtain rfl := h z q rfl
    exact R.Is.map (k z) hg
/-- What may stand behind a statement's first block. -/
def elseP (st : List Tx → R Nd) (n : Nd) : List Tx → R Nd
  | [] => .ok n []
  | p :: r => if p = [101, 108, 115, 101] then (block st r).map fun e => ⟨n.kind, n.text, n.l, n.body, Ns.of e⟩ else .ok n (p :: r)
theorem elseP_no (st : List Tx → R Nd) (n : Nd) (q : List Tx) (h : q.head? ≠ some [101, 108, 115, 101]) : elseP st n q = .ok n q := by
  cases q with
  | nil => rfl
  | cons p r => unfold elseP; simp only; rw [if_neg (by intro e; subst e; exact h rfl)]
theorem elseP_yes (st : List Tx → R Nd) (n : Nd) (q : List Tx) : elseP st n ([101, 108, 115, 101] :: q) = (block st q).map fun e => ⟨n.kind, n.text, n.l, n.body, Ns.of e⟩ := by unfold elseP; simp only; rw [if_pos trivial]
/-- What is tested, and a block. -/
def headP (k : Nat) (st : List Tx → R Nd) (ts : List Tx) : R Nd := ((expr ts).map fun x => (⟨k, [], Ns.of [x], .nil, .nil⟩ : Nd)).then_ fun n q => (block st q).map fun b => ⟨n.kind, n.text, n.l, Ns.of b, n.els⟩
theorem branch_head (inner : Bool) (ts : List Tx) : branch inner ts = (headP 9 (stm inner) ts).then_ (elseP (stm inner)) := by
  unfold branch headP
  rw [R.map_then]
  cases expr ts with
  | bad q => rfl
  | ok x q =>
    show (block (stm inner) q).then_ _ = R.then_ (R.map _ (block (stm inner) q)) _
    rw [R.map_then]
    refine R.then_congr fun b r2 _ => ?_
    cases r2 with
    | nil => rfl
    | cons p r3 => rfl
theorem loop_head (inner : Bool) (ts : List Tx) : loop inner ts = headP 10 (stm inner) ts := by
  unfold loop headP
  rw [R.map_then]
theorem headP_down (k : Nat) (inner : Bool) (ts : List Tx) : (headP k (stm inner) ts).Down ts := (expr_down ts).map.then_ fun _ q => (block_down (stm_down inner) q).map.zero
end Go.Nd
namespace Go.Proofs.YtcldcigopkfmmaaGreatDoor
open Go.RowKit Go.My Go.Nd

/-- A node of one, in a new box. -/
theorem RwSt.start1 {w : World} {rb c : Nat} {w2 w3 : World} {tv : Value} {xs : List To.T} {inn : Bool} {r : R Nd} {x : Nd} {v0 v1 v2 v3 v4 : Value} {k : Nat} {kz : Int} (hkz : kz = (k : Int)) (hA : RA w rb c w2) (hk : k < 256) (hs3 : Step w2 w3 (some rb)) (h3 : Rr w3 rb tv xs r.rest inn r.isBad) (hN : NR w3 TN w2.heap.size w3.heap.size (.agg #[v0, v1, v2, v3, v4]) x) (hi : r.Is x) :
    RwSt w rb tv xs inn c (w3.heap.size + 1) (r.map fun x => ⟨k, [], Ns.of [x], .nil, .nil⟩) ⟨k, [], Ns.of [x], .nil, .nil⟩ #[.int .u8 kz, .string ⟨#[]⟩, .slice (some ⟨w3.heap.size, 0, none⟩) 1 1, .slice none 0 0, .slice none 0 0] ((w3.alloc (.cells #[v0, v1, v2, v3, v4] TN)).alloc (.cells #[.int .u8 kz, .string ⟨#[]⟩, .slice (some ⟨w3.heap.size, 0, none⟩) 1 1, .slice none 0 0, .slice none 0 0] TN)) := by
  subst hkz
  have hL := LR.one hN hs3.size (Nat.le_refl _)
  obtain ⟨hb, _, hz⟩ := Put.new w3 #[v0, v1, v2, v3, v4] TN
  have hlt := hA.lt
  have hs := hs3.size
  generalize w3.alloc (.cells #[v0, v1, v2, v3, v4] TN) = w4 at *
  obtain ⟨hb2, hn2, hz2⟩ := Put.new w4 #[.int .u8 (k : Int), .string ⟨#[]⟩, .slice (some ⟨w3.heap.size, 0, none⟩) 1 1, .slice none 0 0, .slice none 0 0] TN
  have hN4 : NR w4 TN w2.heap.size w4.heap.size (.agg #[.int .u8 (k : Int), .string (tx []), .slice (some ⟨w3.heap.size, 0, none⟩) 1 1, .slice none 0 0, .slice none 0 0]) ⟨k, [], Ns.of [x], .nil, .nil⟩ := NR.mk hk (by decide) (hz ▸ hL) (LR.nil _ _ _ _) (LR.nil _ _ _ _) (by omega) (Nat.le_refl _) (Nat.le_refl _)
  rw [hz] at hn2
  refine ⟨((hA.step hs3).below hb).below hb2, ?_, by omega, hn2, NS.later (hN4.ns fun b h1 h2 => by omega) hb2, hi.map _⟩
  rw [R.map_rest, R.map_isBad]
  exact (h3.later hb).later hb2

theorem nodup_parts {F1 F2 F3 : List Nat} (h : (F1 ++ (F2 ++ F3)).Nodup) : F1.Nodup ∧ F2.Nodup ∧ F3.Nodup ∧ (∀ b ∈ F1, b ∉ F2) ∧ (∀ b ∈ F1, b ∉ F3) ∧ (∀ b ∈ F2, b ∉ F3) := by
  obtain ⟨h1, h2, h3⟩ := List.nodup_append.1 h
  obtain ⟨h4, h5, h6⟩ := List.nodup_append.1 h2
  exact ⟨h1, h4, h5, fun b hb hb' => h3 b hb b (List.mem_append_left _ hb') rfl, fun b hb hb' => h3 b hb b (List.mem_append_right _ hb') rfl, fun b hb hb' => h6 b hb b hb' rfl⟩
theorem nodup_three {F1 F2 F3 : List Nat} (h1 : F1.Nodup) (h2 : F2.Nodup) (h3 : F3.Nodup) (h12 : ∀ b ∈ F1, b ∉ F2) (h13 : ∀ b ∈ F1, b ∉ F3) (h23 : ∀ b ∈ F2, b ∉ F3) : (F1 ++ (F2 ++ F3)).Nodup :=
  List.nodup_append.2 ⟨h1, List.nodup_append.2 ⟨h2, h3, fun a ha b hb e => by subst e; exact h23 a ha hb⟩, fun a ha b hb e => by
    subst e
    rcases List.mem_append.1 hb with hb | hb
    · exact h12 a ha hb
    · exact h13 a ha hb⟩

/-- Its body is read, and written into the box. -/
theorem RwSt.body {w : World} {rb : Nat} {tv : Value} {xs : List To.T} {inn : Bool} {c b3 : Nat} {r rN : R Nd} {x : Nd} {l : List Nd} {v c0 c1 c2 c3 c4 : Value} {w2 w6 w8 : World} (h : RwSt w rb tv xs inn c b3 r x #[c0, c1, c2, c3, c4] w2) (hs : Step w2 w6 (some rb)) (h6 : Rr w6 rb tv xs rN.rest inn rN.isBad) (hL : LR w6 TN w2.heap.size w6.heap.size v (Ns.of l))
    (hi : rN.Is ⟨x.kind, x.text, x.l, Ns.of l, x.els⟩) (hp : Put w6 w8 b3 #[c0, c1, c2, v, c4] TN) : RwSt w rb tv xs inn c b3 rN ⟨x.kind, x.text, x.l, Ns.of l, x.els⟩ #[c0, c1, c2, v, c4] w8 := by
  have hrb := h.hA.hrb
  have hcb := h.hb
  have hlt := h.hA.lt
  have hb3 := heap_lt h.box
  obtain ⟨e, F, h0, ⟨F1, F2, F3, rfl, hk, f1, f2, f3⟩, hnd, hS⟩ := h.node
  obtain ⟨Fb, hb, hr⟩ := hL
  simp only [Value.agg.injEq, Array.mk.injEq, List.cons.injEq, and_true] at h0
  obtain ⟨rfl, rfl, rfl, rfl, rfl⟩ := h0
  obtain ⟨n1, _, n3, _, n13, _⟩ := nodup_parts hnd
  have s1 : ∀ b ∈ F1, (c < b ∧ b ≠ b3) ∧ b < w2.heap.size := fun b hm => ⟨hS b (by simp [hm]), f1.lt b hm⟩
  have s3 : ∀ b ∈ F3, (c < b ∧ b ≠ b3) ∧ b < w2.heap.size := fun b hm => ⟨hS b (by simp [hm]), f3.lt b hm⟩
  have k1 : LF w8 TN F1 e.v1 x.l := (f1.frame fun b hm => hs.kept (s1 b hm).2 (by have := (s1 b hm).1.1; omega)).frame fun b hm => hp.oth b (s1 b hm).1.2
  have k3 : LF w8 TN F3 e.v3 x.els := (f3.frame fun b hm => hs.kept (s3 b hm).2 (by have := (s3 b hm).1.1; omega)).frame fun b hm => hp.oth b (s3 b hm).1.2
  have kb : LF w8 TN Fb v (Ns.of l) := hb.frame fun b hm => hp.oth b (by have := (hr.2 b hm).1; omega)
  refine ⟨(h.hA.step hs).put hp hcb, h6.put hp (by omega), hcb, hp.row, ⟨⟨e.kind, e.text, e.v1, v, e.v3⟩, F1 ++ (Fb ++ F3), rfl, ⟨F1, Fb, F3, rfl, hk, k1, kb, k3⟩,
    nodup_three n1 hr.1 n3 (fun b hm hm' => by have := (s1 b hm).2; have := (hr.2 b hm').1; omega) n13 (fun b hm hm' => by have := (s3 b hm').2; have := (hr.2 b hm).1; omega), fun b hm => ?_⟩, hi⟩
  rcases List.mem_append.1 hm with hm | hm
  · exact (s1 b hm).1
  · rcases List.mem_append.1 hm with hm | hm
    · have := (hr.2 b hm).1; omega
    · exact (s3 b hm).1
/-- What is read else, likewise. -/
theorem RwSt.els {w : World} {rb : Nat} {tv : Value} {xs : List To.T} {inn : Bool} {c b3 : Nat} {r rN : R Nd} {x : Nd} {l : List Nd} {v c0 c1 c2 c3 c4 : Value} {w2 w6 w8 : World} (h : RwSt w rb tv xs inn c b3 r x #[c0, c1, c2, c3, c4] w2) (hs : Step w2 w6 (some rb)) (h6 : Rr w6 rb tv xs rN.rest inn rN.isBad) (hL : LR w6 TN w2.heap.size w6.heap.size v (Ns.of l))
    (hi : rN.Is ⟨x.kind, x.text, x.l, x.body, Ns.of l⟩) (hp : Put w6 w8 b3 #[c0, c1, c2, c3, v] TN) : RwSt w rb tv xs inn c b3 rN ⟨x.kind, x.text, x.l, x.body, Ns.of l⟩ #[c0, c1, c2, c3, v] w8 := by
  have hrb := h.hA.hrb
  have hcb := h.hb
  have hlt := h.hA.lt
  have hb3 := heap_lt h.box
  obtain ⟨e, F, h0, ⟨F1, F2, F3, rfl, hk, f1, f2, f3⟩, hnd, hS⟩ := h.node
  obtain ⟨Fb, hb, hr⟩ := hL
  simp only [Value.agg.injEq, Array.mk.injEq, List.cons.injEq, and_true] at h0
  obtain ⟨rfl, rfl, rfl, rfl, rfl⟩ := h0
  obtain ⟨n1, n2, _, n12, _, _⟩ := nodup_parts hnd
  have s1 : ∀ b ∈ F1, (c < b ∧ b ≠ b3) ∧ b < w2.heap.size := fun b hm => ⟨hS b (by simp [hm]), f1.lt b hm⟩
  have s2 : ∀ b ∈ F2, (c < b ∧ b ≠ b3) ∧ b < w2.heap.size := fun b hm => ⟨hS b (by simp [hm]), f2.lt b hm⟩
  have k1 : LF w8 TN F1 e.v1 x.l := (f1.frame fun b hm => hs.kept (s1 b hm).2 (by have := (s1 b hm).1.1; omega)).frame fun b hm => hp.oth b (s1 b hm).1.2
  have k2 : LF w8 TN F2 e.v2 x.body := (f2.frame fun b hm => hs.kept (s2 b hm).2 (by have := (s2 b hm).1.1; omega)).frame fun b hm => hp.oth b (s2 b hm).1.2
  have kb : LF w8 TN Fb v (Ns.of l) := hb.frame fun b hm => hp.oth b (by have := (hr.2 b hm).1; omega)
  refine ⟨(h.hA.step hs).put hp hcb, h6.put hp (by omega), hcb, hp.row, ⟨⟨e.kind, e.text, e.v1, e.v2, v⟩, F1 ++ (F2 ++ Fb), rfl, ⟨F1, F2, Fb, rfl, hk, k1, k2, kb⟩,
    nodup_three n1 n2 hr.1 n12 (fun b hm hm' => by have := (s1 b hm).2; have := (hr.2 b hm').1; omega) (fun b hm hm' => by have := (s2 b hm).2; have := (hr.2 b hm').1; omega), fun b hm => ?_⟩, hi⟩
  rcases List.mem_append.1 hm with hm | hm
  · exact (s1 b hm).1
  · rcases List.mem_append.1 hm with hm | hm
    · exact (s2 b hm).1
    · have := (hr.2 b hm).1; omega


set_option maxRecDepth 100000 in
set_option maxHeartbeats 4000000 in
theorem rstm_if {rb : Nat} {tv : Value} {xs : List To.T} {inn : Bool} {n : Nat} (hst : RReads 60 rb tv xs inn n (stm inn)) {w : World} {r : List Tx} (hn : r.length ≤ n) (h : Rr w rb tv xs ([105, 102] :: r) inn false) :
    Calls Tryz.prog 60 #[.pointer (some ⟨rb, 0, none⟩)] w (GotR w rb tv xs inn (branch inn r)) := by
  have R0 := RA.start h.lt
  have h0 := h.later (Put.new w #[.int .u8 0, .string ⟨#[]⟩, .slice none 0 0, .slice none 0 0, .slice none 0 0] TN).1
  obtain ⟨c, hc⟩ : ∃ c, c = w.heap.size := ⟨_, rfl⟩
  obtain ⟨wA, hwA⟩ : ∃ wA, wA = w.alloc (.cells #[.int .u8 0, .string ⟨#[]⟩, .slice none 0 0, .slice none 0 0, .slice none 0 0] TN) := ⟨_, rfl⟩
  rw [← hwA] at R0 h0
  rw [← hc] at R0
  have X0 := Lib.hid (And.intro R0 h0)
  clear h R0 h0
  have HE := Lib.hid (And.intro hst hn)
  clear hst hn
  go_enter Tryz.func60, Tryz.ntmps60
  go_upto_region 1 with fail
  rw [← hwA, ← hc]
  clear hwA hc
  go_wp2_with fail
  refine tk_yes X0.out.2 fun w1 hs1 h1 => ?_
  have X1 := Lib.hid (And.intro (X0.out.1.step hs1) h1)
  clear hs1 h1
  go_wp2_with fail
  refine (rexpr_t X1.out.2).mono ?_
  rintro e w2 ⟨hs2, h2, v, x, rfl, hN, hi⟩
  rw [gate_ok] at h2 hi
  obtain ⟨a1, d1, a2, d2, a3, d3, rfl⟩ := hN.form
  have hst := RwSt.start1 (k := 9) (kz := 9) rfl X1.out.1 (by decide) hs2 h2 hN hi
  obtain ⟨w3, hw3, hst⟩ := hide_world (P := fun w3 => RwSt _ _ _ _ _ _ _ _ _ _ w3) hst
  obtain ⟨b2, hb2⟩ : ∃ b2, b2 = w2.heap.size := ⟨_, rfl⟩
  obtain ⟨b3, hb3⟩ : ∃ b3, b3 = b2 + 1 := ⟨_, rfl⟩
  rw [← hb2, ← hb3] at hst
  have X3 := Lib.hid hst
  clear hst hs2 h2 hN hi
  go_upto_region 3 with fail
  rw [← hw3, ← hb2, ← hb3]
  clear hw3 hb2 hb3
  go_wp2_with fail
  refine (rblock_t HE.out.1 (stm_down inn) (by rw [R.map_rest]; have := R.rest_down (expr_down r); have := HE.out.2; omega) X3.out.rd).mono ?_
  rintro e w4 ⟨hs4, h4, v4, l, rfl, hL, hi4⟩
  obtain ⟨p1, q1, rfl⟩ := hL.form
  have hg := then_gate ((expr r).map fun x => (⟨9, [], Ns.of [x], .nil, .nil⟩ : Nd)) (block (stm inn)) (fun (n : Nd) (b : List Nd) => (⟨n.kind, n.text, n.l, Ns.of b, n.els⟩ : Nd))
  rw [← hg.1, ← hg.2] at h4
  have hrow := (hs4.kept (heap_lt X3.out.box) (by have := X3.out.hb; have := X3.out.hA.hrb; omega)).trans X3.out.box
  obtain ⟨x0, x1, x2, x3, x4, e0, e1, e2, e3, e4⟩ := row5 hrow
  have hp : Put w4 (w4.setCell ⟨b3, 3, none⟩ (.slice p1 (Ns.of l).len q1)) b3 #[.int .u8 9, .string ⟨#[]⟩, .slice (some ⟨b2, 0, none⟩) 1 1, .slice p1 (Ns.of l).len q1, .slice none 0 0] TN := Put.one hrow 3 _
  have hst := X3.out.body (rN := headP 9 (stm inn) r) hs4 h4 hL (R.Is.then_ (fun (n : Nd) (b : List Nd) => (⟨n.kind, n.text, n.l, Ns.of b, n.els⟩ : Nd)) X3.out.is hi4) hp
  obtain ⟨w5, hw5, hst⟩ := hide_world (P := fun w5 => RwSt _ _ _ _ _ _ _ _ _ _ w5) hst
  have hrl : (headP 9 (stm inn) r).rest.length ≤ n := Nat.le_trans (R.rest_down (headP_down 9 inn r)) HE.out.2
  obtain ⟨rB, hrB⟩ : ∃ rB, rB = headP 9 (stm inn) r := ⟨_, rfl⟩
  rw [← hrB] at hst hrl
  have X5 := Lib.hid (And.intro hst (And.intro hrl hrB))
  clear hst hrl hrB hs4 h4 hL hi4 hp hrow hg
  go_upto_region 4 with fail
  rw [← hw5]
  clear hw5 x0 x1 x2 x3 x4 e0 e1 e2 e3 e4
  go_wp2_with fail
  by_cases hh : ∃ q, rB = .ok ⟨9, [], Ns.of [x], Ns.of l, .nil⟩ ([101, 108, 115, 101] :: q)
  · obtain ⟨q, rfl⟩ := hh
    refine tk_yes X5.out.1.rd fun w6 hs6 h6 => ?_
    have hst := X5.out.1.step (r' := .ok ⟨9, [], Ns.of [x], Ns.of l, .nil⟩ q) hs6 h6 (R.Is.ok _ _)
    have X6 := Lib.hid hst
    clear hst hs6 h6
    go_wp2_with fail
    refine (rblock_t HE.out.1 (stm_down inn) (show q.length ≤ n + 1 by have := X5.out.2.1; have e : (R.ok (⟨9, [], Ns.of [x], Ns.of l, .nil⟩ : Nd) ([101, 108, 115, 101] :: q)).rest.length = q.length + 1 := rfl; omega) X6.out.rd).mono ?_
    rintro e w7 ⟨hs7, h7, v7, l7, rfl, hL7, hi7⟩
    obtain ⟨p2, q2, rfl⟩ := hL7.form
    have h7' : Rr w7 rb tv xs ((block (stm inn) q).map fun e => (⟨9, [], Ns.of [x], Ns.of l, Ns.of e⟩ : Nd)).rest inn ((block (stm inn) q).map fun e => (⟨9, [], Ns.of [x], Ns.of l, Ns.of e⟩ : Nd)).isBad := by rw [R.map_rest, R.map_isBad]; exact h7
    have hrow := (hs7.kept (heap_lt X6.out.box) (by have := X6.out.hb; have := X6.out.hA.hrb; omega)).trans X6.out.box
    obtain ⟨x0, x1, x2, x3, x4, e0, e1, e2, e3, e4⟩ := row5 hrow
    have hp : Put w7 (w7.setCell ⟨b3, 4, none⟩ (.slice p2 (Ns.of l7).len q2)) b3 #[.int .u8 9, .string ⟨#[]⟩, .slice (some ⟨b2, 0, none⟩) 1 1, .slice p1 (Ns.of l).len q1, .slice p2 (Ns.of l7).len q2] TN := Put.one hrow 4 _
    have hst := X6.out.els hs7 h7' hL7 (R.Is.map (fun e => (⟨9, [], Ns.of [x], Ns.of l, Ns.of e⟩ : Nd)) hi7) hp
    obtain ⟨w8, hw8, hst⟩ := hide_world (P := fun w8 => RwSt _ _ _ _ _ _ _ _ _ _ w8) hst
    have X8 := Lib.hid hst
    go_upto_region 6 with fail
    rw [← hw8]
    clear hw8 x0 x1 x2 x3 x4 e0 e1 e2 e3 e4 hp hrow hs7 h7 h7' hL7 hi7
    obtain ⟨z0, z1, z2, z3, z4, _, _, _, _, _⟩ := row5 hst.box
    obtain ⟨y0, y1, y2, y3, y4, f0, f1, f2, f3, f4⟩ := row5 hst.hA.row
    clear hst
    go_wp2_with fail
    have hp := put5 X8.out.hA.row (.int .u8 9) (.string ⟨#[]⟩) (.slice (some ⟨b2, 0, none⟩) 1 1) (.slice p1 (Ns.of l).len q1) (.slice p2 (Ns.of l7).len q2)
    refine bodyPost_ret (results_cell1 rfl _ _ _ rfl (nodeVar _ c _ _ _ _ _ hp.row)) rfl ?_
    rw [branch_head, ← X5.out.2.2]
    show GotR w rb tv xs inn (elseP (stm inn) ⟨9, [], Ns.of [x], Ns.of l, .nil⟩ ([101, 108, 115, 101] :: q)) _ _
    rw [elseP_yes]
    exact X8.out.fin hp
  · have hno : No rB.isBad rB.rest [101, 108, 115, 101] := No.gate fun y q e hq => by
      obtain ⟨q', rfl⟩ := head_form hq
      obtain rfl := X5.out.1.is y _ e
      exact hh ⟨q', e⟩
    have htot : rB.then_ (elseP (stm inn)) = rB := by
      cases hr : rB with
      | bad q => rfl
      | ok y q =>
        obtain rfl := X5.out.1.is y _ hr
        exact elseP_no _ _ q fun hq => by obtain ⟨q', rfl⟩ := head_form hq; exact hh ⟨q', hr⟩
    have HTT := Lib.hid htot
    obtain ⟨z0, z1, z2, z3, z4, _, _, _, _, _⟩ := row5 X5.out.1.box
    obtain ⟨y0, y1, y2, y3, y4, f0, f1, f2, f3, f4⟩ := row5 X5.out.1.hA.row
    clear hh htot
    refine tk_no X5.out.1.rd [101, 108, 115, 101] hno ?_
    clear hno
    go_wp2_with fail
    have hp := put5 X5.out.1.hA.row (.int .u8 9) (.string ⟨#[]⟩) (.slice (some ⟨b2, 0, none⟩) 1 1) (.slice p1 (Ns.of l).len q1) (.slice none 0 0)
    refine bodyPost_ret (results_cell1 rfl _ _ _ rfl (nodeVar _ c _ _ _ _ _ hp.row)) rfl ?_
    rw [branch_head, ← X5.out.2.2, HTT.out]
    exact X5.out.1.fin hp

set_option maxRecDepth 100000 in
set_option maxHeartbeats 4000000 in
theorem rstm_while {rb : Nat} {tv : Value} {xs : List To.T} {inn : Bool} {n : Nat} (hst : RReads 60 rb tv xs inn n (stm inn)) {w : World} {r : List Tx} (hn : r.length ≤ n) (h : Rr w rb tv xs ([119, 104, 105, 108, 101] :: r) inn false) :
    Calls Tryz.prog 60 #[.pointer (some ⟨rb, 0, none⟩)] w (GotR w rb tv xs inn (loop inn r)) := by
  have R0 := RA.start h.lt
  have h0 := h.later (Put.new w #[.int .u8 0, .string ⟨#[]⟩, .slice none 0 0, .slice none 0 0, .slice none 0 0] TN).1
  obtain ⟨c, hc⟩ : ∃ c, c = w.heap.size := ⟨_, rfl⟩
  obtain ⟨wA, hwA⟩ : ∃ wA, wA = w.alloc (.cells #[.int .u8 0, .string ⟨#[]⟩, .slice none 0 0, .slice none 0 0, .slice none 0 0] TN) := ⟨_, rfl⟩
  rw [← hwA] at R0 h0
  rw [← hc] at R0
  have X0 := Lib.hid (And.intro R0 h0)
  clear h R0 h0
  have HE := Lib.hid (And.intro hst hn)
  clear hst hn
  go_enter Tryz.func60, Tryz.ntmps60
  go_upto_region 1 with fail
  rw [← hwA, ← hc]
  clear hwA hc
  go_wp2_with fail
  refine tk_no X0.out.2 [105, 102] (No.head (by simp) _) ?_
  go_wp2_with fail
  refine tk_yes X0.out.2 fun w1 hs1 h1 => ?_
  have X1 := Lib.hid (And.intro (X0.out.1.step hs1) h1)
  clear hs1 h1
  go_wp2_with fail
  refine (rexpr_t X1.out.2).mono ?_
  rintro e w2 ⟨hs2, h2, v, x, rfl, hN, hi⟩
  rw [gate_ok] at h2 hi
  obtain ⟨a1, d1, a2, d2, a3, d3, rfl⟩ := hN.form
  have hst := RwSt.start1 (k := 10) (kz := 10) rfl X1.out.1 (by decide) hs2 h2 hN hi
  obtain ⟨w3, hw3, hst⟩ := hide_world (P := fun w3 => RwSt _ _ _ _ _ _ _ _ _ _ w3) hst
  obtain ⟨b2, hb2⟩ : ∃ b2, b2 = w2.heap.size := ⟨_, rfl⟩
  obtain ⟨b3, hb3⟩ : ∃ b3, b3 = b2 + 1 := ⟨_, rfl⟩
  rw [← hb2, ← hb3] at hst
  have X3 := Lib.hid hst
  clear hst hs2 h2 hN hi
  go_upto_region 9 with fail
  rw [← hw3, ← hb2, ← hb3]
  clear hw3 hb2 hb3
  go_wp2_with fail
  refine (rblock_t HE.out.1 (stm_down inn) (by rw [R.map_rest]; have := R.rest_down (expr_down r); have := HE.out.2; omega) X3.out.rd).mono ?_
  rintro e w4 ⟨hs4, h4, v4, l, rfl, hL, hi4⟩
  obtain ⟨p1, q1, rfl⟩ := hL.form
  have hg := then_gate ((expr r).map fun x => (⟨10, [], Ns.of [x], .nil, .nil⟩ : Nd)) (block (stm inn)) (fun (n : Nd) (b : List Nd) => (⟨n.kind, n.text, n.l, Ns.of b, n.els⟩ : Nd))
  rw [← hg.1, ← hg.2] at h4
  have hrow := (hs4.kept (heap_lt X3.out.box) (by have := X3.out.hb; have := X3.out.hA.hrb; omega)).trans X3.out.box
  obtain ⟨x0, x1, x2, x3, x4, e0, e1, e2, e3, e4⟩ := row5 hrow
  have hp : Put w4 (w4.setCell ⟨b3, 3, none⟩ (.slice p1 (Ns.of l).len q1)) b3 #[.int .u8 10, .string ⟨#[]⟩, .slice (some ⟨b2, 0, none⟩) 1 1, .slice p1 (Ns.of l).len q1, .slice none 0 0] TN := Put.one hrow 3 _
  have hst := X3.out.body (rN := headP 10 (stm inn) r) hs4 h4 hL (R.Is.then_ (fun (n : Nd) (b : List Nd) => (⟨n.kind, n.text, n.l, Ns.of b, n.els⟩ : Nd)) X3.out.is hi4) hp
  obtain ⟨w5, hw5, hst⟩ := hide_world (P := fun w5 => RwSt _ _ _ _ _ _ _ _ _ _ w5) hst
  have X5 := Lib.hid hst
  go_upto_region 10 with fail
  rw [← hw5]
  clear hw5 x0 x1 x2 x3 x4 e0 e1 e2 e3 e4 hs4 h4 hL hi4 hp hrow hg
  obtain ⟨z0, z1, z2, z3, z4, _, _, _, _, _⟩ := row5 hst.box
  obtain ⟨y0, y1, y2, y3, y4, f0, f1, f2, f3, f4⟩ := row5 hst.hA.row
  clear hst
  go_wp2_with fail
  have hp := put5 X5.out.hA.row (.int .u8 10) (.string ⟨#[]⟩) (.slice (some ⟨b2, 0, none⟩) 1 1) (.slice p1 (Ns.of l).len q1) (.slice none 0 0)
  refine bodyPost_ret (results_cell1 rfl _ _ _ rfl (nodeVar _ c _ _ _ _ _ hp.row)) rfl ?_
  rw [loop_head]
  exact X5.out.fin hp
end Go.Proofs.YtcldcigopkfmmaaGreatDoor
