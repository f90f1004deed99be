/- Trees: the reader: a number; a node of two. -/
import Derived.Test.YtobpnjnfpgcpaaaGreatDoorPxTakesT
namespace Go.Proofs.YtobpnjnfpgcpaaaGreatDoor
open Go.RowKit Go.My Go.Nd

abbrev TN : TypeId := 39
theorem nodeVar (w : World) (c : Nat) (v0 v1 v2 v3 v4 : Value) (h : w.heap[c]? = some (.cells #[v0, v1, v2, v3, v4] TN (0, 0))) : (loadVar 39 ⟨c, 0, none⟩).run Tryz.prog w = .ok (.agg #[v0, v1, v2, v3, v4]) w := by
  have c0 := cell_of_row w c 0 _ _ _ h
  have c1 := cell_of_row w c 1 _ _ _ h
  have c2 := cell_of_row w c 2 _ _ _ h
  have c3 := cell_of_row w c 3 _ _ _ h
  have c4 := cell_of_row w c 4 _ _ _ h
  simp at c0 c1 c2 c3 c4
  simp [loadVar, go_sem, c0, c1, c2, c3, c4]

theorem txbs (s : List UInt8) : tx s = bs s := rfl

/-- What a call that reads a node does. -/
def Got (w : World) (rb : Nat) (tv : Value) (xs : List To.T) (inn : Bool) (r : R Nd) (e : Ending) (w' : World) : Prop :=
  Step w w' (some rb) ∧ Rd w' rb tv xs r.rest inn ∧ match r with | .ok x _ => ∃ v, e = .returned v ∧ NR w' TN w.heap.size w'.heap.size v x | .bad _ => e = .panicked wrongChain

/-- The end of a function that gives a node: it is written into the result's cell. -/
theorem Put.node {w : World} {c : Nat} {z0 z1 z2 z3 z4 v0 v1 v2 v3 v4 : Value} (h : w.heap[c]? = some (.cells #[z0, z1, z2, z3, z4] TN (0, 0))) : Put w (((((w.setCell ⟨c, 0, none⟩ v0).setCell ⟨c, 1, none⟩ v1).setCell ⟨c, 2, none⟩ v2).setCell ⟨c, 3, none⟩ v3).setCell ⟨c, 4, none⟩ v4) c #[v0, v1, v2, v3, v4] TN := put5 h v0 v1 v2 v3 v4

theorem Rd.put {w1 w2 : World} {rb : Nat} {tv : Value} {xs : List To.T} {ts : List Tx} {inn : Bool} {c : Nat} {cs : Array Value} {T : TypeId} (h : Rd w1 rb tv xs ts inn) (hp : Put w1 w2 c cs T) (hc : rb < c) : Rd w2 rb tv xs ts inn :=
  h.keep (by rw [hp.size]; exact Nat.le_refl _) fun k hk => hp.oth k (by omega)

set_option maxRecDepth 100000 in
set_option maxHeartbeats 2000000 in
theorem rnum_t {w : World} {rb : Nat} {tv : Value} {xs : List To.T} {ts : List Tx} {inn : Bool} (h : Rd w rb tv xs ts inn) :
    Calls Tryz.prog 149 #[.pointer (some ⟨rb, 0, none⟩)] w (Got w rb tv xs inn (number ts)) := by
  have hl : (ts.getD 0 []).length ≤ 65536 := by
    cases ts with
    | nil => exact Nat.zero_le _
    | cons s r => obtain ⟨_, _, _, _, _, _, _, _, _, _, _, _, hs⟩ := h.token 0 (by simp); simpa using hs
  obtain ⟨hA, hnew, _⟩ := Put.new w #[.int .u8 0, .string ⟨#[]⟩, .slice none 0 0, .slice none 0 0, .slice none 0 0] 39
  obtain ⟨u, hu⟩ : ∃ u, u = ts.getD 0 [] := ⟨_, rfl⟩
  have HB0 := Lib.hid hA
  have HR := Lib.hid (And.intro hA (And.intro (h.later hA) (And.intro hnew (And.intro h (And.intro hl hu)))))
  have ht := tokText
  obtain ⟨c, hc⟩ : ∃ c, c = w.heap.size := ⟨_, rfl⟩
  have HC := Lib.hid hc
  clear h hl hA hnew hu
  go_enter Tryz.func149, Tryz.ntmps149
  go_upto_region 1 with fail
  rw [← hc]
  obtain ⟨wA, hwA⟩ : ∃ wA, wA = w.alloc (.cells #[.int .u8 0, .string ⟨#[]⟩, .slice none 0 0, .slice none 0 0, .slice none 0 0] 39) := ⟨_, rfl⟩
  rw [← hwA] at HR HB0 ⊢
  rw [← hc] at HR
  clear hwA hc
  go_wp2_with fail
  refine look_t HR.out.2.1 0 (by decide) fun i j w1 hb => ?_
  rw [← HR.out.2.2.2.2.2]
  have K1 := Lib.hid hb
  clear hb
  go_wp2_with fail
  refine plain_t u (by have := HR.out.2.2.2.2; rw [this.2]; omega) fun w2 hb2 => ?_
  have K2 := Lib.hid (K1.out.trans (hb2.mono K1.out.size))
  clear hb2
  obtain ⟨p, hp⟩ : ∃ p, p = plain u := ⟨_, rfl⟩
  have HP := Lib.hid hp
  rw [← hp]
  clear hp
  cases p with
  | true =>
    obtain ⟨r, hts⟩ : ∃ r, ts = u :: r := by
      have hu := HR.out.2.2.2.2.2
      cases ts with
      | nil => have hp := HP.out; rw [hu] at hp; simp [plain] at hp
      | cons s r => exact ⟨r, by rw [hu]; rfl⟩
    subst hts
    go_wp2_with fail
    refine next_yes (HR.out.2.1.later K2.out) fun w3 hs3 h3 => ?_
    have hlt : c < wA.heap.size := (Array.getElem?_eq_some_iff.1 HR.out.2.2.1).1
    have hrb : rb < c := by have := HR.out.2.2.2.1.lt; rw [HC.out]; exact this
    have hrow := (hs3.kept (Nat.lt_of_lt_of_le hlt K2.out.size) (Nat.ne_of_gt hrb)).trans ((K2.out.block c hlt).trans HR.out.2.2.1)
    have hst := ((Step.of_below HB0.out).trans (Step.of_below (K2.out))).trans hs3
    have q0 := cell_of_row w3 c 0 _ _ _ hrow
    have q1 := cell_of_row w3 c 1 _ _ _ hrow
    have q2 := cell_of_row w3 c 2 _ _ _ hrow
    have q3 := cell_of_row w3 c 3 _ _ _ hrow
    have q4 := cell_of_row w3 c 4 _ _ _ hrow
    simp at q0 q1 q2 q3 q4
    have f0 := frozen_of_row w3 c 0 _ _ hrow
    have f1 := frozen_of_row w3 c 1 _ _ hrow
    have f2 := frozen_of_row w3 c 2 _ _ hrow
    have f3 := frozen_of_row w3 c 3 _ _ hrow
    have f4 := frozen_of_row w3 c 4 _ _ hrow
    have HX := Lib.hid (And.intro hst (And.intro h3 (And.intro hrow hrb)))
    clear hst h3 hrow hs3 hlt hrb
    go_wp2_with fail
    have hp := put5 HX.out.2.2.1 (.int .u8 1) (.string (bs u)) (.slice none 0 0) (.slice none 0 0) (.slice none 0 0)
    refine bodyPost_ret (results_cell1 rfl _ _ _ rfl (nodeVar _ c _ _ _ _ _ hp.row)) rfl ?_
    have hz := HX.out.1.size
    have hz' := hp.size
    rw [show number (u :: r) = .ok (leaf 1 u) r by unfold number; simp only; rw [if_pos HP.out.symm]]
    exact ⟨HX.out.1.put hp (by rw [HC.out]; exact Nat.le_refl _), HX.out.2.1.put hp HX.out.2.2.2, _, rfl, NR.mk (by decide) (by have := HR.out.2.2.2.2; rw [this.2]; omega) (LR.nil _ _ _ w.heap.size) (LR.nil _ _ _ w.heap.size) (LR.nil _ _ _ _) (Nat.le_refl _) (Nat.le_refl _) (by omega)⟩
  | false =>
    go_wp2_with fail
    refine next_no ?_
    go_wp2_with fail
    have hr : number ts = .bad ts := by
      have hu := HR.out.2.2.2.2.2
      cases ts with
      | nil => rfl
      | cons s r =>
        have hus : u = s := hu
        unfold number; simp only; rw [← hus, if_neg (by rw [← HP.out]; decide)]
    rw [hr]
    exact ⟨rfl, Step.of_below (HB0.out.trans (K2.out.mono HB0.out.size)), HR.out.2.1.later K2.out, rfl⟩

set_option maxRecDepth 100000 in
set_option maxHeartbeats 2000000 in
theorem bin_t {w : World} {S U : Nat → Prop} {s : Tx} {va vb : Value} {a b : Nd} (ha : NS w TN S va a) (hb : NS w TN U vb b) (hd : ∀ b, S b → U b → False) (hs : s.length ≤ 65536) {Q : Ending → World → Prop}
    (hQ : ∀ v w', Below w.heap.size w w' → NS w' TN (fun b => S b ∨ U b ∨ w.heap.size ≤ b) v (bin s a b) → Q (.returned v) w') : Calls Tryz.prog 147 #[.string (bs s), va, vb] w Q := by
  obtain ⟨a1, c1, a2, c2, a3, c3, rfl⟩ := ha.form
  obtain ⟨b1, d1, b2, d2, b3, d3, rfl⟩ := hb.form
  have H := Lib.hid (And.intro ha (And.intro hb (And.intro hd hs)))
  have HQ := Lib.hid hQ
  clear ha hb hQ
  go_enter Tryz.func147, Tryz.ntmps147
  go_wp2_with fail
  obtain ⟨hA1, hn1, hz1⟩ := Put.new w #[.int .u8 (a.kind : Int), .string (tx a.text), .slice a1 a.l.len c1, .slice a2 a.body.len c2, .slice a3 a.els.len c3] 39
  generalize w.alloc (.cells #[.int .u8 (a.kind : Int), .string (tx a.text), .slice a1 a.l.len c1, .slice a2 a.body.len c2, .slice a3 a.els.len c3] 39) = w1 at *
  obtain ⟨hA2, hn2, hz2⟩ := Put.new w1 #[.int .u8 (b.kind : Int), .string (tx b.text), .slice b1 b.l.len d1, .slice b2 b.body.len d2, .slice b3 b.els.len d3] 39
  generalize w1.alloc (.cells #[.int .u8 (b.kind : Int), .string (tx b.text), .slice b1 b.l.len d1, .slice b2 b.body.len d2, .slice b3 b.els.len d3] 39) = w2 at *
  obtain ⟨hA3, hn3, hz3⟩ := Put.new w2 #[.int .u8 5, .string (bs s), .slice (some ⟨w.heap.size + 1 + 1 + 1, 0, none⟩) 2 2, .slice none 0 0, .slice none 0 0] 39
  generalize w2.alloc (.cells #[.int .u8 5, .string (bs s), .slice (some ⟨w.heap.size + 1 + 1 + 1, 0, none⟩) 2 2, .slice none 0 0, .slice none 0 0] 39) = w3 at *
  have z3 : w3.heap.size = w.heap.size + 1 + 1 + 1 := by omega
  have hb3 := (hA1.trans (hA2.mono hA1.size)).trans (hA3.mono (by omega))
  have h0 := H.out
  obtain ⟨F, hF, hn, hS⟩ := NS.two (h0.1.later hb3) (h0.2.1.later hb3) h0.2.2.1
  obtain ⟨hA4, _, hz4⟩ := Put.new w3 #[.int .u8 (a.kind : Int), .string (tx a.text), .slice a1 a.l.len c1, .slice a2 a.body.len c2, .slice a3 a.els.len c3, .int .u8 (b.kind : Int), .string (tx b.text), .slice b1 b.l.len d1, .slice b2 b.body.len d2, .slice b3 b.els.len d3] 39
  generalize w3.alloc (.cells #[.int .u8 (a.kind : Int), .string (tx a.text), .slice a1 a.l.len c1, .slice a2 a.body.len c2, .slice a3 a.els.len c3, .int .u8 (b.kind : Int), .string (tx b.text), .slice b1 b.l.len d1, .slice b2 b.body.len d2, .slice b3 b.els.len d3] 39) = w4 at *
  have hrow := (hA4.block w2.heap.size (by omega)).trans hn3
  have e2 : w2.heap.size = w.heap.size + 1 + 1 := by omega
  rw [e2] at hrow
  refine bodyPost_ret (results_cell1 rfl _ _ _ rfl (nodeVar _ (w.heap.size + 1 + 1) _ _ _ _ _ hrow)) rfl (HQ.out _ _ (hb3.trans (hA4.mono hb3.size)) ?_)
  rw [z3] at hF
  refine ⟨⟨5, s, .slice (some ⟨w.heap.size + 1 + 1 + 1, 0, none⟩) 2 2, .slice none 0 0, .slice none 0 0⟩, F, rfl, ⟨F, [], [], by simp, ⟨⟨rfl, (by decide : (5:Nat) < 256)⟩, rfl, (by have := h0.2.2.2; show s.length ≤ _; omega)⟩, hF, LF.nil _ _, LF.nil _ _⟩, hn, fun b hb => ?_⟩
  rcases hS b hb with h | h | h
  · exact .inl h
  · exact .inr (.inl h)
  · exact .inr (.inr (by omega))
end Go.Proofs.YtobpnjnfpgcpaaaGreatDoor
