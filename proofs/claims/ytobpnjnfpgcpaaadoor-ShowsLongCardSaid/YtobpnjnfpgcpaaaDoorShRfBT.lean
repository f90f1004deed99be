/- Shows, as the document has it: statements. -/
import Derived.Test.YtobpnjnfpgcpaaaDoorShRfTT
import Derived.Test.YtobpnjnfpgcpaaaDoorTrA2
namespace Go.Proofs.YtobpnjnfpgcpaaaDoor
open Go.RowKit Go.My Go.Nd

def BlockOk (tw : Bool) (xs : Ns) : Prop := ∀ (w : World) (B : Nat) (v : Value) (d : Nat) (t : Tx), t = tabs d → B ≤ w.heap.size → Nodes w (· < B) tw v xs → d + xs.sz ≤ 1048600 →
  Calls Tryd.prog 22 #[v, .string (bs t)] w fun e w' => e = .returned (.string (bs (xs.lines d))) ∧ Below w.heap.size w w'
def BlOk (tw : Bool) (x : Nd) : Prop := (∃ y, x.l.items = [y] ∧ RExprOk tw y) ∧ BlockOk tw x.body ∧ BlockOk tw x.els
theorem tabs_snoc (d : Nat) : tabs d ++ [9] = tabs (d + 1) := by unfold tabs; rw [List.replicate_succ']
def BlAt (w : World) (xs : Ns) (d : Nat) (gk : Nat) (v5 v6 : Value) (wr : World) : Prop :=
  ∃ k : Nat, k ≤ xs.items.length ∧ gk = xs.items.length - k ∧ v5 = .string (bs (upto xs d k)) ∧ v6 = .int .i64 (k : Int) ∧ Below w.heap.size w wr

set_option maxRecDepth 100000 in
set_option maxHeartbeats 16000000 in
theorem block_r {tw : Bool} {xs : Ns} (hx : ∀ x ∈ xs.items, BlOk tw x) : BlockOk tw xs := by
  intro w B v d t ht hB hv hd
  obtain ⟨a0, cp, rfl, hr, hcell⟩ := hv.open_
  have l0 : (0 : Int) ≤ (xs.items.length : Int) := by omega
  have l1 : (xs.items.length : Int) * 96 ≤ 140737488351232 := by have := hr.2.2.1; omega
  have HX := Lib.hid (And.intro hx (And.intro hd (lines_short xs d hd)))
  have HC := Lib.hid (And.intro hcell hB)
  have HT := Lib.hid ht
  clear hx hd hcell hB hr hv ht
  go_enter Tryd.func22, Tryd.ntmps22
  go_wp2_with fail
  go_loopg [5, 6] xs.items.length (fun gk v5 v6 wr => BlAt w xs d gk v5 v6 wr)
  case atStart => exact ⟨0, Nat.zero_le _, rfl, rfl, rfl, Below.refl _ _⟩
  case round =>
    obtain ⟨k, hk, rfl, rfl, rfl, hS⟩ := hrel
    have k0 : (0 : Int) ≤ (k : Int) := by omega
    by_cases hlt : k < xs.items.length
    · have k1 : (k : Int) < (xs.items.length : Int) := by omega
      obtain ⟨b, off, v1, v2, v3, hb1, hSb, hN⟩ := HC.out.1 k hlt
      subst hb1
      have hM := hN.frame hSb fun j hj _ => hS.block j (Nat.lt_of_lt_of_le hj HC.out.2)
      have hI := HX.out.1 _ (List.getElem_mem hlt)
      have hsz := sz_of_mem _ (List.getElem_mem hlt)
      have hup := upto_step xs d k hlt
      have hle := upto_le xs d (k + 1)
      rw [hup] at hle
      generalize hxx : xs.items[k] = x at *
      clear hxx
      have d0 := hM.d0
      have d1 := hM.d1
      have d2 := hM.d2
      have d3 := hM.d3
      have d4 := hM.d4
      have M1 := hM.l
      have M2 := hM.body
      have M3 := hM.els
      obtain ⟨z1, y1, rfl⟩ := M1.form
      obtain ⟨z2, y2, rfl⟩ := M2.form
      obtain ⟨z3, y3, rfl⟩ := M3.form
      have hBr : B ≤ wr.heap.size := Nat.le_trans HC.out.2 hS.size
      obtain ⟨hA, hn, hz⟩ := Put.new wr #[.int .u8 (x.kind : Int), .string (tx x.text), .slice z1 x.l.len y1, .slice z2 x.body.len y2, .slice z3 x.els.len y3] 25
      obtain ⟨bx, hbx⟩ : ∃ bx, bx = wr.heap.size := ⟨_, rfl⟩
      obtain ⟨w1, hw1⟩ : ∃ w1, w1 = wr.alloc (.cells #[.int .u8 (x.kind : Int), .string (tx x.text), .slice z1 x.l.len y1, .slice z2 x.body.len y2, .slice z3 x.els.len y3] 25) := ⟨_, rfl⟩
      rw [← hw1] at hA hn hz
      rw [← hbx] at hn
      obtain ⟨q0, q1, q2, q3, q4, _, _, _, _, _⟩ := row5 hn
      have hmB : Below B wr w1 := hA.mono hBr
      have hbox : BxIs tw w1 B bx x z1 y1 z2 y2 z3 y3 := ⟨hn, hM.kind, hM.text, M1.below hmB, M2.below hmB, M3.below hmB, Nat.le_trans hBr hA.size⟩
      obtain ⟨⟨y, hy, hey⟩, hib, hie⟩ := hI
      have hlen1 : x.l.items.length = 1 := by rw [hy]; rfl
      obtain ⟨cb, co, u1, g1, u2, g2, u3, g3, rfl, hcB, hcc, hcn⟩ := hbox.child 0 (by omega)
      have hy0 : x.l.items[0]'(by omega) = y := by simp [hy]
      rw [hy0] at hcc hcn
      have hl1 : x.l.len = 1 := hlen1
      rw [hl1] at q2
      obtain ⟨p0, p1, p2, p3, p4⟩ := hcc w1 (Below.refl _ _)
      simp only [Nat.zero_mul, Nat.add_zero] at p0 p1 p2 p3 p4
      obtain ⟨u, hu⟩ : ∃ u, u = upto xs d k := ⟨_, rfl⟩
      obtain ⟨E, hE0⟩ : ∃ E, E = y.sh := ⟨_, rfl⟩
      have hE : x.l.sh.getD 0 [] = E := by rw [sh_items, hy, hE0]; rfl
      obtain ⟨LB, hLB⟩ : ∃ LB, LB = x.body.lines (d + 1) := ⟨_, rfl⟩
      obtain ⟨LE, hLE⟩ : ∃ LE, LE = x.els.lines (d + 1) := ⟨_, rfl⟩
      have hline : x.line d = lineOf x.kind x.text E d LB LE (x.els.len != 0) := by unfold Nd.line; rw [hE, hLB, hLE]
      obtain ⟨R, hR⟩ : ∃ R, R = lineOf x.kind x.text E d LB LE (x.els.len != 0) := ⟨_, rfl⟩
      rw [hline, ← hR] at hup hle
      unfold lineOf at hR
      rw [← HT.out] at hR
      rw [← hu] at hup hle ⊢
      have hxd := HX.out.2.1
      have hxs := HX.out.2.2
      rw [List.length_append] at hle
      have X := Lib.hid (And.intro (hS.trans (hA.mono hS.size)) hbox)
      have Z := Lib.hid (And.intro (hcn w1 (Below.refl _ _)) (And.intro hey (And.intro hib (And.intro hie (And.intro (show d + 1 + x.body.sz ≤ 1048600 ∧ d + 1 + x.els.sz ≤ 1048600 by omega) hlt)))))
      have HE := Lib.hid (And.intro hE0 (And.intro hLB hLE))
      have HUP := Lib.hid hup
      have hbnd : u.length + R.length ≤ 70368744177664 := by omega
      have at1 : ∀ wx, (Op.stringOp .add (bs t) ⟨#[9]⟩).run Tryd.prog wx = .ok (.string (bs (t ++ [9]))) wx := add_any t [9] (by have := HX.out.2.1; have hl := congrArg List.length HT.out; unfold tabs at hl; rw [List.length_replicate] at hl; simp; omega)
      obtain ⟨t2, ht2⟩ : ∃ t2, t2 = t ++ [9] := ⟨_, rfl⟩
      rw [← ht2] at at1
      have HT2 := Lib.hid (show t2 = tabs (d + 1) by rw [ht2, HT.out, tabs_snoc])
      clear hA hn hz hN hM M1 M2 M3 hSb hS hBr hmB hey hib hie hy hlen1 hl1 hy0 hcc hcn hcB hup hle hxs hxd hE hE0 hline hu hsz hk hlt hLB hLE ht2 hbox
      go_upto_region 6 with fail
      rw [← hbx, ← hw1]
      clear hbx hw1 d0 d1 d2 d3 d4
      by_cases h9 : x.kind = 9
      · have HK := Lib.hid (show (x.kind : Int) = 9 by omega)
        cases h0 : (x.els.len != 0)
        · have hRR : R = t ++ ([105, 102, 32] ++ E ++ [32, 123, 10] ++ LB ++ t ++ [125] ++ [10]) := by rw [hR, if_pos h9, h0]; simp
          have H0 := Lib.hid (show x.els.len = 0 by simpa using h0)
          clear hR h9 h0
          have ad0 : ∀ wx, (Op.stringOp .add (bs u) (bs t)).run Tryd.prog wx = .ok (.string (bs (u ++ t))) wx := add_any (u) t (by have hl := congrArg List.length hRR; simp only [List.length_append, List.length_cons, List.length_nil] at hl ⊢; omega)
          have ad1 : ∀ wx, (Op.stringOp .add (bs (u ++ t)) ⟨#[105, 102, 32]⟩).run Tryd.prog wx = .ok (.string (bs (u ++ t ++ [105, 102, 32]))) wx := add_any (u ++ t) [105, 102, 32] (by have hl := congrArg List.length hRR; simp only [List.length_append, List.length_cons, List.length_nil] at hl ⊢; omega)
          have ad2 : ∀ wx, (Op.stringOp .add (bs (u ++ t ++ [105, 102, 32])) (bs E)).run Tryd.prog wx = .ok (.string (bs (u ++ t ++ [105, 102, 32] ++ E))) wx := add_any (u ++ t ++ [105, 102, 32]) E (by have hl := congrArg List.length hRR; simp only [List.length_append, List.length_cons, List.length_nil] at hl ⊢; omega)
          have ad3 : ∀ wx, (Op.stringOp .add (bs (u ++ t ++ [105, 102, 32] ++ E)) ⟨#[32, 123, 10]⟩).run Tryd.prog wx = .ok (.string (bs (u ++ t ++ [105, 102, 32] ++ E ++ [32, 123, 10]))) wx := add_any (u ++ t ++ [105, 102, 32] ++ E) [32, 123, 10] (by have hl := congrArg List.length hRR; simp only [List.length_append, List.length_cons, List.length_nil] at hl ⊢; omega)
          have ad4 : ∀ wx, (Op.stringOp .add (bs (u ++ t ++ [105, 102, 32] ++ E ++ [32, 123, 10])) (bs LB)).run Tryd.prog wx = .ok (.string (bs (u ++ t ++ [105, 102, 32] ++ E ++ [32, 123, 10] ++ LB))) wx := add_any (u ++ t ++ [105, 102, 32] ++ E ++ [32, 123, 10]) LB (by have hl := congrArg List.length hRR; simp only [List.length_append, List.length_cons, List.length_nil] at hl ⊢; omega)
          have ad5 : ∀ wx, (Op.stringOp .add (bs (u ++ t ++ [105, 102, 32] ++ E ++ [32, 123, 10] ++ LB)) (bs t)).run Tryd.prog wx = .ok (.string (bs (u ++ t ++ [105, 102, 32] ++ E ++ [32, 123, 10] ++ LB ++ t))) wx := add_any (u ++ t ++ [105, 102, 32] ++ E ++ [32, 123, 10] ++ LB) t (by have hl := congrArg List.length hRR; simp only [List.length_append, List.length_cons, List.length_nil] at hl ⊢; omega)
          have ad6 : ∀ wx, (Op.stringOp .add (bs (u ++ t ++ [105, 102, 32] ++ E ++ [32, 123, 10] ++ LB ++ t)) ⟨#[125]⟩).run Tryd.prog wx = .ok (.string (bs (u ++ t ++ [105, 102, 32] ++ E ++ [32, 123, 10] ++ LB ++ t ++ [125]))) wx := add_any (u ++ t ++ [105, 102, 32] ++ E ++ [32, 123, 10] ++ LB ++ t) [125] (by have hl := congrArg List.length hRR; simp only [List.length_append, List.length_cons, List.length_nil] at hl ⊢; omega)
          have ad7 : ∀ wx, (Op.stringOp .add (bs (u ++ t ++ [105, 102, 32] ++ E ++ [32, 123, 10] ++ LB ++ t ++ [125])) ⟨#[10]⟩).run Tryd.prog wx = .ok (.string (bs (u ++ t ++ [105, 102, 32] ++ E ++ [32, 123, 10] ++ LB ++ t ++ [125] ++ [10]))) wx := add_any (u ++ t ++ [105, 102, 32] ++ E ++ [32, 123, 10] ++ LB ++ t ++ [125]) [10] (by have hl := congrArg List.length hRR; simp only [List.length_append, List.length_cons, List.length_nil] at hl ⊢; omega)
          have hfin : u ++ t ++ [105, 102, 32] ++ E ++ [32, 123, 10] ++ LB ++ t ++ [125] ++ [10] = u ++ R := by rw [hRR]; simp only [List.append_assoc]
          obtain ⟨s0, hs0⟩ : ∃ s0, s0 = u ++ t := ⟨_, rfl⟩
          rw [← hs0] at ad0 ad1 ad2 ad3 ad4 ad5 ad6 ad7 hfin
          obtain ⟨s1, hs1⟩ : ∃ s1, s1 = s0 ++ [105, 102, 32] := ⟨_, rfl⟩
          rw [← hs1] at ad1 ad2 ad3 ad4 ad5 ad6 ad7 hfin
          obtain ⟨s2, hs2⟩ : ∃ s2, s2 = s1 ++ E := ⟨_, rfl⟩
          rw [← hs2] at ad2 ad3 ad4 ad5 ad6 ad7 hfin
          obtain ⟨s3, hs3⟩ : ∃ s3, s3 = s2 ++ [32, 123, 10] := ⟨_, rfl⟩
          rw [← hs3] at ad3 ad4 ad5 ad6 ad7 hfin
          obtain ⟨s4, hs4⟩ : ∃ s4, s4 = s3 ++ LB := ⟨_, rfl⟩
          rw [← hs4] at ad4 ad5 ad6 ad7 hfin
          obtain ⟨s5, hs5⟩ : ∃ s5, s5 = s4 ++ t := ⟨_, rfl⟩
          rw [← hs5] at ad5 ad6 ad7 hfin
          obtain ⟨s6, hs6⟩ : ∃ s6, s6 = s5 ++ [125] := ⟨_, rfl⟩
          rw [← hs6] at ad6 ad7 hfin
          obtain ⟨s7, hs7⟩ : ∃ s7, s7 = s6 ++ [10] := ⟨_, rfl⟩
          rw [← hs7] at ad7 hfin
          have HF := Lib.hid (show upto xs d (k + 1) = s7 by rw [hfin, HUP.out])
          clear hfin hRR hbnd hs0 hs1 hs2 hs3 hs4 hs5 hs6 hs7
          go_wp2_with fail
          refine (Z.out.2.1 w1 B _ X.out.2.hB Z.out.1).mono ?_
          rintro e w2 ⟨rfl, hb⟩
          rw [← HE.out.1]
          have X2 := Lib.hid (And.intro (X.out.1.trans (hb.mono X.out.1.size)) (X.out.2.later hb))
          clear hb q0 q1 q2 q3 q4 p0 p1 p2 p3 p4
          obtain ⟨q0, q1, q2, q3, q4, _, _, _, _, _⟩ := row5 X2.out.2.row
          rw [HK.out] at q0
          go_wp2_with fail
          refine (Z.out.2.2.1 w2 B _ (d + 1) _ HT2.out X2.out.2.hB X2.out.2.body Z.out.2.2.2.2.1.1).mono ?_
          rintro e w3 ⟨rfl, hb⟩
          rw [← HE.out.2.1]
          have X3 := Lib.hid (And.intro (X2.out.1.trans (hb.mono X2.out.1.size)) (X2.out.2.later hb))
          clear hb q0 q1 q2 q3 q4
          obtain ⟨q0, q1, q2, q3, q4, _, _, _, _, _⟩ := row5 X3.out.2.row
          rw [HK.out] at q0
          rw [H0.out] at q4
          go_wp2_with fail
          go_roundg (xs.items.length - (k + 1))
          case measure => have := Z.out.2.2.2.2.2; omega
          case rel => exact ⟨k + 1, Z.out.2.2.2.2.2, rfl, by rw [HF.out], by go_num, X3.out.1⟩
        · have i0 : (0 : Int) < (x.els.len : Int) := by simp only [bne_iff_ne, ne_eq] at h0; omega
          have hRR : R = t ++ ([105, 102, 32] ++ E ++ [32, 123, 10] ++ LB ++ t ++ [125] ++ [32, 101, 108, 115, 101, 32, 123, 10] ++ LE ++ t ++ [125] ++ [10]) := by rw [hR, if_pos h9, h0]; simp
          clear hR h9 h0
          have ad0 : ∀ wx, (Op.stringOp .add (bs u) (bs t)).run Tryd.prog wx = .ok (.string (bs (u ++ t))) wx := add_any (u) t (by have hl := congrArg List.length hRR; simp only [List.length_append, List.length_cons, List.length_nil] at hl ⊢; omega)
          have ad1 : ∀ wx, (Op.stringOp .add (bs (u ++ t)) ⟨#[105, 102, 32]⟩).run Tryd.prog wx = .ok (.string (bs (u ++ t ++ [105, 102, 32]))) wx := add_any (u ++ t) [105, 102, 32] (by have hl := congrArg List.length hRR; simp only [List.length_append, List.length_cons, List.length_nil] at hl ⊢; omega)
          have ad2 : ∀ wx, (Op.stringOp .add (bs (u ++ t ++ [105, 102, 32])) (bs E)).run Tryd.prog wx = .ok (.string (bs (u ++ t ++ [105, 102, 32] ++ E))) wx := add_any (u ++ t ++ [105, 102, 32]) E (by have hl := congrArg List.length hRR; simp only [List.length_append, List.length_cons, List.length_nil] at hl ⊢; omega)
          have ad3 : ∀ wx, (Op.stringOp .add (bs (u ++ t ++ [105, 102, 32] ++ E)) ⟨#[32, 123, 10]⟩).run Tryd.prog wx = .ok (.string (bs (u ++ t ++ [105, 102, 32] ++ E ++ [32, 123, 10]))) wx := add_any (u ++ t ++ [105, 102, 32] ++ E) [32, 123, 10] (by have hl := congrArg List.length hRR; simp only [List.length_append, List.length_cons, List.length_nil] at hl ⊢; omega)
          have ad4 : ∀ wx, (Op.stringOp .add (bs (u ++ t ++ [105, 102, 32] ++ E ++ [32, 123, 10])) (bs LB)).run Tryd.prog wx = .ok (.string (bs (u ++ t ++ [105, 102, 32] ++ E ++ [32, 123, 10] ++ LB))) wx := add_any (u ++ t ++ [105, 102, 32] ++ E ++ [32, 123, 10]) LB (by have hl := congrArg List.length hRR; simp only [List.length_append, List.length_cons, List.length_nil] at hl ⊢; omega)
          have ad5 : ∀ wx, (Op.stringOp .add (bs (u ++ t ++ [105, 102, 32] ++ E ++ [32, 123, 10] ++ LB)) (bs t)).run Tryd.prog wx = .ok (.string (bs (u ++ t ++ [105, 102, 32] ++ E ++ [32, 123, 10] ++ LB ++ t))) wx := add_any (u ++ t ++ [105, 102, 32] ++ E ++ [32, 123, 10] ++ LB) t (by have hl := congrArg List.length hRR; simp only [List.length_append, List.length_cons, List.length_nil] at hl ⊢; omega)
          have ad6 : ∀ wx, (Op.stringOp .add (bs (u ++ t ++ [105, 102, 32] ++ E ++ [32, 123, 10] ++ LB ++ t)) ⟨#[125]⟩).run Tryd.prog wx = .ok (.string (bs (u ++ t ++ [105, 102, 32] ++ E ++ [32, 123, 10] ++ LB ++ t ++ [125]))) wx := add_any (u ++ t ++ [105, 102, 32] ++ E ++ [32, 123, 10] ++ LB ++ t) [125] (by have hl := congrArg List.length hRR; simp only [List.length_append, List.length_cons, List.length_nil] at hl ⊢; omega)
          have ad7 : ∀ wx, (Op.stringOp .add (bs (u ++ t ++ [105, 102, 32] ++ E ++ [32, 123, 10] ++ LB ++ t ++ [125])) ⟨#[32, 101, 108, 115, 101, 32, 123, 10]⟩).run Tryd.prog wx = .ok (.string (bs (u ++ t ++ [105, 102, 32] ++ E ++ [32, 123, 10] ++ LB ++ t ++ [125] ++ [32, 101, 108, 115, 101, 32, 123, 10]))) wx := add_any (u ++ t ++ [105, 102, 32] ++ E ++ [32, 123, 10] ++ LB ++ t ++ [125]) [32, 101, 108, 115, 101, 32, 123, 10] (by have hl := congrArg List.length hRR; simp only [List.length_append, List.length_cons, List.length_nil] at hl ⊢; omega)
          have ad8 : ∀ wx, (Op.stringOp .add (bs (u ++ t ++ [105, 102, 32] ++ E ++ [32, 123, 10] ++ LB ++ t ++ [125] ++ [32, 101, 108, 115, 101, 32, 123, 10])) (bs LE)).run Tryd.prog wx = .ok (.string (bs (u ++ t ++ [105, 102, 32] ++ E ++ [32, 123, 10] ++ LB ++ t ++ [125] ++ [32, 101, 108, 115, 101, 32, 123, 10] ++ LE))) wx := add_any (u ++ t ++ [105, 102, 32] ++ E ++ [32, 123, 10] ++ LB ++ t ++ [125] ++ [32, 101, 108, 115, 101, 32, 123, 10]) LE (by have hl := congrArg List.length hRR; simp only [List.length_append, List.length_cons, List.length_nil] at hl ⊢; omega)
          have ad9 : ∀ wx, (Op.stringOp .add (bs (u ++ t ++ [105, 102, 32] ++ E ++ [32, 123, 10] ++ LB ++ t ++ [125] ++ [32, 101, 108, 115, 101, 32, 123, 10] ++ LE)) (bs t)).run Tryd.prog wx = .ok (.string (bs (u ++ t ++ [105, 102, 32] ++ E ++ [32, 123, 10] ++ LB ++ t ++ [125] ++ [32, 101, 108, 115, 101, 32, 123, 10] ++ LE ++ t))) wx := add_any (u ++ t ++ [105, 102, 32] ++ E ++ [32, 123, 10] ++ LB ++ t ++ [125] ++ [32, 101, 108, 115, 101, 32, 123, 10] ++ LE) t (by have hl := congrArg List.length hRR; simp only [List.length_append, List.length_cons, List.length_nil] at hl ⊢; omega)
          have ad10 : ∀ wx, (Op.stringOp .add (bs (u ++ t ++ [105, 102, 32] ++ E ++ [32, 123, 10] ++ LB ++ t ++ [125] ++ [32, 101, 108, 115, 101, 32, 123, 10] ++ LE ++ t)) ⟨#[125]⟩).run Tryd.prog wx = .ok (.string (bs (u ++ t ++ [105, 102, 32] ++ E ++ [32, 123, 10] ++ LB ++ t ++ [125] ++ [32, 101, 108, 115, 101, 32, 123, 10] ++ LE ++ t ++ [125]))) wx := add_any (u ++ t ++ [105, 102, 32] ++ E ++ [32, 123, 10] ++ LB ++ t ++ [125] ++ [32, 101, 108, 115, 101, 32, 123, 10] ++ LE ++ t) [125] (by have hl := congrArg List.length hRR; simp only [List.length_append, List.length_cons, List.length_nil] at hl ⊢; omega)
          have ad11 : ∀ wx, (Op.stringOp .add (bs (u ++ t ++ [105, 102, 32] ++ E ++ [32, 123, 10] ++ LB ++ t ++ [125] ++ [32, 101, 108, 115, 101, 32, 123, 10] ++ LE ++ t ++ [125])) ⟨#[10]⟩).run Tryd.prog wx = .ok (.string (bs (u ++ t ++ [105, 102, 32] ++ E ++ [32, 123, 10] ++ LB ++ t ++ [125] ++ [32, 101, 108, 115, 101, 32, 123, 10] ++ LE ++ t ++ [125] ++ [10]))) wx := add_any (u ++ t ++ [105, 102, 32] ++ E ++ [32, 123, 10] ++ LB ++ t ++ [125] ++ [32, 101, 108, 115, 101, 32, 123, 10] ++ LE ++ t ++ [125]) [10] (by have hl := congrArg List.length hRR; simp only [List.length_append, List.length_cons, List.length_nil] at hl ⊢; omega)
          have hfin : u ++ t ++ [105, 102, 32] ++ E ++ [32, 123, 10] ++ LB ++ t ++ [125] ++ [32, 101, 108, 115, 101, 32, 123, 10] ++ LE ++ t ++ [125] ++ [10] = u ++ R := by rw [hRR]; simp only [List.append_assoc]
          obtain ⟨s0, hs0⟩ : ∃ s0, s0 = u ++ t := ⟨_, rfl⟩
          rw [← hs0] at ad0 ad1 ad2 ad3 ad4 ad5 ad6 ad7 ad8 ad9 ad10 ad11 hfin
          obtain ⟨s1, hs1⟩ : ∃ s1, s1 = s0 ++ [105, 102, 32] := ⟨_, rfl⟩
          rw [← hs1] at ad1 ad2 ad3 ad4 ad5 ad6 ad7 ad8 ad9 ad10 ad11 hfin
          obtain ⟨s2, hs2⟩ : ∃ s2, s2 = s1 ++ E := ⟨_, rfl⟩
          rw [← hs2] at ad2 ad3 ad4 ad5 ad6 ad7 ad8 ad9 ad10 ad11 hfin
          obtain ⟨s3, hs3⟩ : ∃ s3, s3 = s2 ++ [32, 123, 10] := ⟨_, rfl⟩
          rw [← hs3] at ad3 ad4 ad5 ad6 ad7 ad8 ad9 ad10 ad11 hfin
          obtain ⟨s4, hs4⟩ : ∃ s4, s4 = s3 ++ LB := ⟨_, rfl⟩
          rw [← hs4] at ad4 ad5 ad6 ad7 ad8 ad9 ad10 ad11 hfin
          obtain ⟨s5, hs5⟩ : ∃ s5, s5 = s4 ++ t := ⟨_, rfl⟩
          rw [← hs5] at ad5 ad6 ad7 ad8 ad9 ad10 ad11 hfin
          obtain ⟨s6, hs6⟩ : ∃ s6, s6 = s5 ++ [125] := ⟨_, rfl⟩
          rw [← hs6] at ad6 ad7 ad8 ad9 ad10 ad11 hfin
          obtain ⟨s7, hs7⟩ : ∃ s7, s7 = s6 ++ [32, 101, 108, 115, 101, 32, 123, 10] := ⟨_, rfl⟩
          rw [← hs7] at ad7 ad8 ad9 ad10 ad11 hfin
          obtain ⟨s8, hs8⟩ : ∃ s8, s8 = s7 ++ LE := ⟨_, rfl⟩
          rw [← hs8] at ad8 ad9 ad10 ad11 hfin
          obtain ⟨s9, hs9⟩ : ∃ s9, s9 = s8 ++ t := ⟨_, rfl⟩
          rw [← hs9] at ad9 ad10 ad11 hfin
          obtain ⟨s10, hs10⟩ : ∃ s10, s10 = s9 ++ [125] := ⟨_, rfl⟩
          rw [← hs10] at ad10 ad11 hfin
          obtain ⟨s11, hs11⟩ : ∃ s11, s11 = s10 ++ [10] := ⟨_, rfl⟩
          rw [← hs11] at ad11 hfin
          have HF := Lib.hid (show upto xs d (k + 1) = s11 by rw [hfin, HUP.out])
          clear hfin hRR hbnd hs0 hs1 hs2 hs3 hs4 hs5 hs6 hs7 hs8 hs9 hs10 hs11
          go_wp2_with fail
          refine (Z.out.2.1 w1 B _ X.out.2.hB Z.out.1).mono ?_
          rintro e w2 ⟨rfl, hb⟩
          rw [← HE.out.1]
          have X2 := Lib.hid (And.intro (X.out.1.trans (hb.mono X.out.1.size)) (X.out.2.later hb))
          clear hb q0 q1 q2 q3 q4 p0 p1 p2 p3 p4
          obtain ⟨q0, q1, q2, q3, q4, _, _, _, _, _⟩ := row5 X2.out.2.row
          rw [HK.out] at q0
          go_wp2_with fail
          refine (Z.out.2.2.1 w2 B _ (d + 1) _ HT2.out X2.out.2.hB X2.out.2.body Z.out.2.2.2.2.1.1).mono ?_
          rintro e w3 ⟨rfl, hb⟩
          rw [← HE.out.2.1]
          have X3 := Lib.hid (And.intro (X2.out.1.trans (hb.mono X2.out.1.size)) (X2.out.2.later hb))
          clear hb q0 q1 q2 q3 q4
          obtain ⟨q0, q1, q2, q3, q4, _, _, _, _, _⟩ := row5 X3.out.2.row
          rw [HK.out] at q0
          go_wp2_with fail
          refine (Z.out.2.2.2.1 w3 B _ (d + 1) _ HT2.out X3.out.2.hB X3.out.2.els Z.out.2.2.2.2.1.2).mono ?_
          rintro e w4 ⟨rfl, hb⟩
          rw [← HE.out.2.2]
          have X4 := Lib.hid (And.intro (X3.out.1.trans (hb.mono X3.out.1.size)) (X3.out.2.later hb))
          clear hb q0 q1 q2 q3 q4
          obtain ⟨q0, q1, q2, q3, q4, _, _, _, _, _⟩ := row5 X4.out.2.row
          go_wp2_with fail
          go_roundg (xs.items.length - (k + 1))
          case measure => have := Z.out.2.2.2.2.2; omega
          case rel => exact ⟨k + 1, Z.out.2.2.2.2.2, rfl, by rw [HF.out], by go_num, X4.out.1⟩
      · by_cases h8 : x.kind = 8
        · have HK := Lib.hid (show (x.kind : Int) = 8 by omega)
          have hRR : R = t ++ (x.text ++ [32, 61, 32] ++ E ++ [59, 10]) := by rw [hR]; unfold aheadOf; rw [if_neg (by omega), if_neg (by omega), if_pos h8]
          clear hR h8
          have ad0 : ∀ wx, (Op.stringOp .add (bs u) (bs t)).run Tryd.prog wx = .ok (.string (bs (u ++ t))) wx := add_any (u) t (by have hl := congrArg List.length hRR; simp only [List.length_append, List.length_cons, List.length_nil] at hl ⊢; omega)
          have ad1 : ∀ wx, (Op.stringOp .add (bs (u ++ t)) (tx x.text)).run Tryd.prog wx = .ok (.string (bs (u ++ t ++ x.text))) wx := add_any (u ++ t) x.text (by have hl := congrArg List.length hRR; simp only [List.length_append, List.length_cons, List.length_nil] at hl ⊢; omega)
          have ad2 : ∀ wx, (Op.stringOp .add (bs (u ++ t ++ x.text)) ⟨#[32, 61, 32]⟩).run Tryd.prog wx = .ok (.string (bs (u ++ t ++ x.text ++ [32, 61, 32]))) wx := add_any (u ++ t ++ x.text) [32, 61, 32] (by have hl := congrArg List.length hRR; simp only [List.length_append, List.length_cons, List.length_nil] at hl ⊢; omega)
          have ad3 : ∀ wx, (Op.stringOp .add (bs (u ++ t ++ x.text ++ [32, 61, 32])) (bs E)).run Tryd.prog wx = .ok (.string (bs (u ++ t ++ x.text ++ [32, 61, 32] ++ E))) wx := add_any (u ++ t ++ x.text ++ [32, 61, 32]) E (by have hl := congrArg List.length hRR; simp only [List.length_append, List.length_cons, List.length_nil] at hl ⊢; omega)
          have ad4 : ∀ wx, (Op.stringOp .add (bs (u ++ t ++ x.text ++ [32, 61, 32] ++ E)) ⟨#[59, 10]⟩).run Tryd.prog wx = .ok (.string (bs (u ++ t ++ x.text ++ [32, 61, 32] ++ E ++ [59, 10]))) wx := add_any (u ++ t ++ x.text ++ [32, 61, 32] ++ E) [59, 10] (by have hl := congrArg List.length hRR; simp only [List.length_append, List.length_cons, List.length_nil] at hl ⊢; omega)
          have hfin : u ++ t ++ x.text ++ [32, 61, 32] ++ E ++ [59, 10] = u ++ R := by rw [hRR]; simp only [List.append_assoc]
          obtain ⟨s0, hs0⟩ : ∃ s0, s0 = u ++ t := ⟨_, rfl⟩
          rw [← hs0] at ad0 ad1 ad2 ad3 ad4 hfin
          obtain ⟨s1, hs1⟩ : ∃ s1, s1 = s0 ++ x.text := ⟨_, rfl⟩
          rw [← hs1] at ad1 ad2 ad3 ad4 hfin
          obtain ⟨s2, hs2⟩ : ∃ s2, s2 = s1 ++ [32, 61, 32] := ⟨_, rfl⟩
          rw [← hs2] at ad2 ad3 ad4 hfin
          obtain ⟨s3, hs3⟩ : ∃ s3, s3 = s2 ++ E := ⟨_, rfl⟩
          rw [← hs3] at ad3 ad4 hfin
          obtain ⟨s4, hs4⟩ : ∃ s4, s4 = s3 ++ [59, 10] := ⟨_, rfl⟩
          rw [← hs4] at ad4 hfin
          have HF := Lib.hid (show upto xs d (k + 1) = s4 by rw [hfin, HUP.out])
          clear hfin hRR hbnd hs0 hs1 hs2 hs3 hs4
          go_wp2_with fail
          refine (Z.out.2.1 w1 B _ X.out.2.hB Z.out.1).mono ?_
          rintro e w2 ⟨rfl, hb⟩
          rw [← HE.out.1]
          have X2 := Lib.hid (And.intro (X.out.1.trans (hb.mono X.out.1.size)) (X.out.2.later hb))
          clear hb q0 q1 q2 q3 q4 p0 p1 p2 p3 p4
          obtain ⟨q0, q1, q2, q3, q4, _, _, _, _, _⟩ := row5 X2.out.2.row
          rw [HK.out] at q0
          go_wp2_with fail
          go_roundg (xs.items.length - (k + 1))
          case measure => have := Z.out.2.2.2.2.2; omega
          case rel => exact ⟨k + 1, Z.out.2.2.2.2.2, rfl, by rw [HF.out], by go_num, X2.out.1⟩
        · by_cases h10 : x.kind = 10
          · have HK := Lib.hid (show (x.kind : Int) = 10 by omega)
            have hRR : R = t ++ ([119, 104, 105, 108, 101, 32] ++ E ++ [32, 123, 10] ++ LB ++ t ++ [125, 10]) := by rw [hR, if_neg (by omega), if_pos h10]
            clear hR h10
            have ad0 : ∀ wx, (Op.stringOp .add (bs u) (bs t)).run Tryd.prog wx = .ok (.string (bs (u ++ t))) wx := add_any (u) t (by have hl := congrArg List.length hRR; simp only [List.length_append, List.length_cons, List.length_nil] at hl ⊢; omega)
            have ad1 : ∀ wx, (Op.stringOp .add (bs (u ++ t)) ⟨#[119, 104, 105, 108, 101, 32]⟩).run Tryd.prog wx = .ok (.string (bs (u ++ t ++ [119, 104, 105, 108, 101, 32]))) wx := add_any (u ++ t) [119, 104, 105, 108, 101, 32] (by have hl := congrArg List.length hRR; simp only [List.length_append, List.length_cons, List.length_nil] at hl ⊢; omega)
            have ad2 : ∀ wx, (Op.stringOp .add (bs (u ++ t ++ [119, 104, 105, 108, 101, 32])) (bs E)).run Tryd.prog wx = .ok (.string (bs (u ++ t ++ [119, 104, 105, 108, 101, 32] ++ E))) wx := add_any (u ++ t ++ [119, 104, 105, 108, 101, 32]) E (by have hl := congrArg List.length hRR; simp only [List.length_append, List.length_cons, List.length_nil] at hl ⊢; omega)
            have ad3 : ∀ wx, (Op.stringOp .add (bs (u ++ t ++ [119, 104, 105, 108, 101, 32] ++ E)) ⟨#[32, 123, 10]⟩).run Tryd.prog wx = .ok (.string (bs (u ++ t ++ [119, 104, 105, 108, 101, 32] ++ E ++ [32, 123, 10]))) wx := add_any (u ++ t ++ [119, 104, 105, 108, 101, 32] ++ E) [32, 123, 10] (by have hl := congrArg List.length hRR; simp only [List.length_append, List.length_cons, List.length_nil] at hl ⊢; omega)
            have ad4 : ∀ wx, (Op.stringOp .add (bs (u ++ t ++ [119, 104, 105, 108, 101, 32] ++ E ++ [32, 123, 10])) (bs LB)).run Tryd.prog wx = .ok (.string (bs (u ++ t ++ [119, 104, 105, 108, 101, 32] ++ E ++ [32, 123, 10] ++ LB))) wx := add_any (u ++ t ++ [119, 104, 105, 108, 101, 32] ++ E ++ [32, 123, 10]) LB (by have hl := congrArg List.length hRR; simp only [List.length_append, List.length_cons, List.length_nil] at hl ⊢; omega)
            have ad5 : ∀ wx, (Op.stringOp .add (bs (u ++ t ++ [119, 104, 105, 108, 101, 32] ++ E ++ [32, 123, 10] ++ LB)) (bs t)).run Tryd.prog wx = .ok (.string (bs (u ++ t ++ [119, 104, 105, 108, 101, 32] ++ E ++ [32, 123, 10] ++ LB ++ t))) wx := add_any (u ++ t ++ [119, 104, 105, 108, 101, 32] ++ E ++ [32, 123, 10] ++ LB) t (by have hl := congrArg List.length hRR; simp only [List.length_append, List.length_cons, List.length_nil] at hl ⊢; omega)
            have ad6 : ∀ wx, (Op.stringOp .add (bs (u ++ t ++ [119, 104, 105, 108, 101, 32] ++ E ++ [32, 123, 10] ++ LB ++ t)) ⟨#[125, 10]⟩).run Tryd.prog wx = .ok (.string (bs (u ++ t ++ [119, 104, 105, 108, 101, 32] ++ E ++ [32, 123, 10] ++ LB ++ t ++ [125, 10]))) wx := add_any (u ++ t ++ [119, 104, 105, 108, 101, 32] ++ E ++ [32, 123, 10] ++ LB ++ t) [125, 10] (by have hl := congrArg List.length hRR; simp only [List.length_append, List.length_cons, List.length_nil] at hl ⊢; omega)
            have hfin : u ++ t ++ [119, 104, 105, 108, 101, 32] ++ E ++ [32, 123, 10] ++ LB ++ t ++ [125, 10] = u ++ R := by rw [hRR]; simp only [List.append_assoc]
            obtain ⟨s0, hs0⟩ : ∃ s0, s0 = u ++ t := ⟨_, rfl⟩
            rw [← hs0] at ad0 ad1 ad2 ad3 ad4 ad5 ad6 hfin
            obtain ⟨s1, hs1⟩ : ∃ s1, s1 = s0 ++ [119, 104, 105, 108, 101, 32] := ⟨_, rfl⟩
            rw [← hs1] at ad1 ad2 ad3 ad4 ad5 ad6 hfin
            obtain ⟨s2, hs2⟩ : ∃ s2, s2 = s1 ++ E := ⟨_, rfl⟩
            rw [← hs2] at ad2 ad3 ad4 ad5 ad6 hfin
            obtain ⟨s3, hs3⟩ : ∃ s3, s3 = s2 ++ [32, 123, 10] := ⟨_, rfl⟩
            rw [← hs3] at ad3 ad4 ad5 ad6 hfin
            obtain ⟨s4, hs4⟩ : ∃ s4, s4 = s3 ++ LB := ⟨_, rfl⟩
            rw [← hs4] at ad4 ad5 ad6 hfin
            obtain ⟨s5, hs5⟩ : ∃ s5, s5 = s4 ++ t := ⟨_, rfl⟩
            rw [← hs5] at ad5 ad6 hfin
            obtain ⟨s6, hs6⟩ : ∃ s6, s6 = s5 ++ [125, 10] := ⟨_, rfl⟩
            rw [← hs6] at ad6 hfin
            have HF := Lib.hid (show upto xs d (k + 1) = s6 by rw [hfin, HUP.out])
            clear hfin hRR hbnd hs0 hs1 hs2 hs3 hs4 hs5 hs6
            go_wp2_with fail
            refine (Z.out.2.1 w1 B _ X.out.2.hB Z.out.1).mono ?_
            rintro e w2 ⟨rfl, hb⟩
            rw [← HE.out.1]
            have X2 := Lib.hid (And.intro (X.out.1.trans (hb.mono X.out.1.size)) (X.out.2.later hb))
            clear hb q0 q1 q2 q3 q4 p0 p1 p2 p3 p4
            obtain ⟨q0, q1, q2, q3, q4, _, _, _, _, _⟩ := row5 X2.out.2.row
            rw [HK.out] at q0
            go_wp2_with fail
            refine (Z.out.2.2.1 w2 B _ (d + 1) _ HT2.out X2.out.2.hB X2.out.2.body Z.out.2.2.2.2.1.1).mono ?_
            rintro e w3 ⟨rfl, hb⟩
            rw [← HE.out.2.1]
            have X3 := Lib.hid (And.intro (X2.out.1.trans (hb.mono X2.out.1.size)) (X2.out.2.later hb))
            clear hb q0 q1 q2 q3 q4
            obtain ⟨q0, q1, q2, q3, q4, _, _, _, _, _⟩ := row5 X3.out.2.row
            rw [HK.out] at q0
            go_wp2_with fail
            go_roundg (xs.items.length - (k + 1))
            case measure => have := Z.out.2.2.2.2.2; omega
            case rel => exact ⟨k + 1, Z.out.2.2.2.2.2, rfl, by rw [HF.out], by go_num, X3.out.1⟩
          · by_cases h11 : x.kind = 11
            · have HK := Lib.hid (show (x.kind : Int) = 11 by omega)
              have hRR : R = t ++ ([114, 101, 116, 117, 114, 110, 32] ++ E ++ [59, 10]) := by rw [hR]; unfold aheadOf; rw [if_neg (by omega), if_neg (by omega), if_neg (by omega), if_pos h11]
              clear hR h11
              have ad0 : ∀ wx, (Op.stringOp .add (bs u) (bs t)).run Tryd.prog wx = .ok (.string (bs (u ++ t))) wx := add_any (u) t (by have hl := congrArg List.length hRR; simp only [List.length_append, List.length_cons, List.length_nil] at hl ⊢; omega)
              have ad1 : ∀ wx, (Op.stringOp .add (bs (u ++ t)) ⟨#[114, 101, 116, 117, 114, 110, 32]⟩).run Tryd.prog wx = .ok (.string (bs (u ++ t ++ [114, 101, 116, 117, 114, 110, 32]))) wx := add_any (u ++ t) [114, 101, 116, 117, 114, 110, 32] (by have hl := congrArg List.length hRR; simp only [List.length_append, List.length_cons, List.length_nil] at hl ⊢; omega)
              have ad2 : ∀ wx, (Op.stringOp .add (bs (u ++ t ++ [114, 101, 116, 117, 114, 110, 32])) (bs E)).run Tryd.prog wx = .ok (.string (bs (u ++ t ++ [114, 101, 116, 117, 114, 110, 32] ++ E))) wx := add_any (u ++ t ++ [114, 101, 116, 117, 114, 110, 32]) E (by have hl := congrArg List.length hRR; simp only [List.length_append, List.length_cons, List.length_nil] at hl ⊢; omega)
              have ad3 : ∀ wx, (Op.stringOp .add (bs (u ++ t ++ [114, 101, 116, 117, 114, 110, 32] ++ E)) ⟨#[59, 10]⟩).run Tryd.prog wx = .ok (.string (bs (u ++ t ++ [114, 101, 116, 117, 114, 110, 32] ++ E ++ [59, 10]))) wx := add_any (u ++ t ++ [114, 101, 116, 117, 114, 110, 32] ++ E) [59, 10] (by have hl := congrArg List.length hRR; simp only [List.length_append, List.length_cons, List.length_nil] at hl ⊢; omega)
              have hfin : u ++ t ++ [114, 101, 116, 117, 114, 110, 32] ++ E ++ [59, 10] = u ++ R := by rw [hRR]; simp only [List.append_assoc]
              obtain ⟨s0, hs0⟩ : ∃ s0, s0 = u ++ t := ⟨_, rfl⟩
              rw [← hs0] at ad0 ad1 ad2 ad3 hfin
              obtain ⟨s1, hs1⟩ : ∃ s1, s1 = s0 ++ [114, 101, 116, 117, 114, 110, 32] := ⟨_, rfl⟩
              rw [← hs1] at ad1 ad2 ad3 hfin
              obtain ⟨s2, hs2⟩ : ∃ s2, s2 = s1 ++ E := ⟨_, rfl⟩
              rw [← hs2] at ad2 ad3 hfin
              obtain ⟨s3, hs3⟩ : ∃ s3, s3 = s2 ++ [59, 10] := ⟨_, rfl⟩
              rw [← hs3] at ad3 hfin
              have HF := Lib.hid (show upto xs d (k + 1) = s3 by rw [hfin, HUP.out])
              clear hfin hRR hbnd hs0 hs1 hs2 hs3
              go_wp2_with fail
              refine (Z.out.2.1 w1 B _ X.out.2.hB Z.out.1).mono ?_
              rintro e w2 ⟨rfl, hb⟩
              rw [← HE.out.1]
              have X2 := Lib.hid (And.intro (X.out.1.trans (hb.mono X.out.1.size)) (X.out.2.later hb))
              clear hb q0 q1 q2 q3 q4 p0 p1 p2 p3 p4
              obtain ⟨q0, q1, q2, q3, q4, _, _, _, _, _⟩ := row5 X2.out.2.row
              rw [HK.out] at q0
              go_wp2_with fail
              go_roundg (xs.items.length - (k + 1))
              case measure => have := Z.out.2.2.2.2.2; omega
              case rel => exact ⟨k + 1, Z.out.2.2.2.2.2, rfl, by rw [HF.out], by go_num, X2.out.1⟩
            · by_cases h12 : x.kind = 12
              · have HK := Lib.hid (show (x.kind : Int) = 12 by omega)
                have hRR : R = t ++ ([116, 101, 108, 108, 32] ++ E ++ [59, 10]) := by rw [hR]; unfold aheadOf; rw [if_neg (by omega), if_neg (by omega), if_neg (by omega), if_neg (by omega), if_pos h12]
                clear hR h12
                have ad0 : ∀ wx, (Op.stringOp .add (bs u) (bs t)).run Tryd.prog wx = .ok (.string (bs (u ++ t))) wx := add_any (u) t (by have hl := congrArg List.length hRR; simp only [List.length_append, List.length_cons, List.length_nil] at hl ⊢; omega)
                have ad1 : ∀ wx, (Op.stringOp .add (bs (u ++ t)) ⟨#[116, 101, 108, 108, 32]⟩).run Tryd.prog wx = .ok (.string (bs (u ++ t ++ [116, 101, 108, 108, 32]))) wx := add_any (u ++ t) [116, 101, 108, 108, 32] (by have hl := congrArg List.length hRR; simp only [List.length_append, List.length_cons, List.length_nil] at hl ⊢; omega)
                have ad2 : ∀ wx, (Op.stringOp .add (bs (u ++ t ++ [116, 101, 108, 108, 32])) (bs E)).run Tryd.prog wx = .ok (.string (bs (u ++ t ++ [116, 101, 108, 108, 32] ++ E))) wx := add_any (u ++ t ++ [116, 101, 108, 108, 32]) E (by have hl := congrArg List.length hRR; simp only [List.length_append, List.length_cons, List.length_nil] at hl ⊢; omega)
                have ad3 : ∀ wx, (Op.stringOp .add (bs (u ++ t ++ [116, 101, 108, 108, 32] ++ E)) ⟨#[59, 10]⟩).run Tryd.prog wx = .ok (.string (bs (u ++ t ++ [116, 101, 108, 108, 32] ++ E ++ [59, 10]))) wx := add_any (u ++ t ++ [116, 101, 108, 108, 32] ++ E) [59, 10] (by have hl := congrArg List.length hRR; simp only [List.length_append, List.length_cons, List.length_nil] at hl ⊢; omega)
                have hfin : u ++ t ++ [116, 101, 108, 108, 32] ++ E ++ [59, 10] = u ++ R := by rw [hRR]; simp only [List.append_assoc]
                obtain ⟨s0, hs0⟩ : ∃ s0, s0 = u ++ t := ⟨_, rfl⟩
                rw [← hs0] at ad0 ad1 ad2 ad3 hfin
                obtain ⟨s1, hs1⟩ : ∃ s1, s1 = s0 ++ [116, 101, 108, 108, 32] := ⟨_, rfl⟩
                rw [← hs1] at ad1 ad2 ad3 hfin
                obtain ⟨s2, hs2⟩ : ∃ s2, s2 = s1 ++ E := ⟨_, rfl⟩
                rw [← hs2] at ad2 ad3 hfin
                obtain ⟨s3, hs3⟩ : ∃ s3, s3 = s2 ++ [59, 10] := ⟨_, rfl⟩
                rw [← hs3] at ad3 hfin
                have HF := Lib.hid (show upto xs d (k + 1) = s3 by rw [hfin, HUP.out])
                clear hfin hRR hbnd hs0 hs1 hs2 hs3
                go_wp2_with fail
                refine (Z.out.2.1 w1 B _ X.out.2.hB Z.out.1).mono ?_
                rintro e w2 ⟨rfl, hb⟩
                rw [← HE.out.1]
                have X2 := Lib.hid (And.intro (X.out.1.trans (hb.mono X.out.1.size)) (X.out.2.later hb))
                clear hb q0 q1 q2 q3 q4 p0 p1 p2 p3 p4
                obtain ⟨q0, q1, q2, q3, q4, _, _, _, _, _⟩ := row5 X2.out.2.row
                rw [HK.out] at q0
                go_wp2_with fail
                go_roundg (xs.items.length - (k + 1))
                case measure => have := Z.out.2.2.2.2.2; omega
                case rel => exact ⟨k + 1, Z.out.2.2.2.2.2, rfl, by rw [HF.out], by go_num, X2.out.1⟩
              · have e8 : ((x.kind : Int) == 8) = false := by rw [beq_eq_false_iff_ne]; omega
                have e9 : ((x.kind : Int) == 9) = false := by rw [beq_eq_false_iff_ne]; omega
                have e10 : ((x.kind : Int) == 10) = false := by rw [beq_eq_false_iff_ne]; omega
                have e11 : ((x.kind : Int) == 11) = false := by rw [beq_eq_false_iff_ne]; omega
                have e12 : ((x.kind : Int) == 12) = false := by rw [beq_eq_false_iff_ne]; omega
                have hRR : R = t ++ (E ++ [59, 10]) := by rw [hR]; unfold aheadOf; rw [if_neg h9, if_neg h10, if_neg h8, if_neg h11, if_neg h12]; rfl
                clear hR h8 h9 h10 h11 h12
                have ad0 : ∀ wx, (Op.stringOp .add (bs u) (bs t)).run Tryd.prog wx = .ok (.string (bs (u ++ t))) wx := add_any (u) t (by have hl := congrArg List.length hRR; simp only [List.length_append, List.length_cons, List.length_nil] at hl ⊢; omega)
                have ad1 : ∀ wx, (Op.stringOp .add (bs (u ++ t)) (bs E)).run Tryd.prog wx = .ok (.string (bs (u ++ t ++ E))) wx := add_any (u ++ t) E (by have hl := congrArg List.length hRR; simp only [List.length_append, List.length_cons, List.length_nil] at hl ⊢; omega)
                have ad2 : ∀ wx, (Op.stringOp .add (bs (u ++ t ++ E)) ⟨#[59, 10]⟩).run Tryd.prog wx = .ok (.string (bs (u ++ t ++ E ++ [59, 10]))) wx := add_any (u ++ t ++ E) [59, 10] (by have hl := congrArg List.length hRR; simp only [List.length_append, List.length_cons, List.length_nil] at hl ⊢; omega)
                have hfin : u ++ t ++ E ++ [59, 10] = u ++ R := by rw [hRR]; simp only [List.append_assoc]
                obtain ⟨s0, hs0⟩ : ∃ s0, s0 = u ++ t := ⟨_, rfl⟩
                rw [← hs0] at ad0 ad1 ad2 hfin
                obtain ⟨s1, hs1⟩ : ∃ s1, s1 = s0 ++ E := ⟨_, rfl⟩
                rw [← hs1] at ad1 ad2 hfin
                obtain ⟨s2, hs2⟩ : ∃ s2, s2 = s1 ++ [59, 10] := ⟨_, rfl⟩
                rw [← hs2] at ad2 hfin
                have HF := Lib.hid (show upto xs d (k + 1) = s2 by rw [hfin, HUP.out])
                clear hfin hRR hbnd hs0 hs1 hs2
                go_wp2_with fail
                refine (Z.out.2.1 w1 B _ X.out.2.hB Z.out.1).mono ?_
                rintro e w2 ⟨rfl, hb⟩
                rw [← HE.out.1]
                have X2 := Lib.hid (And.intro (X.out.1.trans (hb.mono X.out.1.size)) (X.out.2.later hb))
                clear hb q0 q1 q2 q3 q4 p0 p1 p2 p3 p4
                obtain ⟨q0, q1, q2, q3, q4, _, _, _, _, _⟩ := row5 X2.out.2.row
                go_wp2_with fail
                go_roundg (xs.items.length - (k + 1))
                case measure => have := Z.out.2.2.2.2.2; omega
                case rel => exact ⟨k + 1, Z.out.2.2.2.2.2, rfl, by rw [HF.out], by go_num, X2.out.1⟩
    · obtain rfl : k = xs.items.length := by omega
      have HU := Lib.hid (upto_all xs d)
      have K := Lib.hid hS
      clear hlt hk hS
      go_wp2_with fail
      go_ret
      exact ⟨by rw [← HU.out]; rfl, K.out⟩
end Go.Proofs.YtobpnjnfpgcpaaaDoor
