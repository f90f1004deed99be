/- Trees, as the document has them: the reader: a name, a number. -/
import Derived.Test.YtcldcigopkfmmaaGreatDoorRrTkQ
namespace Go.Proofs.YtcldcigopkfmmaaGreatDoor
open Go.RowKit Go.My Go.Nd

/-- What a call that reads a node does. -/
def GotR (w : World) (rb : Nat) (tv : Value) (xs : List To.T) (inn : Bool) (r : R Nd) (e : Ending) (w' : World) : Prop :=
  Step w w' (some rb) ∧ Rr w' rb tv xs r.rest inn r.isBad ∧ ∃ v x, e = .returned v ∧ NR w' TN w.heap.size w'.heap.size v x ∧ r.Is x

theorem RA.finR {w : World} {rb c : Nat} {w1 w2 : World} {tv : Value} {xs : List To.T} {inn : Bool} {r : R Nd} {x : Nd} {cs : Array Value} {S : Nat → Prop} (h : RA w rb c w1) (h1 : Rr w1 rb tv xs r.rest inn r.isBad) (hN : NS w1 TN S (.agg cs) x) (hS : ∀ b, S b → c < b) (hp : Put w1 w2 c cs TN) (hi : r.Is x) :
    GotR w rb tv xs inn r (.returned (.agg cs)) w2 := by
  have hc := h.hc
  refine ⟨h.st.put hp (by omega), h1.put hp h.hrb, _, x, rfl, ?_, hi⟩
  exact (NS.frame hN fun b hb' _ => hp.oth b (by have := hS b hb'; omega)).nr fun b hb' => by have := hS b hb'; omega

/-- A node of nothing. -/
def nd0 : Nd := ⟨0, [], .nil, .nil, .nil⟩
theorem NS.zero (w : World) : NS w TN (fun _ => False) (.agg #[.int .u8 0, .string ⟨#[]⟩, .slice none 0 0, .slice none 0 0, .slice none 0 0]) nd0 :=
  ⟨⟨0, [], .slice none 0 0, .slice none 0 0, .slice none 0 0⟩, [], rfl, ⟨[], [], [], rfl, ⟨⟨rfl, by decide⟩, rfl, by decide⟩, LF.nil _ _, LF.nil _ _, LF.nil _ _⟩, List.nodup_nil, fun b hb => by cases hb⟩
theorem NS.leaf (w : World) (k : Nat) (hk : k < 256) (s : Tx) (hs : s.length ≤ 65536) : NS w TN (fun _ => False) (.agg #[.int .u8 (k : Int), .string (bs s), .slice none 0 0, .slice none 0 0, .slice none 0 0]) (Nd.leaf k s) :=
  ⟨⟨k, s, .slice none 0 0, .slice none 0 0, .slice none 0 0⟩, [], rfl, ⟨[], [], [], rfl, ⟨⟨rfl, hk⟩, rfl, Nat.le_trans hs (by decide)⟩, LF.nil _ _, LF.nil _ _, LF.nil _ _⟩, List.nodup_nil, fun b hb => by cases hb⟩

set_option maxRecDepth 100000 in
set_option maxHeartbeats 4000000 in
theorem nm_yes {w : World} {rb : Nat} {tv : Value} {xs : List To.T} {s : Tx} {r : List Tx} {inn : Bool} (h : Rr w rb tv xs (s :: r) inn false) (hs : To.name s = true) {Q : Ending → World → Prop} (hQ : ∀ w', Step w w' (some rb) → Rr w' rb tv xs r inn false → Q (.returned (.string (bs s))) w') :
    Calls Tryz.prog 106 #[.pointer (some ⟨rb, 0, none⟩)] w Q := by
  have H := Lib.hid (And.intro hQ hs)
  have HR := Lib.hid h
  clear hQ h hs
  go_enter Tryz.func106, Tryz.ntmps106
  go_wp2_with fail
  refine atName_t HR.out fun w1 hb1 => ?_
  rw [show nameAt false (s :: r) = true from H.out.2]
  have h1 := HR.out.later hb1
  have HB1 := Lib.hid hb1
  clear hb1
  have hm := h1.one_more
  have hl := h1.len
  have hle := h1.le
  have hp := h1.put1
  obtain ⟨c0, c1, c2, c3, f1, _, _⟩ := h1.cell
  obtain ⟨b, off, cap, kd, c, rfl, hne, d0, d1, d2, _, _, _⟩ := h1.token 0 (by simp)
  obtain ⟨q, hq⟩ : ∃ q, q = xs.length - (s :: r).length := ⟨_, rfl⟩
  have HR1 := Lib.hid (And.intro h1 (And.intro hp hm))
  rw [List.length_cons] at hle
  obtain ⟨q', hq'⟩ : ∃ q', q' = xs.length - r.length := ⟨_, rfl⟩
  rw [← hq, ← hq'] at hm
  rw [← hq] at d0 d1 d2
  simp only [Nat.add_zero] at d0 d1 d2
  rw [← hq] at c1
  have HM := Lib.hid (And.intro hm hq')
  have q0 : (0 : Int) ≤ (q : Int) := by omega
  have q1 : (q : Int) < (xs.length : Int) := by rw [List.length_cons] at hq; omega
  have q2 : (xs.length : Int) ≤ 65536 := by omega
  simp only [List.getElem_cons_zero] at d1
  have e0 : ∀ o, (w1.setCell ⟨rb, 1, none⟩ (.int .i64 ((xs.length - r.length : Nat) : Int))).cell? ⟨b, o, none⟩ = w1.cell? ⟨b, o, none⟩ := fun o => World.cell?_of_block (hp.oth b hne)
  obtain ⟨wz, hwz⟩ : ∃ wz, wz = w1.setCell ⟨rb, 1, none⟩ (.int .i64 ((xs.length - r.length : Nat) : Int)) := ⟨_, rfl⟩
  rw [← hwz] at hp e0
  rw [← hq'] at hwz hp
  rw [← e0] at d0 d1 d2
  have k0 := (hp.cells 0).1
  have k1 := (hp.cells 1).1
  simp at k0 k1
  have HZ := Lib.hid (And.intro hp hwz)
  clear h1 hp hq hm hq' hl hle e0 hwz
  go_upto_region 5 with fail
  rw [HM.out.1, ← HZ.out.2]
  have w1' : IntKind.i64.wrap ((q' : Int) - 1) = (q : Int) := by have := HM.out.1; rw [IntWalk.i64_in _ (by omega)]; omega
  clear c0 c1 c2
  go_quiet (fail)
  go_wp2_with fail
  have hp := HZ.out.1
  rw [HM.out.2] at hp
  exact H.out.1 _ ((Step.of_below HB1.out).trans (hp.step.trans (Step.of_below (below_drewN' _ _)))) ((HR1.out.1.next hp).later (below_drewN' _ _))

set_option maxRecDepth 100000 in
set_option maxHeartbeats 4000000 in
theorem nm_no {w : World} {rb : Nat} {tv : Value} {xs : List To.T} {ts : List Tx} {inn bad : Bool} (h : Rr w rb tv xs ts inn bad) (hs : nameAt bad ts = false) {Q : Ending → World → Prop} (hQ : ∀ w', Step w w' (some rb) → Rr w' rb tv xs ts inn true → Q (.returned (.string ⟨#[]⟩)) w') :
    Calls Tryz.prog 106 #[.pointer (some ⟨rb, 0, none⟩)] w Q := by
  have H := Lib.hid (And.intro hQ hs)
  have HR := Lib.hid h
  clear hQ h hs
  go_enter Tryz.func106, Tryz.ntmps106
  go_wp2_with fail
  refine atName_t HR.out fun w1 hb1 => ?_
  rw [H.out.2]
  have X1 := Lib.hid (And.intro hb1 (HR.out.later hb1))
  clear hb1
  obtain ⟨_, _, _, c3, _, _, f3⟩ := X1.out.2.cell
  go_wp2_with fail
  exact H.out.1 _ ((Step.of_below X1.out.1).trans X1.out.2.setBad.1) X1.out.2.setBad.2

theorem plain_nil : Nd.plain [] = false := by decide

theorem GotR.drew {w w' : World} {rb : Nat} {tv : Value} {xs : List To.T} {inn : Bool} {r : R Nd} {e : Ending} (h : GotR w rb tv xs inn r e w') : GotR w rb tv xs inn r e w'.drew := by
  obtain ⟨h1, h2, v, x, h3, h4, h5⟩ := h
  exact ⟨h1.trans (Step.of_below (Below.refl _ w').drew), h2.later (Below.refl _ w').drew, v, x, h3, h4.later (Below.refl _ w').drew (Nat.le_refl _), h5⟩

set_option maxRecDepth 100000 in
set_option maxHeartbeats 4000000 in
theorem rnumber_t {w : World} {rb : Nat} {tv : Value} {xs : List To.T} {ts : List Tx} {inn bad : Bool} (h : Rr w rb tv xs ts inn bad) :
    Calls Tryz.prog 175 #[.pointer (some ⟨rb, 0, none⟩)] w (GotR w rb tv xs inn (gate bad ts (number ts))) := by
  have R0 := RA.start h.lt
  have h0 := h.later (Put.new w #[.int .u8 0, .string ⟨#[]⟩, .slice none 0 0, .slice none 0 0, .slice none 0 0] TN).1
  obtain ⟨c, hc⟩ : ∃ c, c = w.heap.size := ⟨_, rfl⟩
  obtain ⟨wA, hwA⟩ : ∃ wA, wA = w.alloc (.cells #[.int .u8 0, .string ⟨#[]⟩, .slice none 0 0, .slice none 0 0, .slice none 0 0] TN) := ⟨_, rfl⟩
  rw [← hwA] at R0 h0
  rw [← hc] at R0
  have X0 := Lib.hid (And.intro R0 h0)
  have hle := h0.le
  have hlen := h0.len
  obtain ⟨c0, c1, _, c3, f1, _, f3⟩ := h0.cell
  obtain ⟨p, hp⟩ : ∃ p, p = xs.length - ts.length := ⟨_, rfl⟩
  have p0 : (0 : Int) ≤ (p : Int) := by omega
  rw [← hp] at c1
  clear h R0
  by_cases hgo : bad = false ∧ Nd.plain (ts.getD 0 []) = true
  · obtain ⟨rfl, hpl⟩ := hgo
    cases ts with
    | nil => exact absurd hpl (by decide)
    | cons u r =>
      have hm := h0.one_more
      have hput := h0.put1
      obtain ⟨b, off, cap, kd, cc, rfl, hne, d0, d1, d2, hu, _, k2⟩ := h0.token 0 (by simp)
      obtain rfl : kd = 2 := k2 hpl
      rw [← hp] at d0 d1 d2
      simp only [Nat.add_zero] at d0 d1 d2
      simp only [List.getElem_cons_zero] at d1 hu
      have hi : (p : Int) < (xs.length : Int) := by rw [List.length_cons] at hle hp; omega
      have hi2 : (xs.length : Int) ≤ 65536 := by omega
      have hd : decide ((xs.length : Int) ≤ (p : Int)) = false := by simpa using hi
      have hd2 : decide (xs.length ≤ p) = false := by simpa using hi
      have hpl' : Nd.plain u = true := hpl
      have hul : u.length ≤ 9223372036854775807 := by omega
      obtain ⟨q', hq'⟩ : ∃ q', q' = xs.length - r.length := ⟨_, rfl⟩
      rw [← hp, ← hq'] at hm
      have e0 : ∀ o, (wA.setCell ⟨rb, 1, none⟩ (.int .i64 ((xs.length - r.length : Nat) : Int))).cell? ⟨b, o, none⟩ = wA.cell? ⟨b, o, none⟩ := fun o => World.cell?_of_block (hput.oth b hne)
      have HNX := Lib.hid (And.intro hpl' (And.intro hul (And.intro hu (And.intro hq' (And.intro hne d1)))))
      have HM := Lib.hid hm
      clear h0 hle hlen hp hpl hpl' hul hu hm hput hq' e0
      go_enter Tryz.func175, Tryz.ntmps175
      go_upto_region 1 with fail
      rw [← hwA, ← hc]
      clear hwA hc
      go_quiet ((refine rplain_t u HNX.out.2.1 ?_; rw [HNX.out.1]; exact ⟨rfl, _, rfl⟩))
      go_upto_region 5 with fail
      rw [HM.out]
      have h1 := X0.out.2.later (below_drewN' wA nq)
      have R1 := X0.out.1.below (below_drewN' wA nq)
      have hput := h1.put1
      rw [← HNX.out.2.2.2.1] at hput
      obtain ⟨w2, hw2⟩ : ∃ w2, w2 = (wA.drewN nq).setCell ⟨rb, 1, none⟩ (.int .i64 (q' : Int)) := ⟨_, rfl⟩
      rw [← hw2] at hput ⊢
      have z1 : w2.cell? ⟨b, off + p * 3 + 1, none⟩ = some (.string (bs u)) := (World.cell?_of_block (hput.oth b HNX.out.2.2.2.2.1)).trans ((World.cell?_of_block ((below_drewN' wA nq).block b (by
        obtain ⟨ao, cp, e, _, _, k⟩ := X0.out.2.toks
        obtain ⟨b', off', e', _, hlt', _⟩ := k (by omega)
        cases e; cases e'; exact hlt'))).trans HNX.out.2.2.2.2.2)
      have k0 := (hput.cells 0).1
      have k1 := (hput.cells 1).1
      simp at k0 k1
      have hn2 := h1.next (by rw [HNX.out.2.2.2.1] at hput; exact hput)
      have R2 := R1.step hput.step
      obtain ⟨y0, y1, y2, y3, y4, g0, g1, g2, g3, g4⟩ := row5 R2.row
      have X2 := Lib.hid (And.intro R2 hn2)
      have w1' : IntKind.i64.wrap ((q' : Int) - 1) = (p : Int) := by have := HM.out; rw [IntWalk.i64_in _ (by omega)]; omega
      clear hput hn2 R1 R2 h1 hw2 c0 c1 c3 f1 f3 d0 d1 d2 hd hd2
      go_region
      go_wp2_with fail
      have hp := put5 X2.out.1.row (.int .u8 1) (.string (bs u)) (.slice none 0 0) (.slice none 0 0) (.slice none 0 0)
      refine bodyPost_ret (results_cell1 rfl _ _ _ rfl (nodeVar _ c _ _ _ _ _ (show _ = _ from hp.row))) rfl ?_
      rw [show gate false (u :: r) (number (u :: r)) = .ok (Nd.leaf 1 u) r by rw [gate_ok]; unfold number; simp only; rw [if_pos HNX.out.1]]
      exact GotR.drew (X2.out.1.finR (r := .ok (Nd.leaf 1 u) r) X2.out.2 (NS.leaf _ 1 (by decide) u HNX.out.2.2.1) (fun _ h => h.elim) hp (R.Is.ok _ _))
  · have hg : gate bad ts (number ts) = .bad ts := by
      cases bad with
      | true => rfl
      | false =>
        cases ts with
        | nil => rfl
        | cons u r => rw [gate_ok]; unfold number; simp only; rw [if_neg (show ¬ Nd.plain u = true from fun h => hgo ⟨rfl, h⟩)]
    rw [hg]
    cases bad with
    | true =>
      obtain ⟨ao, cap, rfl, _, _, _⟩ := h0.toks
      clear h0 hle hlen hp hgo hg
      go_enter Tryz.func175, Tryz.ntmps175
      go_upto_region 1 with fail
      rw [← hwA, ← hc]
      clear hwA hc
      go_quiet (fail)
      have h1 := X0.out.2.later (below_drewN' wA nq)
      have R1 := X0.out.1.below (below_drewN' wA nq)
      have h2 := h1.setBad
      have R2 := R1.step h2.1
      obtain ⟨_, _, _, e3, _, _, g3⟩ := h1.cell
      go_upto_region 3 with fail
      obtain ⟨wB, hwB⟩ : ∃ wB, wB = (wA.drewN nq).setCell ⟨rb, 3, none⟩ (.bool true) := ⟨_, rfl⟩
      rw [← hwB] at h2 R2 ⊢
      obtain ⟨y0, y1, y2, y3, y4, _, _, _, _, _⟩ := row5 R2.row
      have X2 := Lib.hid (And.intro R2 h2.2)
      clear h2 R2 h1 R1 hwB e3 g3
      go_wp2_with fail
      have hp := put5 X2.out.1.row (.int .u8 0) (.string ⟨#[]⟩) (.slice none 0 0) (.slice none 0 0) (.slice none 0 0)
      refine bodyPost_ret (results_cell1 rfl _ _ _ rfl (nodeVar _ c _ _ _ _ _ hp.row)) rfl ?_
      exact X2.out.1.finR (r := .bad _) X2.out.2 (NS.zero _) (fun _ h => h.elim) hp (R.Is.bad _ _)
    | false =>
      cases ts with
      | nil =>
        obtain ⟨ao, cap, rfl, _, _, _⟩ := h0.toks
        have hi : (xs.length : Int) ≤ (p : Int) := by simp at hp; omega
        have hd : decide ((xs.length : Int) ≤ (p : Int)) = true := by simpa using hi
        have hd2 : decide (xs.length ≤ p) = true := by simpa using hi
        clear h0 hle hlen hp hgo hg
        go_enter Tryz.func175, Tryz.ntmps175
        go_upto_region 1 with fail
        rw [← hwA, ← hc]
        clear hwA hc
        go_quiet (fail)
        have h1 := X0.out.2.later (below_drewN' wA nq)
        have R1 := X0.out.1.below (below_drewN' wA nq)
        have h2 := h1.setBad
        have R2 := R1.step h2.1
        obtain ⟨_, _, _, e3, _, _, g3⟩ := h1.cell
        go_upto_region 3 with fail
        obtain ⟨wB, hwB⟩ : ∃ wB, wB = (wA.drewN nq).setCell ⟨rb, 3, none⟩ (.bool true) := ⟨_, rfl⟩
        rw [← hwB] at h2 R2 ⊢
        obtain ⟨y0, y1, y2, y3, y4, _, _, _, _, _⟩ := row5 R2.row
        have X2 := Lib.hid (And.intro R2 h2.2)
        clear h2 R2 h1 R1 hwB e3 g3
        go_wp2_with fail
        have hp := put5 X2.out.1.row (.int .u8 0) (.string ⟨#[]⟩) (.slice none 0 0) (.slice none 0 0) (.slice none 0 0)
        refine bodyPost_ret (results_cell1 rfl _ _ _ rfl (nodeVar _ c _ _ _ _ _ hp.row)) rfl ?_
        exact X2.out.1.finR (r := .bad _) X2.out.2 (NS.zero _) (fun _ h => h.elim) hp (R.Is.bad _ _)
      | cons u r =>
        obtain ⟨b, off, cap, kd, cc, rfl, hne, d0, d1, d2, hu, _, k2⟩ := h0.token 0 (by simp)
        rw [← hp] at d0 d1 d2
        simp only [Nat.add_zero] at d0 d1 d2
        simp only [List.getElem_cons_zero] at d1 hu
        have hi : (p : Int) < (xs.length : Int) := by rw [List.length_cons] at hle hp; omega
        have hd : decide ((xs.length : Int) ≤ (p : Int)) = false := by simpa using hi
        have hd2 : decide (xs.length ≤ p) = false := by simpa using hi
        have hpl' : Nd.plain u = false := by
          cases hh : Nd.plain u with
          | true => exact absurd ⟨rfl, hh⟩ hgo
          | false => rfl
        have hul : u.length ≤ 9223372036854775807 := by omega
        have HNX := Lib.hid (And.intro hpl' hul)
        clear k2 h0 hle hlen hp hgo hg hpl' hul hu
        by_cases hk : kd = 2
        · subst hk
          go_enter Tryz.func175, Tryz.ntmps175
          go_upto_region 1 with fail
          rw [← hwA, ← hc]
          clear hwA hc
          go_quiet ((refine rplain_t u HNX.out.2 ?_; rw [HNX.out.1]; exact ⟨rfl, _, rfl⟩))
          have h1 := X0.out.2.later (below_drewN' wA nq)
          have R1 := X0.out.1.below (below_drewN' wA nq)
          have h2 := h1.setBad
          have R2 := R1.step h2.1
          obtain ⟨_, _, _, e3, _, _, g3⟩ := h1.cell
          go_upto_region 3 with fail
          obtain ⟨wB, hwB⟩ : ∃ wB, wB = (wA.drewN nq).setCell ⟨rb, 3, none⟩ (.bool true) := ⟨_, rfl⟩
          rw [← hwB] at h2 R2 ⊢
          obtain ⟨y0, y1, y2, y3, y4, _, _, _, _, _⟩ := row5 R2.row
          have X2 := Lib.hid (And.intro R2 h2.2)
          clear h2 R2 h1 R1 hwB e3 g3
          go_wp2_with fail
          have hp := put5 X2.out.1.row (.int .u8 0) (.string ⟨#[]⟩) (.slice none 0 0) (.slice none 0 0) (.slice none 0 0)
          refine bodyPost_ret (results_cell1 rfl _ _ _ rfl (nodeVar _ c _ _ _ _ _ hp.row)) rfl ?_
          exact X2.out.1.finR (r := .bad _) X2.out.2 (NS.zero _) (fun _ h => h.elim) hp (R.Is.bad _ _)
        · have hdk : decide ((kd : Int) = 2) = false := by simp; omega
          have hdk' : ((kd : Int) == 2) = false := by simp; omega
          have hdk2 : ((kd : Int) != 2) = true := by simp; omega
          have hdk3 : decide (kd = 2) = false := by simpa using hk
          clear hk
          go_enter Tryz.func175, Tryz.ntmps175
          go_upto_region 1 with fail
          rw [← hwA, ← hc]
          clear hwA hc
          go_quiet (fail)
          have h1 := X0.out.2.later (below_drewN' wA nq)
          have R1 := X0.out.1.below (below_drewN' wA nq)
          have h2 := h1.setBad
          have R2 := R1.step h2.1
          obtain ⟨_, _, _, e3, _, _, g3⟩ := h1.cell
          go_upto_region 3 with fail
          obtain ⟨wB, hwB⟩ : ∃ wB, wB = (wA.drewN nq).setCell ⟨rb, 3, none⟩ (.bool true) := ⟨_, rfl⟩
          rw [← hwB] at h2 R2 ⊢
          obtain ⟨y0, y1, y2, y3, y4, _, _, _, _, _⟩ := row5 R2.row
          have X2 := Lib.hid (And.intro R2 h2.2)
          clear h2 R2 h1 R1 hwB e3 g3
          go_wp2_with fail
          have hp := put5 X2.out.1.row (.int .u8 0) (.string ⟨#[]⟩) (.slice none 0 0) (.slice none 0 0) (.slice none 0 0)
          refine bodyPost_ret (results_cell1 rfl _ _ _ rfl (nodeVar _ c _ _ _ _ _ hp.row)) rfl ?_
          exact X2.out.1.finR (r := .bad _) X2.out.2 (NS.zero _) (fun _ h => h.elim) hp (R.Is.bad _ _)
end Go.Proofs.YtcldcigopkfmmaaGreatDoor
