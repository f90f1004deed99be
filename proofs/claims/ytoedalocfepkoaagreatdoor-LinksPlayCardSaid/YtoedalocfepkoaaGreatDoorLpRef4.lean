/- Links: the document's end: Came, of what is a packet. -/
import Derived.Test.YtoedalocfepkoaaGreatDoorLpRef3
import Derived.IntWalk
namespace Go.Proofs.YtoedalocfepkoaaGreatDoor
open Go.RowKit Go.My


set_option maxRecDepth 100000 in
set_option maxHeartbeats 4000000 in
theorem rcame_ack {w : World} {g : Tags} {mb : Nat} {s : Li.St} {q : Nat} (hR : RefIs w g mb s q) {tv : Nat} {v : Value} {b : List UInt8} (hv : Bytes w g tv v b) (hb5 : b.length = 5) (hb0 : b[0]?.getD 0 = 65) :
    Calls Tryz.prog 15 #[.pointer (some ⟨mb, 0, none⟩), v] w (RCameSaid w g mb (Li.came s b) (q + 1)) := by
  have hall : Li.came s b = ([], 0, Li.known s (Li.num b)) := by unfold Li.came; rw [if_neg (by omega), if_neg (by rw [hb0]; decide), if_pos ⟨hb0, hb5⟩]
  have hnl := Li.num_lt b
  have HA := Lib.hid hall
  have HR := Lib.hid hR
  have hlen5 : (b.length : Int) = 5 := by omega
  clear hall
  have hcap2 : (b.length : Int) ≤ 65541 := by omega
  have h1 : (5 : Int) ≤ (b.length : Int) := by omega
  obtain ⟨ao, cap, rfl, hcap, hm, _⟩ := BytesIn.open_ hv
  obtain ⟨bb, off, rfl, _, hc⟩ := BytesIn.cells (h := hv) (by omega)
  have cell : ∀ i, i < 5 → ∃ x : UInt8, b[i]?.getD 0 = x ∧ w.cell? ⟨bb, off + i, none⟩ = some (.int .u8 (x.toNat : Int)) := by
    intro i hi
    exact ⟨b[i]'(by omega), by rw [List.getElem?_eq_getElem (by omega)]; rfl, hc i (by omega)⟩
  obtain ⟨x0, y0, z0⟩ := cell 0 (by decide)
  obtain ⟨x1, y1, z1⟩ := cell 1 (by decide)
  obtain ⟨x2, y2, z2⟩ := cell 2 (by decide)
  obtain ⟨x3, y3, z3⟩ := cell 3 (by decide)
  obtain ⟨x4, y4, z4⟩ := cell 4 (by decide)
  rw [Nat.add_zero] at z0
  have hnum : (Li.num b : Int) = (x1.toNat : Int) * 16777216 + (x2.toNat : Int) * 65536 + (x3.toNat : Int) * 256 + (x4.toNat : Int) := by
    unfold Li.num; rw [y1, y2, y3, y4]; omega
  have b0 := x0.toNat_lt
  have b1 := x1.toNat_lt
  have b2 := x2.toNat_lt
  have b3 := x3.toNat_lt
  have b4 := x4.toNat_lt
  obtain ⟨q1, hq1⟩ : ∃ q : Int, q = (x1.toNat : Int) := ⟨_, rfl⟩
  obtain ⟨q2, hq2⟩ : ∃ q : Int, q = (x2.toNat : Int) := ⟨_, rfl⟩
  obtain ⟨q3, hq3⟩ : ∃ q : Int, q = (x3.toNat : Int) := ⟨_, rfl⟩
  obtain ⟨q4, hq4⟩ : ∃ q : Int, q = (x4.toNat : Int) := ⟨_, rfl⟩
  rw [← hq1] at z1 hnum
  rw [← hq2] at z2 hnum
  rw [← hq3] at z3 hnum
  rw [← hq4] at z4 hnum
  have u1 : 0 ≤ q1 ∧ q1 < 256 := by omega
  have u2 : 0 ≤ q2 ∧ q2 < 256 := by omega
  have u3 : 0 ≤ q3 ∧ q3 < 256 := by omega
  have u4 : 0 ≤ q4 ∧ q4 < 256 := by omega
  clear y1 y2 y3 y4 hq1 hq2 hq3 hq4 b1 b2 b3 b4 cell
  have k1 : IntKind.u32.wrap q1 = q1 := IntWalk.u32_in _ (by omega)
  have k2 : IntKind.u32.wrap q2 = q2 := IntWalk.u32_in _ (by omega)
  have k3 : IntKind.u32.wrap q3 = q3 := IntWalk.u32_in _ (by omega)
  have k4 : IntKind.u32.wrap q4 = q4 := IntWalk.u32_in _ (by omega)
  have m1 : IntKind.u32.wrap (q1 * 16777216) = q1 * 16777216 := IntWalk.u32_in _ (by omega)
  have m2 : IntKind.u32.wrap (q2 * 65536) = q2 * 65536 := IntWalk.u32_in _ (by omega)
  have m3 : IntKind.u32.wrap (q3 * 256) = q3 * 256 := IntWalk.u32_in _ (by omega)
  have s2 : IntKind.u32.wrap (q1 * 16777216 + q2 * 65536) = q1 * 16777216 + q2 * 65536 := IntWalk.u32_in _ (by omega)
  have s3 : IntKind.u32.wrap (q1 * 16777216 + q2 * 65536 + q3 * 256) = q1 * 16777216 + q2 * 65536 + q3 * 256 := IntWalk.u32_in _ (by omega)
  have s4 : IntKind.u32.wrap (q1 * 16777216 + q2 * 65536 + q3 * 256 + q4) = q1 * 16777216 + q2 * 65536 + q3 * 256 + q4 := IntWalk.u32_in _ (by omega)
  have hsub : IntKind.i64.wrap ((b.length : Int) - 5) = (b.length : Int) - 5 := IntWalk.i64_in _ (by omega)
  have HN := Lib.hid hnum
  clear hnum hc
  obtain rfl : x0 = 65 := y0.symm.trans hb0
  have z0' : w.cell? ⟨bb, off, none⟩ = some (.int .u8 65) := z0
  clear z0 y0 hb0 hv b0
  obtain ⟨wv, ev, te, ks, hR⟩ := hR
  obtain ⟨p0, p1, _, _, _, pf⟩ := hR.cell
  have pf0 := pf 0
  have pf1 := pf 1
  obtain ⟨wa, wc, rfl⟩ := hR.waits.form
  have hw := far_wrap (Li.num b) s.first hnl hR.win.2.1
  have hfew : (s.waits.length : Int) ≤ 16 := by have := hR.few; omega
  obtain ⟨d, hd⟩ : ∃ d, d = Li.far (Li.num b) s.first := ⟨_, rfl⟩
  have hd1 : d < 4294967296 := by rw [hd]; exact Nat.mod_lt _ (by decide)
  rw [← hd] at hw
  rw [HN.out] at hw
  have HD := Lib.hid hd
  have HR2 := Lib.hid hR
  have d0 : (0 : Int) ≤ (d : Int) := by omega
  have d1 : (d : Int) ≤ 4294967295 := by omega
  have kd : IntKind.i64.wrap (d : Int) = (d : Int) := IntWalk.i64_in _ (by omega)
  clear hR hd pf
  by_cases hf : d ≤ s.waits.length
  · have hf1 : (d : Int) ≤ (s.waits.length : Int) := by omega
    obtain ⟨ad, hsl, hs1, hs2⟩ := slice_lk (P := Tryz.prog) Tryz.underlying48 (by kernel_rfl) .u32 wa s.waits.length wc d (d : Int) rfl hf
    have HK := Lib.hid (rknown_at HR2.out hnl (HD.out ▸ hf) (v := .slice ad (s.waits.length - d) (wc - d)) (HD.out ▸ HR2.out.waits.drop d hf hs1 hs2))
    rw [HN.out] at HK
    clear hs1 hs2 hf
    go_enter Tryz.func15, Tryz.ntmps15
    go_upto_region 3 with fail
    go_region
    all_goals
      go_wp2_with fail
      go_ret2
      rw [HA.out]
      exact ⟨none, 0, g, rfl, Lists.nil _ _ _ _, (HK.out.2.turn (Turn.drew _ g) (by simp)).mono (Nat.le_succ q), HK.out.1.trans (Turn.drew _ g) (V := [740, 742, 745, 747]) (by simp) (by simp)⟩
  · have hf1 : (s.waits.length : Int) < (d : Int) := by omega
    have HK := Lib.hid (show Li.known s (Li.num b) = s by unfold Li.known; rw [← HD.out, if_neg hf])
    clear hf
    go_enter Tryz.func15, Tryz.ntmps15
    go_upto_region 3 with fail
    go_region
    all_goals
      go_wp2_with fail
      go_ret2
      rw [HA.out, HK.out]
      exact ⟨none, 0, g, rfl, Lists.nil _ _ _ _, (RefIs.turn ⟨_, _, _, _, HR2.out⟩ (Turn.drew w g) (by simp)).mono (Nat.le_succ q), (Turn.drew w g).mono (by simp)⟩

theorem step_kept {w : World} {ops : Array Oper} {o : Oper} {a : Act} {K : Act → World → Prop} {Q : Exit → Act → World → Prop} {X : Prop} (hgd : o.guard = none) (s x : Operand)
    (ho : o.op = .call { callee := .builtin .append, args := #[s, x], argTypes := #[62, 62] }) {g : Tags} {te n : Nat} {u v : Value} {ks : List Kp} (hs : a.eval s = v) {k : Nat} (hown : Owns (w.alloc (.cells #[.int .u32 (n : Int), u] 74)) g te 74 2 v ks.length (kcells ks))
    (hy : a.eval x = .slice (some ⟨k, 0, none⟩) 1 1) (hk : k = w.heap.size) (hu : u.oneCell' = true) (hm : ks.length + 1 ≤ 1000000000)
    (h : ∀ ao cap w' g', Owns w' g' te 74 2 (.slice ao (ks.length + 1) cap) (ks.length + 1) (kcells ks ++ [.int .u32 (n : Int), u]) → Turn (w.alloc (.cells #[.int .u32 (n : Int), u] 74)) g w' g' [te] → K (a.put o.dst (.slice ao (ks.length + 1) cap)) w') :
    if Region.wanted o (yielded ops a.tmps) = true then Oper.wp Tryz.prog o a (w.alloc (.cells #[.int .u32 (n : Int), u] 74)) K Q else X := by
  have hsrc : Go.My.Src (w.alloc (.cells #[.int .u32 (n : Int), u] 74)) 2 (.slice (some ⟨k, 0, none⟩) 1 1) 1 [.int .u32 (n : Int), u] := Src.lit #[.int .u32 (n : Int), u] 74 hk rfl
  exact step_append_t hgd s x ho keptElem hs hown hy hsrc (fun x hx => by simp at hx; rcases hx with h | h <;> rw [h] <;> first | rfl | exact hu) (by unfold maxLen; omega) (by omega) h

theorem kept_src {w : World} {g : Tags} {te b off n cap : Nat} {ks : List Kp} (h : Owns w g te 74 2 (.slice (some ⟨b, off, none⟩) n cap) n (kcells ks)) (hn : n = ks.length) (k : Nat) (hk : k ≤ n) :
    Go.My.Src w 2 (.slice (some ⟨b, off, none⟩) k cap) k (kcells (ks.take k)) ∧ ∀ ad : Addr, (k < cap → ad = ⟨b, off + k * 2, none⟩) → Go.My.Src w 2 (.slice (some ad) (n - k) (cap - k)) (n - k) (kcells (ks.drop k)) := by
  subst hn
  have cell : ∀ j u, (kcells ks)[j]? = some u → w.cell? ⟨b, off + j, none⟩ = some u := by
    intro j u hj
    have hlt := (List.getElem?_eq_some_iff.1 hj).1
    rw [kcells_length] at hlt
    obtain ⟨_, _, _, hv, _, _, _, _, hc⟩ := h.cell (by omega)
    cases hv
    exact (hc j hlt).1.trans hj
  refine ⟨⟨by rw [kcells_length, List.length_take]; congr 1; omega, .inr ⟨_, _, rfl, fun j u hj => ?_⟩⟩, fun ad had => ⟨by rw [kcells_length, List.length_drop], .inr ⟨_, _, rfl, fun j u hj => ?_⟩⟩⟩
  · rw [add_none]
    rw [← kcells_take] at hj
    have hlt := (List.getElem?_eq_some_iff.1 hj).1
    rw [List.length_take] at hlt
    rw [List.getElem?_take, if_pos (by omega)] at hj
    exact cell j u hj
  · have hlt := (List.getElem?_eq_some_iff.1 hj).1
    rw [kcells_length, List.length_drop] at hlt
    obtain ⟨_, _, _, hv, _, hcap, _, _, _⟩ := h.cell (by omega)
    cases hv
    rw [had (by omega), add_none]
    rw [← kcells_drop, List.getElem?_drop] at hj
    rw [show off + k * 2 + j = off + (k * 2 + j) by omega]
    exact cell _ u hj

theorem kcells_one (ks : List Kp) (h : ∀ k ∈ ks, k.2.2.oneCell' = true) : ∀ u ∈ kcells ks, u.oneCell' = true := by
  intro u hu
  obtain ⟨k, hk, hu⟩ := List.mem_flatMap.1 hu
  simp at hu
  rcases hu with hu | hu
  · rw [hu]; rfl
  · rw [hu]; exact h k hk
theorem owns_one {w : World} {g : Tags} {t : Nat} {e : TypeId} {size : Nat} {v : Value} {n : Nat} {xs : List Value} (h : Owns w g t e size v n xs) : v.oneCell' = true := by
  obtain ⟨a, c, rfl⟩ := h.form; rfl

theorem RefAt.mono {w : World} {g : Tags} {mb : Nat} {s : Li.St} {q q' : Nat} {wv ev : Value} {te : Nat} {ks : List Kp} (h : RefAt w g mb s q wv ev te ks) (hq : q ≤ q') : RefAt w g mb s q' wv ev te ks :=
  ⟨h.box, h.waits, h.tag, h.early, h.bytes, h.rel, h.win, h.few, h.small, Nat.le_trans h.count hq⟩
theorem rdrain_start {w w1 : World} {g g1 : Tags} {mb : Nat} {s : Li.St} {q : Nat} {wv ev : Value} {te : Nat} {ks : List Kp} (hR : RefAt w1 g1 mb s q wv ev te ks) (hT : Turn w g w1 g1 [740, 742, 745]) : RDrainAt w g mb s q 16 (.slice none 0 0) w1 :=
  ⟨s, [], wv, ev, te, ks, g1, none, 0, hR.win, rfl, rfl, Lists.nil _ _ _ _, hR, hT.mono (by simp), by simp⟩

theorem came_data {s : Li.St} {b : List UInt8} (h1 : 5 ≤ b.length) (h2 : b.length ≤ 65541) (h0 : b[0]?.getD 0 = 68) : Li.came s b = ((Li.drain 16 (Li.laid s (Li.num b) (b.drop 5))).1, 0, (Li.drain 16 (Li.laid s (Li.num b) (b.drop 5))).2) := by
  unfold Li.came; rw [if_neg (by omega), if_pos h0]; rfl

set_option maxRecDepth 100000 in
set_option maxHeartbeats 8000000 in
theorem rcame_data {w : World} {g : Tags} {mb : Nat} {s : Li.St} {q : Nat} (hR : RefIs w g mb s q) (hq : q < 1000000) {tv : Nat} {v : Value} {b : List UInt8} (hv : Bytes w g tv v b) (htv : tv < 740 ∨ 747 < tv) (hb1 : 5 ≤ b.length) (hb2 : b.length ≤ 65541) (hb0 : b[0]?.getD 0 = 68) :
    Calls Tryz.prog 15 #[.pointer (some ⟨mb, 0, none⟩), v] w (RCameSaid w g mb (Li.came s b) (q + 1)) := by
  have HA := Lib.hid (came_data (s := s) hb1 hb2 hb0)
  have hnl := Li.num_lt b
  have HR := Lib.hid hR
  have hcap2 : (b.length : Int) ≤ 65541 := by omega
  have h1 : (5 : Int) ≤ (b.length : Int) := by omega
  obtain ⟨ao, cap, rfl, hcap, hm, _⟩ := BytesIn.open_ hv
  obtain ⟨bb, off, rfl, _, hc⟩ := BytesIn.cells (h := hv) (by omega)
  have cell : ∀ i, i < 5 → ∃ x : UInt8, b[i]?.getD 0 = x ∧ w.cell? ⟨bb, off + i, none⟩ = some (.int .u8 (x.toNat : Int)) := by
    intro i hi
    exact ⟨b[i]'(by omega), by rw [List.getElem?_eq_getElem (by omega)]; rfl, hc i (by omega)⟩
  obtain ⟨x0, y0, z0⟩ := cell 0 (by decide)
  obtain ⟨x1, y1, z1⟩ := cell 1 (by decide)
  obtain ⟨x2, y2, z2⟩ := cell 2 (by decide)
  obtain ⟨x3, y3, z3⟩ := cell 3 (by decide)
  obtain ⟨x4, y4, z4⟩ := cell 4 (by decide)
  rw [Nat.add_zero] at z0
  have hnum : (Li.num b : Int) = (x1.toNat : Int) * 16777216 + (x2.toNat : Int) * 65536 + (x3.toNat : Int) * 256 + (x4.toNat : Int) := by
    unfold Li.num; rw [y1, y2, y3, y4]; omega
  have b0 := x0.toNat_lt
  have b1 := x1.toNat_lt
  have b2 := x2.toNat_lt
  have b3 := x3.toNat_lt
  have b4 := x4.toNat_lt
  obtain ⟨q1, hq1⟩ : ∃ q : Int, q = (x1.toNat : Int) := ⟨_, rfl⟩
  obtain ⟨q2, hq2⟩ : ∃ q : Int, q = (x2.toNat : Int) := ⟨_, rfl⟩
  obtain ⟨q3, hq3⟩ : ∃ q : Int, q = (x3.toNat : Int) := ⟨_, rfl⟩
  obtain ⟨q4, hq4⟩ : ∃ q : Int, q = (x4.toNat : Int) := ⟨_, rfl⟩
  rw [← hq1] at z1 hnum
  rw [← hq2] at z2 hnum
  rw [← hq3] at z3 hnum
  rw [← hq4] at z4 hnum
  have u1 : 0 ≤ q1 ∧ q1 < 256 := by omega
  have u2 : 0 ≤ q2 ∧ q2 < 256 := by omega
  have u3 : 0 ≤ q3 ∧ q3 < 256 := by omega
  have u4 : 0 ≤ q4 ∧ q4 < 256 := by omega
  clear y1 y2 y3 y4 hq1 hq2 hq3 hq4 b1 b2 b3 b4 cell
  have k1 : IntKind.u32.wrap q1 = q1 := IntWalk.u32_in _ (by omega)
  have k2 : IntKind.u32.wrap q2 = q2 := IntWalk.u32_in _ (by omega)
  have k3 : IntKind.u32.wrap q3 = q3 := IntWalk.u32_in _ (by omega)
  have k4 : IntKind.u32.wrap q4 = q4 := IntWalk.u32_in _ (by omega)
  have m1 : IntKind.u32.wrap (q1 * 16777216) = q1 * 16777216 := IntWalk.u32_in _ (by omega)
  have m2 : IntKind.u32.wrap (q2 * 65536) = q2 * 65536 := IntWalk.u32_in _ (by omega)
  have m3 : IntKind.u32.wrap (q3 * 256) = q3 * 256 := IntWalk.u32_in _ (by omega)
  have s2 : IntKind.u32.wrap (q1 * 16777216 + q2 * 65536) = q1 * 16777216 + q2 * 65536 := IntWalk.u32_in _ (by omega)
  have s3 : IntKind.u32.wrap (q1 * 16777216 + q2 * 65536 + q3 * 256) = q1 * 16777216 + q2 * 65536 + q3 * 256 := IntWalk.u32_in _ (by omega)
  have s4 : IntKind.u32.wrap (q1 * 16777216 + q2 * 65536 + q3 * 256 + q4) = q1 * 16777216 + q2 * 65536 + q3 * 256 + q4 := IntWalk.u32_in _ (by omega)
  have hsub : IntKind.i64.wrap ((b.length : Int) - 5) = (b.length : Int) - 5 := IntWalk.i64_in _ (by omega)
  have HN := Lib.hid hnum
  clear hnum hc
  obtain rfl : x0 = 68 := y0.symm.trans hb0
  have z0' : w.cell? ⟨bb, off, none⟩ = some (.int .u8 68) := z0
  clear z0 y0 hb0 b0
  obtain ⟨wv, ev, te, ks, hR⟩ := hR
  have HV := Lib.hid hv
  have HR2 := Lib.hid hR
  obtain ⟨nn, hnn⟩ : ∃ nn, nn = Li.num b := ⟨_, rfl⟩
  rw [← hnn] at HA hnl HN
  have HNN := Lib.hid hnn
  clear hnn
  have hnl1 : nn < 4294967296 := hnl
  clear hR hv
  have hl6 : (b.length : Int) - 5 ≤ 65536 := by omega
  go_enter Tryz.func15, Tryz.ntmps15
  go_upto_region 3 with fail
  go_cut [6] (fun v6 wx => v6 = .int .u32 (nn : Int) ∧ wx = w.drew)
  case first =>
    go_region
    all_goals
      go_wp2_with fail
      go_meet
      case rel => exact ⟨by rw [HN.out], rfl⟩
  case rest =>
    obtain ⟨rfl, rfl⟩ := hcut
    clear z1 z2 z3 z4 u1 u2 u3 u4 k1 k2 k3 k4 m1 m2 m3 s2 s3 s4
    have T0 := Turn.drew w g
    have z0 : w.drew.cell? ⟨bb, off, none⟩ = some (.int .u8 68) := z0'
    have pf4 := ((HR2.out.turn T0 (by simp)).cell).2.2.2.2.2 4
    have p4 := ((HR2.out.turn T0 (by simp)).cell).2.2.2.2.1
    have M := rmark_at HR2.out
    have T2 := Turn.drew (w.setCell ⟨mb, 4, none⟩ (.bool true)) g
    have X := Lib.hid (And.intro (M.1.trans T2 (V := [740]) (by simp) (by simp)) (And.intro (M.2.turn T2 (by simp)) ((HV.out.turn M.1 (by simp; omega)).turn T2 (by simp))))
    clear T0 T2 M z0' HR2 HV
    go_upto_region 11 with fail
    generalize (w.setCell ⟨mb, 4, none⟩ (.bool true)).drew = w1 at X ⊢
    clear z0 pf4 p4
    have c2 : w1.cell? ⟨mb, 2, none⟩ = some (.int .u32 (s.awaited : Int)) := X.out.2.1.cell.2.2.1
    have hwin : Li.Win 16 s := ⟨X.out.2.1.win.1, X.out.2.1.win.2.1, X.out.2.1.win.2.2⟩
    have hw := far_wrap nn s.awaited hnl hwin.1
    obtain ⟨d, hd⟩ : ∃ d, d = Li.far nn s.awaited := ⟨_, rfl⟩
    rw [← hd] at hw
    have HD := Lib.hid hd
    have HW := Lib.hid hwin
    clear hd hwin
    go_cut [111] (fun v wx => ∃ p : Bool, v = .bool p ∧ wx = w1 ∧ (p = true ↔ (s.early nn = none ∧ Li.far nn s.awaited < 16)))
    case first =>
      by_cases hf : d < 16
      · have hf1 : (d : Int) < 16 := by omega
        go_wp2_with fail
        refine rat_t X.out.2.1 (by omega) nn hnl1 (fun k hk hkey => ?_) (fun hno => ?_)
        · have HK := Lib.hid (place_some X.out.2.1 hk).1
          rw [hkey] at HK
          have k0 : (0 : Int) ≤ (k : Int) := by omega
          go_wp2_with fail
          go_meet
          case rel => exact ⟨false, rfl, rfl, by have := HK.out; constructor; (intro h; cases h); (intro h; rw [show s.early nn = _ from this] at h; cases h.1)⟩
        · have HK := Lib.hid (place_none X.out.2.1 nn hno)
          clear hno
          go_wp2_with fail
          go_meet
          case rel => exact ⟨true, rfl, rfl, by constructor; (intro _; exact ⟨HK.out, by rw [← HD.out]; exact hf⟩); (intro _; rfl)⟩
      · have hf1 : (16 : Int) ≤ (d : Int) := by omega
        go_wp2_with fail
        go_meet
        case rel => exact ⟨false, rfl, rfl, by constructor; (intro h; cases h); (intro h; rw [← HD.out] at h; exact absurd h.2 hf)⟩
    case rest =>
      obtain ⟨p, rfl, rfl, hp⟩ := hcut
      have HP := Lib.hid hp
      clear hp hw
      go_upto_if 111 with fail
      go_cut [] (fun wx => RDrainAt w g mb (Li.laid s nn (b.drop 5)) (q + 1) 16 (.slice none 0 0) wx)
      case first =>
        cases p with
        | true =>
          have hc := HP.out.1 rfl
          have HC := Lib.hid hc
          clear hc c2
          obtain ⟨ea, ec, rfl⟩ := X.out.2.1.early.form
          obtain ⟨ad5, hsl5, hs5, hs6⟩ := slice_lk (P := Tryz.prog) Tryz.underlying42 (by kernel_rfl) .i64 (some ⟨bb, off, none⟩) b.length cap 5 5 rfl (by omega)
          obtain ⟨a5, rfl⟩ : ∃ a5, ad5 = some a5 := by
            rcases Nat.lt_or_ge 5 cap with h | h
            · exact ⟨_, by rw [hs5 h, Option.map_some]⟩
            · exact ⟨_, hs6 (by omega)⟩
          have hpc := Bytes.cut X.out.2.2 5 b.length (cap - 5) (by omega) (Nat.le_refl _) (ad := a5) ⟨by omega, by omega⟩ (fun h => by have := hs5 (by omega); rw [Option.map_some, add_none] at this; exact Option.some.inj this)
          rw [List.take_of_length_le (by rw [List.length_drop]; exact Nat.le_refl _)] at hpc
          obtain ⟨c5, hc5⟩ : ∃ c5, c5 = b.drop 5 := ⟨_, rfl⟩
          rw [← hc5] at hpc
          have HC5 := Lib.hid hc5
          have HL5 := Lib.hid (show c5.length ≤ 65536 by rw [hc5, List.length_drop]; omega)
          have HPC := Lib.hid hpc
          have hks : ks.length + 1 ≤ 1000000000 := by have := X.out.2.1.count; omega
          have ct := X.out.2.1.turn (Turn.drew _ g) (by simp)
          have c3 := ct.cell.2.2.2.1
          clear hs5 hs6 hpc ct hc5
          have hT1 : te ∉ [740, 741, 743, 747] := by rcases X.out.2.1.tag with e | e <;> rw [e] <;> decide
          go_wp2_with fail
          go_region_law (first
            | (go_simp; go_at_call 23; refine rtwin_f 743 (HPC.out.turn (Turn.drew _ g) (by simp)) (Nat.le_trans HL5.out (by decide)) ?_; intro a1 c1 w1 g1 T1 O1; have X1 := Lib.hid (And.intro O1 (((Turn.drew _ g).trans T1 (V := []) (by simp) (by simp)))); clear O1 T1; have e0 := (X.out.2.1.turn X1.out.2 (by simp)).cell.2.2.2.1; have e0' := fun o => ((X.out.2.1.turn X1.out.2 (by simp)).turn (Turn.alloc w1 g1 1000 o) (by simp)).cell.2.2.2.1)
            | (go_loud (refine step_kept rfl (.tmp 116) (.tmp 122) rfl (g := g1.ext w1.heap.size 1000) (te := te) (n := nn) rfl ((X.out.2.1.turn X1.out.2 (by simp)).early.turn (Turn.alloc w1 g1 1000 _) (by simp)) rfl rfl (owns_one X1.out.1) hks ?_); intro a2 c2 w2 g2 O2 T2; have X2 := Lib.hid (rlaid_at X.out.2.1 HW.out hnl HC.out X1.out.2 X1.out.1 O2 T2 HL5.out); clear O2 T2; obtain e1 := X2.out.cell; obtain e2 := X2.out.froz))
          all_goals
            go_wp2_with fail
            go_meet
            case rel =>
              rw [← HC5.out]
              exact rdrain_start X2.out.done.2 (X.out.1.trans X2.out.done.1 (by simp) (by simp))
        | false =>
          have hc : ¬ (s.early nn = none ∧ Li.far nn s.awaited < 16) := fun h => by have := HP.out.2 h; cases this
          have HC := Lib.hid (not_laid (b := b.drop 5) hc)
          clear hc
          go_wp2_with fail
          go_meet
          case rel =>
            rw [HC.out]
            exact rdrain_start (X.out.2.1.mono (Nat.le_succ q)) (X.out.1.mono (by simp))
      case rest =>
        have HDR := Lib.hid hcut
        obtain ⟨s0, hs0⟩ : ∃ s0, s0 = Li.laid s nn (b.drop 5) := ⟨_, rfl⟩
        rw [← hs0] at HDR HA
        clear hcut hs0 c2 HP
        go_wp2_with fail
        go_loopg [8] 16 (fun gk vl wr => RDrainAt w g mb s0 (q + 1) gk vl wr)
        case atStart => exact HDR.out
        case round =>
          obtain ⟨s1, done, wv1, ev1, te1, ks1, gr, la, lc, hwin1, hd1, rfl, hL1, hR1, hT1, hlen1⟩ := hrel
          have HX := Lib.hid (And.intro hwin1 (And.intro hd1 (And.intro hL1 (And.intro hR1 hT1))))
          have haw := hR1.win.1
          have haw1 : s1.awaited < 4294967296 := haw
          have p2 := hR1.cell.2.2.1
          clear hwin1 hd1 hL1 hR1 hT1 HDR
          go_wp2_with fail
          refine rat_t HX.out.2.2.2.1 (by omega) s1.awaited haw1 (fun k1 hk1 hkey1 => ?_) (fun hno => ?_)
          · have k1n : (0 : Int) ≤ (k1 : Int) := by omega
            obtain ⟨k, rfl⟩ : ∃ k, gk = k + 1 := by
              cases gk with
              | zero => have := Li.win_none HX.out.1 s1.awaited; have h2 := (place_some HX.out.2.2.2.1 hk1).1; rw [hkey1, this] at h2; cases h2
              | succ k => exact ⟨k, rfl⟩
            have HK1 := Lib.hid (And.intro hk1 hkey1)
            clear hkey1
            go_wp2_with fail
            refine rat_t HX.out.2.2.2.1 (by omega) s1.awaited haw1 (fun k2 hk2 hkey2 => ?_) (fun hno => absurd HK1.out.2 (hno _ HK1.out.1))
            clear k1n
            have HK2 := Lib.hid (And.intro hk2 hkey2)
            have HP2 := Lib.hid (place_some HX.out.2.2.2.1 hk2)
            rw [hkey2] at HP2
            obtain ⟨eb, eo, ec, rfl, _, hec, _, _, hc⟩ := HX.out.2.2.2.1.early.cell (Nat.lt_of_le_of_lt (Nat.zero_le _) hk2)
            have u1 : wr.cell? ⟨eb, eo + k2 * 2 + 1, none⟩ = some (ks1[k2]).2.2 := (hc (k2 * 2 + 1) (by omega)).1.trans (kcells_at ks1 k2 hk2).2
            have hub := HX.out.2.2.2.1.bytes _ (List.getElem_mem hk2)
            obtain ⟨kp, hkp⟩ : ∃ kp, kp = ks1[k2] := ⟨_, rfl⟩
            rw [← hkp] at u1 hub HP2
            obtain ⟨kn, kb, kv⟩ := kp
            simp only at u1 hub HP2
            obtain ⟨ua, uc, rfl⟩ := hub.form
            have HU := Lib.hid hub
            have k20 : (0 : Int) ≤ (k2 : Int) := by omega
            have k21 : (k2 : Int) < (ks1.length : Int) := by omega
            have k22 : (ks1.length : Int) ≤ 1000001 := by have := HX.out.2.2.2.1.count; omega
            have hwk : IntKind.i64.wrap ((k2 : Int) + 1) = (k2 : Int) + 1 := IntWalk.i64_in _ (by omega)
            have hsh := slice_hs (P := Tryz.prog) (sz := 2) Tryz.underlying62 (by kernel_rfl) eb eo ks1.length ec k2 (k2 : Int) rfl (by omega)
            obtain ⟨ad, hsl, had⟩ := slice_ls (P := Tryz.prog) (sz := 2) Tryz.underlying62 (by kernel_rfl) eb eo ks1.length ec (k2 + 1) ((k2 : Int) + 1) (by omega) (by omega)
            have HAD := Lib.hid had
            obtain ⟨te2, hte2, hne⟩ : ∃ te2, (te2 = 742 ∨ te2 = 745) ∧ te1 ≠ te2 := by
              rcases HX.out.2.2.2.1.tag with e | e
              · exact ⟨745, .inr rfl, by omega⟩
              · exact ⟨742, .inl rfl, by omega⟩
            have HT2 := Lib.hid (And.intro hte2 (show te1 ∉ [te2, 747] by simp; refine ⟨hne, ?_⟩; rcases HX.out.2.2.2.1.tag with e | e <;> omega))
            have HT3 := Lib.hid (show (740 : Nat) ∉ [te2, 747] by simp; rcases hte2 with e | e <;> omega)
            have HT4 := Lib.hid (show ∀ t, t ∈ [747] → t ∈ [te2, 747] from fun t h => List.mem_cons_of_mem _ h)
            have HT5 := Lib.hid (show ∀ t, t ∈ [te2] → t ∈ [te2, 747] from fun t h => by rw [List.mem_singleton.1 h]; exact List.mem_cons_self ..)
            have hone : ∀ ks2 : List Kp, (∀ x ∈ ks2, x ∈ ks1) → ∀ u ∈ kcells ks2, u.oneCell' = true := fun ks2 h2 => kcells_one ks2 fun x hx => owns_one (HX.out.2.2.2.1.bytes x (h2 x hx))
            have HO1 := Lib.hid (And.intro (hone (ks1.take k2) (fun x hx => List.mem_of_mem_take hx)) (hone (ks1.drop (k2 + 1)) (fun x hx => List.mem_of_mem_drop hx)))
            obtain ⟨aw, haw2⟩ : ∃ aw : Int, aw = (((s1.awaited + 1) % Li.M : Nat) : Int) := ⟨_, rfl⟩
            have hnw := (next_wrap s1.awaited haw).trans haw2.symm
            have HAW := Lib.hid haw2
            have hlen2 : done.length + 1 ≤ 1000000000 := by omega
            have hk0 : k2 ≤ 1000000 := by omega
            have hk3 : ks1.length - (k2 + 1) ≤ 1000000 := by omega
            have p3 := HX.out.2.2.2.1.cell.2.2.2.1
            have p3' := fun o => (HX.out.2.2.2.1.turn (Turn.alloc wr gr 1000 o) (by simp)).cell.2.2.2.1
            clear hkey2 hc hub hkp had hte2 hne hone haw2 p2 HK1 hk1
            go_wp2_with (at_builtin; first
              | (refine append_one rfl (.tmp 139) (.tmp 148) rfl (g := gr.ext wr.heap.size 1000) (t := 747) (t' := fun _ => 743) rfl (HX.out.2.2.1.turn (Turn.alloc wr gr 1000 _) List.not_mem_nil (fun _ => List.not_mem_nil)) rfl rfl (HU.out.turn (Turn.alloc wr gr 1000 _) List.not_mem_nil) (fun _ => by decide) hlen2 ?_; intro a2 c2 w2 g2 L2 T2; have X2 := Lib.hid (And.intro L2 ((Turn.alloc wr gr 1000 _).trans T2 (V := [747]) (by simp) (by simp))); clear L2 T2 p3 p3'; have m3 := (HX.out.2.2.2.1.turn X2.out.2 (by simp)).cell.2.2.2.1)
              | (refine wpList_append_t _ rfl (.tmp 150) (.tmp 156) rfl keptElem (g := g2) (tg := te2) rfl (Owns.nil _ _ _ _ _) rfl (kept_src (HX.out.2.2.2.1.turn X2.out.2 (by simp)).early rfl k2 (by omega)).1 HO1.out.1 (by unfold maxLen; omega) (by omega) ?_; intro a3 c3 w3 g3 O3 T3; rw [Nat.zero_add, List.nil_append] at O3; have X3 := Lib.hid (And.intro O3 (And.intro (X2.out.2.trans T3 (V := [te2, 747]) HT4.out HT5.out) T3)); clear O3 T3 m3; have m4 := ((HX.out.2.2.2.1.box.turn X3.out.2.1 HT3.out).cell 3).1; rw [show (#[Value.int .u32 (s1.first : Int), wv1, .int .u32 (s1.awaited : Int), .slice (some ⟨eb, eo, none⟩) ks1.length ec, .bool s1.came] : Array Value)[3]? = some (.slice (some ⟨eb, eo, none⟩) ks1.length ec) from rfl] at m4)
              | (refine wpList_append_t _ rfl (.tmp 159) (.tmp 166) rfl keptElem (g := g3) (tg := te2) rfl X3.out.1 rfl ((kept_src (HX.out.2.2.2.1.early.turn X3.out.2.1 HT2.out.2) rfl (k2 + 1) (by omega)).2 ad HAD.out) HO1.out.2 (by unfold maxLen; omega) (by omega) ?_; intro a4 c4 w4 g4 O4 T4; have X4 := Lib.hid (And.intro O4 (X3.out.2.1.trans T4 (V := [te2, 747]) (fun _ h => h) HT5.out)); have X5 := Lib.hid (X3.out.2.2.trans T4 (V := [te2]) (fun _ h => h) (fun _ h => h)); clear O4 T4 m4; obtain ⟨m5, m6⟩ := (HX.out.2.2.2.1.box.turn X4.out.2 HT3.out).cell 3; rw [show (#[Value.int .u32 (s1.first : Int), wv1, .int .u32 (s1.awaited : Int), .slice (some ⟨eb, eo, none⟩) ks1.length ec, .bool s1.came] : Array Value)[3]? = some (.slice (some ⟨eb, eo, none⟩) ks1.length ec) from rfl] at m5; have B7 := ((HX.out.2.2.2.1.box.turn X4.out.2 HT3.out).store 3 (.slice a4 (k2 + (ks1.length - (k2 + 1))) c4)).2; have m7 : _ = some (Value.int .u32 (s1.awaited : Int)) := (B7.cell 2).1; have m8 := (B7.cell 2).2; clear B7))
            have hX := rnext_at HX.out.2.2.2.1 HK2.out.1 HK2.out.2 HX.out.1 (by omega) X4.out.2 HT2.out.1 rfl X4.out.1 HAW.out
            have nt : ∀ t, t ≠ 742 → t ≠ 745 → t ∉ [te2] := fun t h1 h2 h => by simp at h; rcases HT2.out.1 with e | e <;> omega
            have hL := (X2.out.1.turn X5.out (nt _ (by decide) (by decide)) (fun _ => nt _ (by decide) (by decide))).turn hX.2.2 (by decide) (fun _ => by decide)
            have X6 := Lib.hid (rdrain_next HX.out.1 HX.out.2.1 HP2.out.1 hlen1 hL HX.out.2.2.2.2 hX.1 hX.2.1)
            clear hX hL nt
            go_roundg k
            case measure => omega
            case rel => exact X6.out
          · have HN2 := Lib.hid (rdrain_stop HX.out.2.1 (place_none HX.out.2.2.2.1 _ hno) HX.out.2.2.2.1)
            clear hno
            go_wp2_with fail
            go_ret2
            rw [HA.out]
            refine ⟨la, lc, gr, ?_, ?_, HN2.out.2, HX.out.2.2.2.2⟩
            · rw [HN2.out.1]; rfl
            · rw [HN2.out.1]; exact HX.out.2.2.1

theorem rcame_t {w : World} {g : Tags} {mb : Nat} {s : Li.St} {q : Nat} (hR : RefIs w g mb s q) (hq : q < 1000000) {tv : Nat} {v : Value} {b : List UInt8} (hv : Bytes w g tv v b) (htv : tv < 740 ∨ 747 < tv) {fs : List (List UInt8)} {en : Nat} {s' : Li.St} (hall : Li.came s b = (fs, en, s')) {e : Int} (he : (en : Int) = e) {Q : Ending → World → Prop}
    (h : ∀ ao cap w' g', Turn w g w' g' [740, 742, 745, 747] → Lists w' g' 747 (fun _ => 743) (.slice ao fs.length cap) fs → RefIs w' g' mb s' (q + 1) → Q (.returned (.tuple #[.slice ao fs.length cap, .int .i64 e])) w') :
    Calls Tryz.prog 15 #[.pointer (some ⟨mb, 0, none⟩), v] w Q := by
  have key : Calls Tryz.prog 15 #[.pointer (some ⟨mb, 0, none⟩), v] w (RCameSaid w g mb (Li.came s b) (q + 1)) := by
    by_cases h1 : b.length < 5 ∨ 65541 < b.length
    · exact rcame_bad hR hv (.inl h1)
    · by_cases h2 : b[0]?.getD 0 = 68
      · exact rcame_data hR hq hv htv (by omega) (by omega) h2
      · by_cases h3 : b[0]?.getD 0 = 65 ∧ b.length = 5
        · exact rcame_ack hR hv h3.2 h3.1
        · exact rcame_bad hR hv (.inr ⟨h2, h3⟩)
  refine key.mono ?_
  rintro e w' ⟨ao, cap, g', rfl, hL, hE', hT⟩
  rw [hall] at hL hE' ⊢
  subst he
  exact h ao cap w' g' hT hL hE'
end Go.Proofs.YtoedalocfepkoaaGreatDoor
