/- Links: the walk of LinksForm, a message. -/
import Derived.Test.YtoedalocfepkoaaLiForm2
namespace Go.Proofs.Ytoedalocfepkoaa
open Go.RowKit Go.My

set_option maxRecDepth 100000 in
theorem data_nought (r : List UInt8) : Li.take X1 0 r = ([r], { X1 with came := true, awaited := 1, early := Li.without (Li.withAt (fun _ => none) 0 r) 0 }) := by
  have h : Li.laid X1 0 r = { X1 with came := true, early := Li.withAt (fun _ => none) 0 r } := by
    unfold Li.laid; rw [if_pos ⟨rfl, by decide⟩]; rfl
  unfold Li.take
  rw [h]
  rfl

theorem data_other (r : List UInt8) (n : Nat) (hn : n ≠ 0) : ∃ f, Li.take X1 n r = ([], { X1 with came := true, early := f }) := by
  obtain ⟨f, hf⟩ : ∃ f, f = (if X1.early n = none ∧ Li.far n X1.awaited < 16 then Li.withAt X1.early n r else X1.early) := ⟨_, rfl⟩
  have h0 : f 0 = none := by
    rw [hf]
    split
    · show (if 0 = n then some r else none) = none
      rw [if_neg (Ne.symm hn)]
    · rfl
  have h1 : Li.laid X1 n r = { X1 with came := true, early := f } := by rw [hf]; unfold Li.laid; rfl
  refine ⟨f, ?_⟩
  unfold Li.take
  rw [h1]
  show Li.drain (15 + 1) _ = _
  rw [Li.drain]
  have h2 : ({ X1 with came := true, early := f } : Li.St).early ({ X1 with came := true, early := f } : Li.St).awaited = none := h0
  rw [h2]

theorem form_data {b : List UInt8} (h0 : b[0]?.getD 0 = 68) (hb : ¬ (b.length < 5 ∨ 65541 < b.length)) {fs : List (List UInt8)} {en : Nat} {s' : Li.St} {ps : List (List UInt8)} {e : Int} (hall : Li.came X1 b = (fs, en, s')) (hp : Li.packets s' = ps) (he : (en : Int) = e) :
    e = 0 ∧ (Li.num b = 0 → fs = [b.drop 5] ∧ ps = [[68, 0, 0, 0, 0, 120], [65, 0, 0, 0, 1]]) ∧ (Li.num b ≠ 0 → fs = [] ∧ ps = [[68, 0, 0, 0, 0, 120], [65, 0, 0, 0, 0]]) := by
  have hc : Li.came X1 b = ((Li.take X1 (Li.num b) (b.drop 5)).1, 0, (Li.take X1 (Li.num b) (b.drop 5)).2) := by
    unfold Li.came; rw [if_neg hb, if_pos h0]
  rw [hc] at hall
  simp only [Prod.mk.injEq] at hall
  obtain ⟨hf, hen, hs⟩ := hall
  refine ⟨by rw [← he, ← hen]; rfl, fun hn => ?_, fun hn => ?_⟩
  · rw [hn, data_nought] at hf hs
    refine ⟨hf.symm, ?_⟩
    rw [← hp, ← hs]
    show Li.datas 0 0 [[120]] ++ [Li.packet 65 1 []] = _
    decide
  · obtain ⟨f, hq⟩ := data_other (b.drop 5) (Li.num b) hn
    rw [hq] at hf hs
    refine ⟨hf.symm, ?_⟩
    rw [← hp, ← hs]
    show Li.datas 0 0 [[120]] ++ [Li.packet 65 0 []] = _
    decide

set_option maxRecDepth 100000 in
set_option maxHeartbeats 8000000 in
theorem form_msg (w : World) (v : Value) (b : List UInt8) (hv : BytesIn w (fun b => b < w.heap.size) v b) (hb1 : 5 ≤ b.length) (hb2 : b.length ≤ 65541) (hD : b[0]?.getD 0 = 68) (hn : Li.num b ≠ 0) :
    Calls Try.prog 7 #[v] w fun e w' => e = .returned (.bool true) ∧ Below w.heap.size w w' := by
  have HO := Lib.hid (And.intro hD hn)
  have hl : b.length ≤ 70000 := by omega
  have hno : ¬ (b.length < 5 ∨ 65541 < b.length) := by omega
  have HNO := Lib.hid hno
  clear hD hn hno
  obtain ⟨ao, cap, e0, hc1, hm, _, hz⟩ := hv.open_
  subst e0
  have h1 : (b.length : Int) ≤ 70000 := by omega
  have C0 := Lib.hid (And.intro (Since.start w) (show Bytes w (fun _ => 0) 0 (.slice ao b.length cap) b from BytesIn.mono hv (fun _ _ _ => rfl)))
  have kc := fun (w : World) (C : Array Value) (n c : Nat) => Lib.run_convert_bytes_const (P := Try.prog) w 22 5 C n c Try.underlying22 Try.underlying5
  obtain ⟨fs, en, s', hall⟩ : ∃ fs en s', Li.came X1 b = (fs, en, s') := ⟨_, _, _, rfl⟩
  obtain ⟨ps, hps⟩ : ∃ ps, Li.packets s' = ps := ⟨_, rfl⟩
  obtain ⟨ei, hei⟩ : ∃ ei : Int, (en : Int) = ei := ⟨_, rfl⟩
  have HA := Lib.hid (And.intro hall (And.intro hps hei))
  clear hv hz hall hps hei
  go_enter Try.func7, Try.ntmps7
  go_wp2_with fail
  refine alive_t _ (fun _ => 0) 9 fun w1 g1 T1 => ?_
  have C1 := Lib.hid (And.intro (C0.out.1.turn T1 (by decide)) (C0.out.2.turn T1 (by decide)))
  clear T1 C0
  go_wp2_with fail
  refine new_t w1 g1 10 fun ea w2 g2 T2 E2 => ?_
  have C2 := Lib.hid (And.intro (C1.out.1.turn T2 (by decide)) (And.intro (C1.out.2.turn T2 (by decide)) E2))
  clear T2 E2 C1
  go_wp2_with fail
  refine send_ok (C2.out.2.2.turn (Turn.alloc w2 g2 30 _) (by decide)) (lit_t g2 30 [120] rfl rfl (by decide) rfl _) (by decide) (by decide) (by decide) fun w3 g3 T3 E3 => ?_
  have C3 := Lib.hid (And.intro ((C2.out.1.turn (Turn.alloc w2 g2 30 _) (by decide)).turn T3 (by decide)) (And.intro ((C2.out.2.1.turn (Turn.alloc w2 g2 30 _) (by decide)).turn T3 (by decide)) (show EndIs w3 g3 10 ea X1 0 from E3)))
  clear T3 E3 C2
  go_wp2_with fail
  refine came_k 50 C3.out.2.2 C3.out.2.1 (by decide) (by decide) (by decide) HA.out.1 HA.out.2.2 fun al cl w4 g4 T4 L4 E4 => ?_
  have C4 := Lib.hid (And.intro (C3.out.1.turn T4 (by decide)) (And.intro (C3.out.2.1.turn T4 (by decide)) (And.intro E4 L4)))
  clear T4 L4 E4 C3
  go_wp2_with fail
  refine packets_k 40 41 C4.out.2.2.1 (by decide) (by decide) (by decide) (by decide) (by decide) (by decide) HA.out.2.1 fun ap cp w5 g5 T5 L5 E5 => ?_
  have C5 := Lib.hid (And.intro (C4.out.1.turn T5 (by decide)) (And.intro (C4.out.2.1.turn T5 (by decide)) (And.intro E5 (And.intro (C4.out.2.2.2.turn T5 (by decide) (by decide)) L5))))
  clear T5 L5 E5 C4 kc
  obtain ⟨rfl, _, hfd⟩ := form_data HO.out.1 HNO.out HA.out.1 HA.out.2.1 HA.out.2.2
  obtain ⟨rfl, rfl⟩ := hfd HO.out.2
  obtain ⟨bb, off, rfl, _, hcell⟩ := BytesIn.cells C5.out.2.1 (by omega)
  have k0 := hcell 0 (by omega)
  have k1 := hcell 1 (by omega)
  have k2 := hcell 2 (by omega)
  have k3 := hcell 3 (by omega)
  have k4 := hcell 4 (by omega)
  rw [Nat.add_zero] at k0
  have e0 : b[0]?.getD 0 = b[0] := by rw [List.getElem?_eq_getElem (by omega)]; rfl
  have e1 : b[1]?.getD 0 = b[1] := by rw [List.getElem?_eq_getElem (by omega)]; rfl
  have e2 : b[2]?.getD 0 = b[2] := by rw [List.getElem?_eq_getElem (by omega)]; rfl
  have e3 : b[3]?.getD 0 = b[3] := by rw [List.getElem?_eq_getElem (by omega)]; rfl
  have e4 : b[4]?.getD 0 = b[4] := by rw [List.getElem?_eq_getElem (by omega)]; rfl
  have hn : Li.num b = (b[1]).toNat * 16777216 + (b[2]).toNat * 65536 + (b[3]).toNat * 256 + (b[4]).toNat := by unfold Li.num; rw [e1, e2, e3, e4]
  have hx0 : ((b[0]).toNat : Int) = 68 := by rw [← e0, HO.out.1]; rfl
  have hnn : (b[1]).toNat * 16777216 + (b[2]).toNat * 65536 + (b[3]).toNat * 256 + (b[4]).toNat ≠ 0 := by rw [← hn]; exact HO.out.2
  clear hcell e0 e1 e2 e3 e4 HO HA hfd hn
  generalize (b[0]).toNat = x0 at *
  generalize (b[1]).toNat = x1 at *
  generalize (b[2]).toNat = x2 at *
  generalize (b[3]).toNat = x3 at *
  generalize (b[4]).toNat = x4 at *
  have j1 : (5 : Int) ≤ (b.length : Int) := by omega
  have j2 : (b.length : Int) ≤ 65541 := by omega
  have HNN := Lib.hid hnn
  clear hnn hl hb1 hb2 h1 hc1
  obtain ⟨bp, op, a0, c0, a1, c1, rfl, _, ⟨d1, e1⟩⟩ := lists_two C5.out.2.2.2.2
  obtain ⟨bq, oq, rfl, _, hq⟩ := BytesIn.cells e1 (by decide)
  have p0 := hq 0 (by decide)
  have p4 := hq 4 (by decide)
  rw [Nat.add_zero] at p0
  clear hq e1
  by_cases y1 : x1 = 0
  · have z1 : (x1 : Int) = 0 := by omega
    by_cases y2 : x2 = 0
    · have z2 : (x2 : Int) = 0 := by omega
      by_cases y3 : x3 = 0
      · have z3 : (x3 : Int) = 0 := by omega
        have z4 : ((x4 : Int) == 0) = false := by have := HNN.out; simp; omega
        clear y1 y2 y3
        go_wp2_with fail
        all_goals
          go_quiet (fail)
          go_wp2_with fail
          go_ret
          exact ⟨rfl, C5.out.1.below.trans ((below_drewN' w5 _).mono C5.out.1.below.size)⟩
      · have z3 : ((x3 : Int) == 0) = false := by simp; omega
        clear y1 y2 y3
        go_wp2_with fail
        all_goals
          go_quiet (fail)
          go_wp2_with fail
          go_ret
          exact ⟨rfl, C5.out.1.below.trans ((below_drewN' w5 _).mono C5.out.1.below.size)⟩
    · have z2 : ((x2 : Int) == 0) = false := by simp; omega
      clear y1 y2
      go_wp2_with fail
      all_goals
        go_quiet (fail)
        go_wp2_with fail
        go_ret
        exact ⟨rfl, C5.out.1.below.trans ((below_drewN' w5 _).mono C5.out.1.below.size)⟩
  · have z1 : ((x1 : Int) == 0) = false := by simp; omega
    clear y1
    go_wp2_with fail
    all_goals
      go_quiet (fail)
      go_wp2_with fail
      go_ret
      exact ⟨rfl, C5.out.1.below.trans ((below_drewN' w5 _).mono C5.out.1.below.size)⟩
end Go.Proofs.Ytoedalocfepkoaa
