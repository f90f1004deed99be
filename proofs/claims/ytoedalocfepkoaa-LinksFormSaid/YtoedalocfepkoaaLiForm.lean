/- Links: the walk of LinksForm. -/
import Derived.Test.YtoedalocfepkoaaLiAlive
namespace Go.Proofs.Ytoedalocfepkoaa
open Go.RowKit Go.My

def X1 : Li.St := sent Li.fresh [120]

theorem form_out {b : List UInt8} (h : Li.came X1 b = ([], 4, X1)) {fs : List (List UInt8)} {en : Nat} {s' : Li.St} {ps : List (List UInt8)} {e : Int} (hall : Li.came X1 b = (fs, en, s')) (hp : Li.packets s' = ps) (he : (en : Int) = e) :
    fs = [] ∧ e = 4 ∧ s' = X1 ∧ ps = [[68, 0, 0, 0, 0, 120]] := by
  rw [h] at hall
  cases hall
  exact ⟨rfl, he.symm, rfl, by rw [← hp]; decide⟩

set_option maxRecDepth 100000 in
set_option maxHeartbeats 8000000 in
theorem form_size (w : World) (v : Value) (b : List UInt8) (hv : BytesIn w (fun b => b < w.heap.size) v b) (hl : b.length ≤ 70000) (hb : b.length < 5 ∨ 65541 < b.length) :
    Calls Try.prog 7 #[v] w fun e w' => e = .returned (.bool true) ∧ Below w.heap.size w w' := by
  obtain ⟨ao, cap, e0, hc1, hm, _, hz⟩ := hv.open_
  subst e0
  have h1 : (b.length : Int) ≤ 70000 := by omega
  have C0 := Lib.hid (And.intro (Since.start w) (show Bytes w (fun _ => 0) 0 (.slice ao b.length cap) b from BytesIn.mono hv (fun _ _ _ => rfl)))
  have kc := fun (w : World) (C : Array Value) (n c : Nat) => Lib.run_convert_bytes_const (P := Try.prog) w 22 5 C n c Try.underlying22 Try.underlying5
  obtain ⟨fs, en, s', hall⟩ : ∃ fs en s', Li.came X1 b = (fs, en, s') := ⟨_, _, _, rfl⟩
  obtain ⟨ps, hps⟩ : ∃ ps, Li.packets s' = ps := ⟨_, rfl⟩
  obtain ⟨ei, hei⟩ : ∃ ei : Int, (en : Int) = ei := ⟨_, rfl⟩
  have HA := Lib.hid (And.intro hall (And.intro hps hei))
  clear hv hz hall hps hei
  go_enter Try.func7, Try.ntmps7
  go_wp2_with fail
  refine alive_t _ (fun _ => 0) 9 fun w1 g1 T1 => ?_
  have C1 := Lib.hid (And.intro (C0.out.1.turn T1 (by decide)) (C0.out.2.turn T1 (by decide)))
  clear T1 C0
  go_wp2_with fail
  refine new_t w1 g1 10 fun ea w2 g2 T2 E2 => ?_
  have C2 := Lib.hid (And.intro (C1.out.1.turn T2 (by decide)) (And.intro (C1.out.2.turn T2 (by decide)) E2))
  clear T2 E2 C1
  go_wp2_with fail
  refine send_ok (C2.out.2.2.turn (Turn.alloc w2 g2 30 _) (by decide)) (lit_t g2 30 [120] rfl rfl (by decide) rfl _) (by decide) (by decide) (by decide) fun w3 g3 T3 E3 => ?_
  have C3 := Lib.hid (And.intro ((C2.out.1.turn (Turn.alloc w2 g2 30 _) (by decide)).turn T3 (by decide)) (And.intro ((C2.out.2.1.turn (Turn.alloc w2 g2 30 _) (by decide)).turn T3 (by decide)) (show EndIs w3 g3 10 ea X1 0 from E3)))
  clear T3 E3 C2
  go_wp2_with fail
  refine came_k 50 C3.out.2.2 C3.out.2.1 (by decide) (by decide) (by decide) HA.out.1 HA.out.2.2 fun al cl w4 g4 T4 L4 E4 => ?_
  have C4 := Lib.hid (And.intro (C3.out.1.turn T4 (by decide)) (And.intro (C3.out.2.1.turn T4 (by decide)) (And.intro E4 L4)))
  clear T4 L4 E4 C3
  go_wp2_with fail
  refine packets_k 40 41 C4.out.2.2.1 (by decide) (by decide) (by decide) (by decide) (by decide) (by decide) HA.out.2.1 fun ap cp w5 g5 T5 L5 E5 => ?_
  have C5 := Lib.hid (And.intro (C4.out.1.turn T5 (by decide)) (And.intro (C4.out.2.1.turn T5 (by decide)) (And.intro E5 (And.intro (C4.out.2.2.2.turn T5 (by decide) (by decide)) L5))))
  clear T5 L5 E5 C4 kc
  obtain ⟨rfl, rfl, rfl, rfl⟩ := form_out (show Li.came X1 b = ([], 4, X1) by unfold Li.came; rw [if_pos hb]) HA.out.1 HA.out.2.1 HA.out.2.2
  rcases hb with hb | hb
  · have j1 : (b.length : Int) < 5 := by omega
    clear hb HA
    obtain ⟨bp, op, a0, c0, rfl, d0, e0⟩ := lists_one C5.out.2.2.2.2
    obtain ⟨bq, oq, rfl, _, hq⟩ := BytesIn.cells e0 (by decide)
    have d1 : w5.cell? ⟨bq, oq, none⟩ = some (.int .u8 68) := hq 0 (by decide)
    clear hq e0
    go_wp2_with fail
    refine waits_t C5.out.2.2.1 ?_
    go_wp2_with fail
    go_ret
    exact ⟨rfl, C5.out.1.below⟩
  · have j1 : (65541 : Int) < (b.length : Int) := by omega
    clear hb HA
    obtain ⟨bp, op, a0, c0, rfl, d0, e0⟩ := lists_one C5.out.2.2.2.2
    obtain ⟨bq, oq, rfl, _, hq⟩ := BytesIn.cells e0 (by decide)
    have d1 : w5.cell? ⟨bq, oq, none⟩ = some (.int .u8 68) := hq 0 (by decide)
    clear hq e0
    go_wp2_with fail
    refine waits_t C5.out.2.2.1 ?_
    go_wp2_with fail
    go_ret
    exact ⟨rfl, C5.out.1.below⟩

set_option maxRecDepth 100000 in
set_option maxHeartbeats 8000000 in
theorem form_other (w : World) (v : Value) (b : List UInt8) (hv : BytesIn w (fun b => b < w.heap.size) v b) (hl : b.length ≤ 70000) (hb1 : 5 ≤ b.length) (hb2 : b.length ≤ 65541) (hD : b[0]?.getD 0 ≠ 68) (hA : ¬ (b[0]?.getD 0 = 65 ∧ b.length = 5)) :
    Calls Try.prog 7 #[v] w fun e w' => e = .returned (.bool true) ∧ Below w.heap.size w w' := by
  have hno : Li.came X1 b = ([], 4, X1) := came_other (by omega) hD hA
  have HO := Lib.hid hno
  clear hno
  obtain ⟨ao, cap, e0, hc1, hm, _, hz⟩ := hv.open_
  subst e0
  have h1 : (b.length : Int) ≤ 70000 := by omega
  have C0 := Lib.hid (And.intro (Since.start w) (show Bytes w (fun _ => 0) 0 (.slice ao b.length cap) b from BytesIn.mono hv (fun _ _ _ => rfl)))
  have kc := fun (w : World) (C : Array Value) (n c : Nat) => Lib.run_convert_bytes_const (P := Try.prog) w 22 5 C n c Try.underlying22 Try.underlying5
  obtain ⟨fs, en, s', hall⟩ : ∃ fs en s', Li.came X1 b = (fs, en, s') := ⟨_, _, _, rfl⟩
  obtain ⟨ps, hps⟩ : ∃ ps, Li.packets s' = ps := ⟨_, rfl⟩
  obtain ⟨ei, hei⟩ : ∃ ei : Int, (en : Int) = ei := ⟨_, rfl⟩
  have HA := Lib.hid (And.intro hall (And.intro hps hei))
  clear hv hz hall hps hei
  go_enter Try.func7, Try.ntmps7
  go_wp2_with fail
  refine alive_t _ (fun _ => 0) 9 fun w1 g1 T1 => ?_
  have C1 := Lib.hid (And.intro (C0.out.1.turn T1 (by decide)) (C0.out.2.turn T1 (by decide)))
  clear T1 C0
  go_wp2_with fail
  refine new_t w1 g1 10 fun ea w2 g2 T2 E2 => ?_
  have C2 := Lib.hid (And.intro (C1.out.1.turn T2 (by decide)) (And.intro (C1.out.2.turn T2 (by decide)) E2))
  clear T2 E2 C1
  go_wp2_with fail
  refine send_ok (C2.out.2.2.turn (Turn.alloc w2 g2 30 _) (by decide)) (lit_t g2 30 [120] rfl rfl (by decide) rfl _) (by decide) (by decide) (by decide) fun w3 g3 T3 E3 => ?_
  have C3 := Lib.hid (And.intro ((C2.out.1.turn (Turn.alloc w2 g2 30 _) (by decide)).turn T3 (by decide)) (And.intro ((C2.out.2.1.turn (Turn.alloc w2 g2 30 _) (by decide)).turn T3 (by decide)) (show EndIs w3 g3 10 ea X1 0 from E3)))
  clear T3 E3 C2
  go_wp2_with fail
  refine came_k 50 C3.out.2.2 C3.out.2.1 (by decide) (by decide) (by decide) HA.out.1 HA.out.2.2 fun al cl w4 g4 T4 L4 E4 => ?_
  have C4 := Lib.hid (And.intro (C3.out.1.turn T4 (by decide)) (And.intro (C3.out.2.1.turn T4 (by decide)) (And.intro E4 L4)))
  clear T4 L4 E4 C3
  go_wp2_with fail
  refine packets_k 40 41 C4.out.2.2.1 (by decide) (by decide) (by decide) (by decide) (by decide) (by decide) HA.out.2.1 fun ap cp w5 g5 T5 L5 E5 => ?_
  have C5 := Lib.hid (And.intro (C4.out.1.turn T5 (by decide)) (And.intro (C4.out.2.1.turn T5 (by decide)) (And.intro E5 (And.intro (C4.out.2.2.2.turn T5 (by decide) (by decide)) L5))))
  clear T5 L5 E5 C4 kc
  obtain ⟨rfl, rfl, rfl, rfl⟩ := form_out HO.out HA.out.1 HA.out.2.1 HA.out.2.2
  obtain ⟨bb, off, rfl, _, hcell⟩ := BytesIn.cells C5.out.2.1 (by omega)
  have k0 := hcell 0 (by omega)
  rw [Nat.add_zero] at k0
  have hb0 : b[0]?.getD 0 = b[0] := by rw [List.getElem?_eq_getElem (by omega)]; rfl
  rw [hb0] at hD hA
  have hD' : (b[0]).toNat ≠ 68 := fun h => hD (UInt8.toNat_inj.1 h)
  have hA' : ¬ ((b[0]).toNat = 65 ∧ b.length = 5) := fun h => hA ⟨UInt8.toNat_inj.1 h.1, h.2⟩
  clear hcell hb0 hD hA HO HA
  generalize (b[0]).toNat = x0 at *
  have j1 : (5 : Int) ≤ (b.length : Int) := by omega
  have j2 : (b.length : Int) ≤ 65541 := by omega
  have j3 : ((x0 : Int) == 68) = false := by simp; omega
  by_cases hA1 : x0 = 65
  · have j4 : (x0 : Int) = 65 := by omega
    have j5 : (5 : Int) < (b.length : Int) := by omega
    clear hA' hA1 hD' hb1 hb2 hl
    obtain ⟨bp, op, a0, c0, rfl, d0, e0⟩ := lists_one C5.out.2.2.2.2
    obtain ⟨bq, oq, rfl, _, hq⟩ := BytesIn.cells e0 (by decide)
    have d1 : w5.cell? ⟨bq, oq, none⟩ = some (.int .u8 68) := hq 0 (by decide)
    clear hq e0
    go_wp2_with fail
    refine waits_t C5.out.2.2.1 ?_
    go_wp2_with fail
    go_ret
    exact ⟨rfl, C5.out.1.below⟩
  · have j4 : ((x0 : Int) == 65) = false := by simp; omega
    clear hA' hD' hb1 hb2 hl
    by_cases h5 : b.length = 5
    · have j5 : (b.length : Int) = 5 := by omega
      clear h5 hA1
      obtain ⟨bp, op, a0, c0, rfl, d0, e0⟩ := lists_one C5.out.2.2.2.2
      obtain ⟨bq, oq, rfl, _, hq⟩ := BytesIn.cells e0 (by decide)
      have d1 : w5.cell? ⟨bq, oq, none⟩ = some (.int .u8 68) := hq 0 (by decide)
      clear hq e0
      go_wp2_with fail
      refine waits_t C5.out.2.2.1 ?_
      go_wp2_with fail
      go_ret
      exact ⟨rfl, C5.out.1.below⟩
    · have j5 : (5 : Int) < (b.length : Int) := by omega
      clear h5 hA1
      obtain ⟨bp, op, a0, c0, rfl, d0, e0⟩ := lists_one C5.out.2.2.2.2
      obtain ⟨bq, oq, rfl, _, hq⟩ := BytesIn.cells e0 (by decide)
      have d1 : w5.cell? ⟨bq, oq, none⟩ = some (.int .u8 68) := hq 0 (by decide)
      clear hq e0
      go_wp2_with fail
      refine waits_t C5.out.2.2.1 ?_
      go_wp2_with fail
      go_ret
      exact ⟨rfl, C5.out.1.below⟩

theorem X1_waits : ({ X1 with came := false } : Li.St).waits.length = 1 := by decide
end Go.Proofs.Ytoedalocfepkoaa
