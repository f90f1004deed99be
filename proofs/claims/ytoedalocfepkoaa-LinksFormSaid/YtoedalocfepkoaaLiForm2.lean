/- Links: the walk of LinksForm, what is known to have come. -/
import Derived.Test.YtoedalocfepkoaaLiForm
namespace Go.Proofs.Ytoedalocfepkoaa
open Go.RowKit Go.My

theorem form_ack {b : List UInt8} (h0 : b[0]?.getD 0 = 65) (h5 : b.length = 5) {fs : List (List UInt8)} {en : Nat} {s' : Li.St} {ps : List (List UInt8)} {e : Int} (hall : Li.came X1 b = (fs, en, s')) (hp : Li.packets s' = ps) (he : (en : Int) = e) :
    fs = [] ∧ e = 0 ∧ (({ s' with came := false } : Li.St)).waits.length = (if Li.num b = 1 then 0 else 1) ∧ ps.length = (if Li.num b = 1 then 0 else 1) := by
  have hc : Li.came X1 b = ([], 0, Li.known X1 (Li.num b)) := by
    unfold Li.came; rw [if_neg (by omega), if_neg (by rw [h0]; decide), if_pos ⟨h0, h5⟩]
  rw [hc] at hall
  cases hall
  have hl := Li.num_lt b
  generalize Li.num b = n at *
  refine ⟨rfl, he.symm, ?_⟩
  have hf : Li.far n X1.first = n := by show Li.far n 0 = n; unfold Li.far Li.M at *; omega
  rw [← hp]
  unfold Li.known
  rw [hf]
  by_cases h1 : n = 1
  · subst h1; exact ⟨by decide, by decide⟩
  · by_cases h2 : n = 0
    · subst h2; exact ⟨by decide, by decide⟩
    · rw [if_neg (by show ¬ n ≤ 1; omega), if_neg h1]; exact ⟨by decide, by decide⟩

set_option maxRecDepth 100000 in
theorem or4 (x1 x2 x3 x4 : Nat) (h1 : x1 < 256) (h2 : x2 < 256) (h3 : x3 < 256) (h4 : x4 < 256) :
    bits BinOp.or IntKind.u32 (bits BinOp.or IntKind.u32 (bits BinOp.or IntKind.u32 ((x1 : Int) * 16777216) ((x2 : Int) * 65536)) ((x3 : Int) * 256)) (x4 : Int) = ((x1 * 16777216 + x2 * 65536 + x3 * 256 + x4 : Nat) : Int) := by
  have z1 : (2 : Nat) ^ 24 = 16777216 := by decide
  have z2 : (2 : Nat) ^ 16 = 65536 := by decide
  have z3 : (2 : Nat) ^ 8 = 256 := by decide
  have q1 : x1 * 2 ^ 24 = x1 * 16777216 := congrArg (x1 * ·) z1
  have q2 : (x1 * 256 + x2) * 2 ^ 16 = x1 * 16777216 + x2 * 65536 := by
    have h : (x1 * 256 + x2) * 65536 = x1 * 16777216 + x2 * 65536 := by clear z1 z2 z3 q1; omega
    exact (congrArg ((x1 * 256 + x2) * ·) z2).trans h
  have q3 : (x1 * 65536 + x2 * 256 + x3) * 2 ^ 8 = x1 * 16777216 + x2 * 65536 + x3 * 256 := by
    have h : (x1 * 65536 + x2 * 256 + x3) * 256 = x1 * 16777216 + x2 * 65536 + x3 * 256 := by clear z1 z2 z3 q1 q2; omega
    exact (congrArg ((x1 * 65536 + x2 * 256 + x3) * ·) z3).trans h
  have s1 : (x1 : Int) * 16777216 = ((x1 * 16777216 : Nat) : Int) := by omega
  have s2 : (x2 : Int) * 65536 = ((x2 * 65536 : Nat) : Int) := by omega
  have s3 : (x3 : Int) * 256 = ((x3 * 256 : Nat) : Int) := by omega
  have p1 := Nat.shiftLeft_add_eq_or_of_lt (i := 24) (b := x2 * 65536) (by omega) x1
  have p2 := Nat.shiftLeft_add_eq_or_of_lt (i := 16) (b := x3 * 256) (by omega) (x1 * 256 + x2)
  have p3 := Nat.shiftLeft_add_eq_or_of_lt (i := 8) (b := x4) (by omega) (x1 * 65536 + x2 * 256 + x3)
  rw [Nat.shiftLeft_eq] at p1 p2 p3
  rw [q1] at p1
  rw [q2] at p2
  rw [q3] at p3
  rw [s1, s2, s3, u32_or_nat _ _ (by omega) (by omega), ← p1, u32_or_nat _ _ (by omega) (by omega), ← p2, u32_or_nat _ _ (by omega) (by omega), ← p3]

set_option maxRecDepth 100000 in
set_option maxHeartbeats 8000000 in
theorem form_known (w : World) (v : Value) (b : List UInt8) (hv : BytesIn w (fun b => b < w.heap.size) v b) (hb5 : b.length = 5) (hA : b[0]?.getD 0 = 65) :
    Calls Try.prog 7 #[v] w fun e w' => e = .returned (.bool true) ∧ Below w.heap.size w w' := by
  have HO := Lib.hid (And.intro hA hb5)
  have hl : b.length ≤ 70000 := by omega
  have hb6 : 5 ≤ b.length := by omega
  clear hA hb5
  obtain ⟨ao, cap, e0, hc1, hm, _, hz⟩ := hv.open_
  subst e0
  have h1 : (b.length : Int) ≤ 70000 := by omega
  have C0 := Lib.hid (And.intro (Since.start w) (show Bytes w (fun _ => 0) 0 (.slice ao b.length cap) b from BytesIn.mono hv (fun _ _ _ => rfl)))
  have kc := fun (w : World) (C : Array Value) (n c : Nat) => Lib.run_convert_bytes_const (P := Try.prog) w 22 5 C n c Try.underlying22 Try.underlying5
  obtain ⟨fs, en, s', hall⟩ : ∃ fs en s', Li.came X1 b = (fs, en, s') := ⟨_, _, _, rfl⟩
  obtain ⟨ps, hps⟩ : ∃ ps, Li.packets s' = ps := ⟨_, rfl⟩
  obtain ⟨ei, hei⟩ : ∃ ei : Int, (en : Int) = ei := ⟨_, rfl⟩
  have HA := Lib.hid (And.intro hall (And.intro hps hei))
  clear hv hz hall hps hei
  go_enter Try.func7, Try.ntmps7
  go_wp2_with fail
  refine alive_t _ (fun _ => 0) 9 fun w1 g1 T1 => ?_
  have C1 := Lib.hid (And.intro (C0.out.1.turn T1 (by decide)) (C0.out.2.turn T1 (by decide)))
  clear T1 C0
  go_wp2_with fail
  refine new_t w1 g1 10 fun ea w2 g2 T2 E2 => ?_
  have C2 := Lib.hid (And.intro (C1.out.1.turn T2 (by decide)) (And.intro (C1.out.2.turn T2 (by decide)) E2))
  clear T2 E2 C1
  go_wp2_with fail
  refine send_ok (C2.out.2.2.turn (Turn.alloc w2 g2 30 _) (by decide)) (lit_t g2 30 [120] rfl rfl (by decide) rfl _) (by decide) (by decide) (by decide) fun w3 g3 T3 E3 => ?_
  have C3 := Lib.hid (And.intro ((C2.out.1.turn (Turn.alloc w2 g2 30 _) (by decide)).turn T3 (by decide)) (And.intro ((C2.out.2.1.turn (Turn.alloc w2 g2 30 _) (by decide)).turn T3 (by decide)) (show EndIs w3 g3 10 ea X1 0 from E3)))
  clear T3 E3 C2
  go_wp2_with fail
  refine came_k 50 C3.out.2.2 C3.out.2.1 (by decide) (by decide) (by decide) HA.out.1 HA.out.2.2 fun al cl w4 g4 T4 L4 E4 => ?_
  have C4 := Lib.hid (And.intro (C3.out.1.turn T4 (by decide)) (And.intro (C3.out.2.1.turn T4 (by decide)) (And.intro E4 L4)))
  clear T4 L4 E4 C3
  go_wp2_with fail
  refine packets_k 40 41 C4.out.2.2.1 (by decide) (by decide) (by decide) (by decide) (by decide) (by decide) HA.out.2.1 fun ap cp w5 g5 T5 L5 E5 => ?_
  have C5 := Lib.hid (And.intro (C4.out.1.turn T5 (by decide)) (And.intro (C4.out.2.1.turn T5 (by decide)) (And.intro E5 (And.intro (C4.out.2.2.2.turn T5 (by decide) (by decide)) L5))))
  clear T5 L5 E5 C4 kc
  obtain ⟨rfl, rfl, hw, hpl⟩ := form_ack HO.out.1 HO.out.2 HA.out.1 HA.out.2.1 HA.out.2.2
  obtain ⟨bb, off, rfl, _, hcell⟩ := BytesIn.cells C5.out.2.1 (by omega)
  have k0 := hcell 0 (by omega)
  have k1 := hcell 1 (by omega)
  have k2 := hcell 2 (by omega)
  have k3 := hcell 3 (by omega)
  have k4 := hcell 4 (by omega)
  rw [Nat.add_zero] at k0
  have e0 : b[0]?.getD 0 = b[0] := by rw [List.getElem?_eq_getElem (by omega)]; rfl
  have e1 : b[1]?.getD 0 = b[1] := by rw [List.getElem?_eq_getElem (by omega)]; rfl
  have e2 : b[2]?.getD 0 = b[2] := by rw [List.getElem?_eq_getElem (by omega)]; rfl
  have e3 : b[3]?.getD 0 = b[3] := by rw [List.getElem?_eq_getElem (by omega)]; rfl
  have e4 : b[4]?.getD 0 = b[4] := by rw [List.getElem?_eq_getElem (by omega)]; rfl
  have hn : Li.num b = (b[1]).toNat * 16777216 + (b[2]).toNat * 65536 + (b[3]).toNat * 256 + (b[4]).toNat := by unfold Li.num; rw [e1, e2, e3, e4]
  have hx0 : ((b[0]).toNat : Int) = 65 := by rw [← e0, HO.out.1]; rfl
  have l1 := (b[1]).toNat_lt
  have l2 := (b[2]).toNat_lt
  have l3 := (b[3]).toNat_lt
  have l4 := (b[4]).toNat_lt
  have j1 : (b.length : Int) = 5 := by have := HO.out.2; omega
  clear hcell e0 e1 e2 e3 e4 HO HA
  generalize (b[0]).toNat = x0 at *
  generalize (b[1]).toNat = x1 at *
  generalize (b[2]).toNat = x2 at *
  generalize (b[3]).toNat = x3 at *
  generalize (b[4]).toNat = x4 at *
  obtain ⟨n, hn2⟩ : ∃ n, n = Li.num b := ⟨_, rfl⟩
  rw [← hn2] at hn hw hpl
  have HW := Lib.hid (And.intro hw (And.intro hpl hn))
  clear hn2 hw hpl hn h1 hc1 hl hb6
  have hor := or4 x1 x2 x3 x4 l1 l2 l3 l4
  rw [← HW.out.2.2] at hor
  have HOR := Lib.hid hor
  clear hor
  by_cases hn1 : n = 1
  · have hp0 : (ps.length : Int) = 0 := by have := HW.out.2.1; rw [if_pos hn1] at this; omega
    have hw0 := Lib.hid (show ({ s' with came := false } : Li.St).waits.length = 0 by rw [HW.out.1, if_pos hn1])
    subst hn1
    go_wp2_with fail
    go_quiet (fail)
    rw [HOR.out]
    clear l1 l2 l3 l4 k0 k1 k2 k3 k4
    go_wp2_with fail
    refine waits_t (C5.out.2.2.1.turn (Turn.drewN w5 g5 _) (by decide)) ?_
    rw [hw0.out]
    go_wp2_with fail
    refine waits_t (C5.out.2.2.1.turn (Turn.drewN w5 g5 _) (by decide)) ?_
    rw [hw0.out]
    go_wp2_with fail
    go_ret
    exact ⟨rfl, C5.out.1.below.trans ((below_drewN' w5 _).mono C5.out.1.below.size)⟩
  · have hp0 : (ps.length : Int) = 1 := by have := HW.out.2.1; rw [if_neg hn1] at this; omega
    have hw0 := Lib.hid (show ({ s' with came := false } : Li.St).waits.length = 1 by rw [HW.out.1, if_neg hn1])
    have hn2 : ((n : Int) == 1) = false := by simp; omega
    clear hn1
    go_wp2_with fail
    go_quiet (fail)
    rw [HOR.out]
    clear l1 l2 l3 l4 k0 k1 k2 k3 k4
    go_wp2_with fail
    refine waits_t (C5.out.2.2.1.turn (Turn.drewN w5 g5 _) (by decide)) ?_
    rw [hw0.out]
    go_wp2_with fail
    refine waits_t (C5.out.2.2.1.turn (Turn.drewN w5 g5 _) (by decide)) ?_
    rw [hw0.out]
    go_wp2_with fail
    go_ret
    exact ⟨rfl, C5.out.1.below.trans ((below_drewN' w5 _).mono C5.out.1.below.size)⟩
end Go.Proofs.Ytoedalocfepkoaa
