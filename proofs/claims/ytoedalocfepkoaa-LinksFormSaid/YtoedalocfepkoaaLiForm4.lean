/- Links: the walk of LinksForm, the message that is awaited. -/
import Derived.Test.YtoedalocfepkoaaLiForm3
import Derived.Test.YtoedalocfepkoaaLiFormG
import Derived.Test.YtoedalocfepkoaaSame
namespace Go.Proofs.Ytoedalocfepkoaa
open Go.RowKit Go.My

set_option maxRecDepth 100000 in
set_option maxHeartbeats 8000000 in
theorem form_first (w : World) (v : Value) (b : List UInt8) (hv : BytesIn w (fun b => b < w.heap.size) v b) (hb1 : 5 ≤ b.length) (hb2 : b.length ≤ 65541) (hD : b[0]?.getD 0 = 68) (hn : Li.num b = 0) :
    Calls Try.prog 7 #[v] w fun e w' => e = .returned (.bool true) ∧ Below w.heap.size w w' := by
  have HO := Lib.hid (And.intro hD hn)
  have hl : b.length ≤ 70000 := by omega
  have hno : ¬ (b.length < 5 ∨ 65541 < b.length) := by omega
  have HNO := Lib.hid hno
  clear hD hn hno
  obtain ⟨ao, cap, e0, hc1, hm, _, hz⟩ := hv.open_
  subst e0
  have h1 : (b.length : Int) ≤ 70000 := by omega
  have C0 := Lib.hid (And.intro (Since.start w) (show Bytes w (fun _ => 0) 0 (.slice ao b.length cap) b from BytesIn.mono hv (fun _ _ _ => rfl)))
  have kc := fun (w : World) (C : Array Value) (n c : Nat) => Lib.run_convert_bytes_const (P := Try.prog) w 22 5 C n c Try.underlying22 Try.underlying5
  obtain ⟨fs, en, s', hall⟩ : ∃ fs en s', Li.came X1 b = (fs, en, s') := ⟨_, _, _, rfl⟩
  obtain ⟨ps, hps⟩ : ∃ ps, Li.packets s' = ps := ⟨_, rfl⟩
  obtain ⟨ei, hei⟩ : ∃ ei : Int, (en : Int) = ei := ⟨_, rfl⟩
  have HA := Lib.hid (And.intro hall (And.intro hps hei))
  clear hv hz hall hps hei
  go_enter Try.func7, Try.ntmps7
  go_wp2_with fail
  refine alive_t _ (fun _ => 0) 9 fun w1 g1 T1 => ?_
  have C1 := Lib.hid (And.intro (C0.out.1.turn T1 (by decide)) (C0.out.2.turn T1 (by decide)))
  clear T1 C0
  go_wp2_with fail
  refine new_t w1 g1 10 fun ea w2 g2 T2 E2 => ?_
  have C2 := Lib.hid (And.intro (C1.out.1.turn T2 (by decide)) (And.intro (C1.out.2.turn T2 (by decide)) E2))
  clear T2 E2 C1
  go_wp2_with fail
  refine send_ok (C2.out.2.2.turn (Turn.alloc w2 g2 30 _) (by decide)) (lit_t g2 30 [120] rfl rfl (by decide) rfl _) (by decide) (by decide) (by decide) fun w3 g3 T3 E3 => ?_
  have C3 := Lib.hid (And.intro ((C2.out.1.turn (Turn.alloc w2 g2 30 _) (by decide)).turn T3 (by decide)) (And.intro ((C2.out.2.1.turn (Turn.alloc w2 g2 30 _) (by decide)).turn T3 (by decide)) (show EndIs w3 g3 10 ea X1 0 from E3)))
  clear T3 E3 C2
  go_wp2_with fail
  refine came_k 50 C3.out.2.2 C3.out.2.1 (by decide) (by decide) (by decide) HA.out.1 HA.out.2.2 fun al cl w4 g4 T4 L4 E4 => ?_
  have C4 := Lib.hid (And.intro (C3.out.1.turn T4 (by decide)) (And.intro (C3.out.2.1.turn T4 (by decide)) (And.intro E4 L4)))
  clear T4 L4 E4 C3
  go_wp2_with fail
  refine packets_k 40 41 C4.out.2.2.1 (by decide) (by decide) (by decide) (by decide) (by decide) (by decide) HA.out.2.1 fun ap cp w5 g5 T5 L5 E5 => ?_
  have C5 := Lib.hid (And.intro (C4.out.1.turn T5 (by decide)) (And.intro (C4.out.2.1.turn T5 (by decide)) (And.intro E5 (And.intro (C4.out.2.2.2.turn T5 (by decide) (by decide)) L5))))
  clear T5 L5 E5 C4 kc
  obtain ⟨rfl, hfd, _⟩ := form_data HO.out.1 HNO.out HA.out.1 HA.out.2.1 HA.out.2.2
  obtain ⟨rfl, rfl⟩ := hfd HO.out.2
  obtain ⟨bl, ol, al0, cl0, ebl, dl, el⟩ := lists_one C5.out.2.2.2.1
  cases ebl
  rw [List.length_drop] at dl el
  obtain ⟨bb, off, rfl, _, hcell⟩ := BytesIn.cells C5.out.2.1 (by omega)
  obtain ⟨ad5, hsl5, hs5, hs6⟩ := slice_lk (P := Try.prog) Try.underlying22 (by kernel_rfl) .i64 (some ⟨bb, off, none⟩) b.length cap 5 5 rfl hb1
  obtain ⟨a5, rfl⟩ : ∃ a5, ad5 = some a5 := by
    rcases Nat.lt_or_ge 5 cap with h | h
    · exact ⟨_, by rw [hs5 h, Option.map_some]⟩
    · exact ⟨_, hs6 (by omega)⟩
  have hpc := Bytes.cut C5.out.2.1 5 b.length (cap - 5) hb1 (Nat.le_refl _) (ad := a5) ⟨by omega, by omega⟩ (fun h => by have := hs5 (by omega); rw [Option.map_some, add_none] at this; exact Option.some.inj this)
  rw [List.take_of_length_le (by rw [List.length_drop]; exact Nat.le_refl _)] at hpc
  have HSB := Lib.hid (And.intro el hpc)
  clear hs5 hs6 hpc el
  have k0 := hcell 0 (by omega)
  have k1 := hcell 1 (by omega)
  have k2 := hcell 2 (by omega)
  have k3 := hcell 3 (by omega)
  have k4 := hcell 4 (by omega)
  rw [Nat.add_zero] at k0
  have e0 : b[0]?.getD 0 = b[0] := by rw [List.getElem?_eq_getElem (by omega)]; rfl
  have e1 : b[1]?.getD 0 = b[1] := by rw [List.getElem?_eq_getElem (by omega)]; rfl
  have e2 : b[2]?.getD 0 = b[2] := by rw [List.getElem?_eq_getElem (by omega)]; rfl
  have e3 : b[3]?.getD 0 = b[3] := by rw [List.getElem?_eq_getElem (by omega)]; rfl
  have e4 : b[4]?.getD 0 = b[4] := by rw [List.getElem?_eq_getElem (by omega)]; rfl
  have hn : Li.num b = (b[1]).toNat * 16777216 + (b[2]).toNat * 65536 + (b[3]).toNat * 256 + (b[4]).toNat := by unfold Li.num; rw [e1, e2, e3, e4]
  have hx0 : ((b[0]).toNat : Int) = 68 := by rw [← e0, HO.out.1]; rfl
  have hnn : (b[1]).toNat * 16777216 + (b[2]).toNat * 65536 + (b[3]).toNat * 256 + (b[4]).toNat = 0 := by rw [← hn]; exact HO.out.2
  clear hcell e0 e1 e2 e3 e4 HO HA hfd hn
  generalize (b[0]).toNat = x0 at *
  generalize (b[1]).toNat = x1 at *
  generalize (b[2]).toNat = x2 at *
  generalize (b[3]).toNat = x3 at *
  generalize (b[4]).toNat = x4 at *
  have j1 : (5 : Int) ≤ (b.length : Int) := by omega
  have j2 : (b.length : Int) ≤ 65541 := by omega
  have HNN := Lib.hid hnn
  clear hnn hl hb1 hb2 h1 hc1
  obtain ⟨bp, op, a0, c0, a1, c1, rfl, _, ⟨d1, e1⟩⟩ := lists_two C5.out.2.2.2.2
  obtain ⟨bq, oq, rfl, _, hq⟩ := BytesIn.cells e1 (by decide)
  have p0 := hq 0 (by decide)
  have p4 := hq 4 (by decide)
  rw [Nat.add_zero] at p0
  clear hq e1
  have z1 : (x1 : Int) = 0 := by have := HNN.out; omega
  have z2 : (x2 : Int) = 0 := by have := HNN.out; omega
  have z3 : (x3 : Int) = 0 := by have := HNN.out; omega
  have z4 : (x4 : Int) = 0 := by have := HNN.out; omega
  go_wp2_with fail
  all_goals
    go_quiet ((go_at_call 18; (refine (sameBytes_eq _ (fun b => g5 b = 13) (fun b => g5 b = 0) _ _ (b.drop 5) (bytes_drewN HSB.out.1 _) (bytes_drewN HSB.out.2 _)).mono ?_; rintro e w'' ⟨rfl, m, rfl⟩; refine ⟨rfl, ?_⟩; first | (rw [World.drewN_drewN]; exact ⟨_, rfl⟩) | exact ⟨_, rfl⟩ | (rw [World.drewN_drewN, Nat.add_assoc]; exact ⟨_, rfl⟩))))
    go_wp2_with fail
    go_ret
    exact ⟨rfl, C5.out.1.below.trans ((below_drewN' w5 _).mono C5.out.1.below.size)⟩

theorem form_any (w : World) (v : Value) (b : List UInt8) (hv : BytesIn w (fun b => b < w.heap.size) v b) :
    Calls Try.prog 7 #[v] w fun e w' => e = .returned (.bool true) ∧ Below w.heap.size w w' := by
  by_cases hl : b.length ≤ 70000
  · by_cases hb : b.length < 5 ∨ 65541 < b.length
    · exact form_size w v b hv hl hb
    · by_cases hD : b[0]?.getD 0 = 68
      · by_cases hn : Li.num b = 0
        · exact form_first w v b hv (by omega) (by omega) hD hn
        · exact form_msg w v b hv (by omega) (by omega) hD hn
      · by_cases hA : b[0]?.getD 0 = 65 ∧ b.length = 5
        · exact form_known w v b hv hA.2 hA.1
        · exact form_other w v b hv hl (by omega) (by omega) hD hA
  · exact form_great w v b hv (by omega)
end Go.Proofs.Ytoedalocfepkoaa
