/- Links: 'alive' answers true. -/
import Derived.Test.YtoedalocfepkoaaLiUse
namespace Go.Proofs.Ytoedalocfepkoaa
open Go.RowKit Go.My

def A2 : Li.St := sent (sent Li.fresh [104, 105]) [104, 111]
def A3 : Li.St := { A2 with came := false }
def P0 : List UInt8 := [68, 0, 0, 0, 0, 104, 105]
def P1 : List UInt8 := [68, 0, 0, 0, 1, 104, 111]
def B1 : Li.St := (Li.came Li.fresh P1).2.2
def B2 : Li.St := (Li.came B1 P0).2.2
def B3 : Li.St := (Li.came B2 P0).2.2
def B4 : Li.St := { B3 with came := false }
def A4 : Li.St := (Li.came A3 [65, 0, 0, 0, 1]).2.2
def A5 : Li.St := (Li.came A4 [65, 0, 0, 0, 3]).2.2
def A6 : Li.St := (Li.came A5 [65, 0, 0, 0, 2]).2.2
def A7 : Li.St := (Li.came A6 [88, 0, 0, 0, 0]).2.2

theorem came_split {s : Li.St} {b : List UInt8} {fs : List (List UInt8)} {en : Nat} (h1 : (Li.came s b).1 = fs) (h2 : (Li.came s b).2.1 = en) : Li.came s b = (fs, en, (Li.came s b).2.2) := by
  rw [← h1, ← h2]

theorem pA2 : Li.packets A2 = [P0, P1] := by decide
theorem cB1 : Li.came Li.fresh P1 = ([], 0, B1) := came_split (by decide) (by decide)
theorem cB2 : Li.came B1 P0 = ([[104, 105], [104, 111]], 0, B2) := came_split (by decide) (by decide)
theorem cB3 : Li.came B2 P0 = ([], 0, B3) := came_split (by decide) (by decide)
theorem pB3 : Li.packets B3 = [[65, 0, 0, 0, 2]] := by decide
theorem pB4 : Li.packets B4 = [] := by decide
theorem cA4 : Li.came A3 [65, 0, 0, 0, 1] = ([], 0, A4) := came_split (by decide) (by decide)
theorem cA5 : Li.came A4 [65, 0, 0, 0, 3] = ([], 0, A5) := came_split (by decide) (by decide)
theorem cA6 : Li.came A5 [65, 0, 0, 0, 2] = ([], 0, A6) := came_split (by decide) (by decide)
theorem cA7 : Li.came A6 [88, 0, 0, 0, 0] = ([], 4, A7) := came_split (by decide) (by decide)
theorem wA2 : A2.waits.length = 2 := by decide
theorem wA3 : A3.waits.length = 2 := by decide
theorem wA4 : A4.waits.length = 1 := by decide
theorem wA5 : A5.waits.length = 1 := by decide
theorem wA7 : A7.waits.length = 0 := by decide

theorem str {w : World} {g : Tags} {t : Nat} {v : Value} {l : List UInt8} (h : Bytes w g t v l) : (convert 22 9 v).run Try.prog w = .ok (.string ⟨l.toArray⟩) w :=
  string_of_bytes w Try.underlying22 Try.underlying5 Try.underlying9 h

set_option maxRecDepth 100000 in
set_option maxHeartbeats 8000000 in
theorem alive_t (w : World) (g : Tags) (t : Nat) {Q : Ending → World → Prop} (h : ∀ w' g', Turn w g w' g' [] → Q (.returned (.bool true)) w') : Calls Try.prog 13 #[] w Q := by
  have kc := fun (w : World) (C : Array Value) (n c : Nat) => Lib.run_convert_bytes_const (P := Try.prog) w 22 5 C n c Try.underlying22 Try.underlying5
  have H := Lib.hid h
  clear h
  go_enter Try.func13, Try.ntmps13
  go_wp2_with fail
  refine new_t w (fun _ => 0) 10 fun ea w1 g1 T1 E1 => ?_
  have C1 := Lib.hid (And.intro ((Since.start w).turn T1 (by decide)) E1)
  clear T1 E1
  go_wp2_with fail
  refine new_t w1 g1 20 fun eb w2 g2 T2 E2 => ?_
  have C2 := Lib.hid (And.intro (C1.out.1.turn T2 (by decide)) (And.intro (C1.out.2.turn T2 (by decide)) E2))
  clear T2 E2 C1
  go_wp2_with fail
  refine send_ok (C2.out.2.1.turn (Turn.alloc w2 g2 30 _) (by decide)) (lit_t g2 30 [104, 105] rfl rfl (by decide) rfl _) (by decide) (by decide) (by decide) fun w3 g3 T3 E3 => ?_
  have C3 := Lib.hid (And.intro ((C2.out.1.turn (Turn.alloc w2 g2 30 _) (by decide)).turn T3 (by decide)) (And.intro E3 ((C2.out.2.2.turn (Turn.alloc w2 g2 30 _) (by decide)).turn T3 (by decide))))
  clear T3 E3 C2
  go_wp2_with fail
  refine send_ok (C3.out.2.1.turn (Turn.alloc w3 g3 30 _) (by decide)) (lit_t g3 30 [104, 111] rfl rfl (by decide) rfl _) (by decide) (by decide) (by decide) fun w4 g4 T4 E4 => ?_
  have C4 := Lib.hid (And.intro ((C3.out.1.turn (Turn.alloc w3 g3 30 _) (by decide)).turn T4 (by decide)) (And.intro (show EndIs w4 g4 10 ea A2 0 from E4) ((C3.out.2.2.turn (Turn.alloc w3 g3 30 _) (by decide)).turn T4 (by decide))))
  clear T4 E4 C3
  go_wp2_with fail
  refine packets_k 40 41 C4.out.2.1 (by decide) (by decide) (by decide) (by decide) (by decide) (by decide) pA2 fun ap cp w5 g5 T5 L5 E5 => ?_
  have C5 := Lib.hid (And.intro (C4.out.1.turn T5 (by decide)) (And.intro (show EndIs w5 g5 10 ea A3 0 from E5) (And.intro (C4.out.2.2.turn T5 (by decide)) L5)))
  clear T5 L5 E5 C4
  obtain ⟨bp, op, a0, c0, a1, c1, rfl, ⟨d0, e0⟩, ⟨d1, e1⟩⟩ := lists_two C5.out.2.2.2
  have s0 := str e0
  have s1 := str e1
  have HB := Lib.hid (And.intro e0 e1)
  clear e0 e1
  go_wp2_with fail
  refine waits_t C5.out.2.1 ?_
  rw [wA3]
  go_wp2_with fail
  refine came_k 42 C5.out.2.2.1 HB.out.2 (by decide) (by decide) (by decide) cB1 rfl fun a6 c6 w6 g6 T6 L6 E6 => ?_
  have C6 := Lib.hid (And.intro (C5.out.1.turn T6 (by decide)) (And.intro (C5.out.2.1.turn T6 (by decide)) (And.intro E6 (C5.out.2.2.2.turn T6 (by decide) (by decide)))))
  clear T6 L6 E6 C5 d0 d1 s0 s1 HB
  obtain ⟨_, _, a0, c0, a1, c1, ep, ⟨d0, e0⟩, _⟩ := lists_two C6.out.2.2.2
  cases ep
  have HB := Lib.hid e0
  clear e0
  go_wp2_with fail
  refine came_k 43 C6.out.2.2.1 HB.out (by decide) (by decide) (by decide) cB2 rfl fun a7 c7 w7 g7 T7 L7 E7 => ?_
  have C7 := Lib.hid (And.intro (C6.out.1.turn T7 (by decide)) (And.intro (C6.out.2.1.turn T7 (by decide)) (And.intro E7 (And.intro (C6.out.2.2.2.turn T7 (by decide) (by decide)) L7))))
  clear T7 L7 E7 C6 d0 HB
  obtain ⟨_, _, a0, c0, a1, c1, ep, ⟨d0, e0⟩, _⟩ := lists_two C7.out.2.2.2.1
  cases ep
  have HB := Lib.hid e0
  clear e0
  go_wp2_with fail
  refine came_k 44 C7.out.2.2.1 HB.out (by decide) (by decide) (by decide) cB3 rfl fun a8 c8 w8 g8 T8 L8 E8 => ?_
  have C8 := Lib.hid (And.intro (C7.out.1.turn T8 (by decide)) (And.intro (C7.out.2.1.turn T8 (by decide)) (And.intro E8 (C7.out.2.2.2.2.turn T8 (by decide) (by decide)))))
  clear T8 L8 E8 C7 d0 HB
  go_wp2_with fail
  refine packets_k 45 46 C8.out.2.2.1 (by decide) (by decide) (by decide) (by decide) (by decide) (by decide) pB3 fun aq cq w9 g9 T9 L9 E9 => ?_
  have C9 := Lib.hid (And.intro (C8.out.1.turn T9 (by decide)) (And.intro (C8.out.2.1.turn T9 (by decide)) (And.intro (show EndIs w9 g9 20 eb B4 _ from E9) (And.intro (C8.out.2.2.2.turn T9 (by decide) (by decide)) L9))))
  clear T9 L9 E9 C8
  go_wp2_with fail
  refine packets_k 47 48 C9.out.2.2.1 (by decide) (by decide) (by decide) (by decide) (by decide) (by decide) pB4 fun ar cr w10 g10 T10 L10 E10 => ?_
  have C10 := Lib.hid (And.intro (C9.out.1.turn T10 (by decide)) (And.intro (C9.out.2.1.turn T10 (by decide)) (And.intro (C9.out.2.2.2.1.turn T10 (by decide) (by decide)) (C9.out.2.2.2.2.turn T10 (by decide) (by decide)))))
  clear T10 L10 E10 C9
  obtain ⟨by_, oy, a0, c0, a1, c1, rfl, ⟨d0, e0⟩, ⟨d1, e1⟩⟩ := lists_two C10.out.2.2.1
  obtain ⟨bq, oq, a2, c2, rfl, d2, e2⟩ := lists_one C10.out.2.2.2
  have s0 := str (show Bytes w10 g10 23 (.slice a0 2 c0) [104, 105] from e0)
  have s1 := str (show Bytes w10 g10 23 (.slice a1 2 c1) [104, 111] from e1)
  have s2 := str (show Bytes w10 g10 46 (.slice a2 5 c2) [65, 0, 0, 0, 2] from e2)
  clear e0 e1 e2
  go_wp2_with fail
  refine came_k 49 (C10.out.2.1.turn (Turn.alloc w10 g10 30 _) (by decide)) (lit_t g10 30 [65, 0, 0, 0, 1] rfl rfl (by decide) rfl _) (by decide) (by decide) (by decide) cA4 rfl fun a11 c11 w11 g11 T11 L11 E11 => ?_
  have C11 := Lib.hid (And.intro ((C10.out.1.turn (Turn.alloc w10 g10 30 _) (by decide)).turn T11 (by decide)) (And.intro E11 ((C10.out.2.2.2.turn (Turn.alloc w10 g10 30 _) (by decide) (by decide)).turn T11 (by decide) (by decide))))
  clear T11 L11 E11 C10 d0 d1 d2 s0 s1 s2
  go_wp2_with fail
  refine waits_t C11.out.2.1 ?_
  rw [wA4]
  go_wp2_with fail
  refine came_k 49 (C11.out.2.1.turn (Turn.alloc w11 g11 30 _) (by decide)) (lit_t g11 30 [65, 0, 0, 0, 3] rfl rfl (by decide) rfl _) (by decide) (by decide) (by decide) cA5 rfl fun a12 c12 w12 g12 T12 L12 E12 => ?_
  have C12 := Lib.hid (And.intro ((C11.out.1.turn (Turn.alloc w11 g11 30 _) (by decide)).turn T12 (by decide)) (And.intro E12 ((C11.out.2.2.turn (Turn.alloc w11 g11 30 _) (by decide) (by decide)).turn T12 (by decide) (by decide))))
  clear T12 L12 E12 C11
  go_wp2_with fail
  refine waits_t C12.out.2.1 ?_
  rw [wA5]
  obtain ⟨_, _, a2, c2, eq, d2, e2⟩ := lists_one C12.out.2.2
  cases eq
  have HB := Lib.hid e2
  clear e2
  go_wp2_with fail
  refine came_k 49 C12.out.2.1 HB.out (by decide) (by decide) (by decide) cA6 rfl fun a13 c13 w13 g13 T13 L13 E13 => ?_
  have C13 := Lib.hid (And.intro (C12.out.1.turn T13 (by decide)) E13)
  clear T13 L13 E13 C12 d2 HB
  go_wp2_with fail
  refine came_k 49 (C13.out.2.turn (Turn.alloc w13 g13 30 _) (by decide)) (lit_t g13 30 [88, 0, 0, 0, 0] rfl rfl (by decide) rfl _) (by decide) (by decide) (by decide) cA7 rfl fun a14 c14 w14 g14 T14 L14 E14 => ?_
  have C14 := Lib.hid (And.intro ((C13.out.1.turn (Turn.alloc w13 g13 30 _) (by decide)).turn T14 (by decide)) E14)
  clear T14 L14 E14 C13
  go_wp2_with fail
  refine waits_t C14.out.2 ?_
  rw [wA7]
  go_wp2_with fail
  exact H.out _ _ (Turn.of_below C14.out.1.below g t)
end Go.Proofs.Ytoedalocfepkoaa
