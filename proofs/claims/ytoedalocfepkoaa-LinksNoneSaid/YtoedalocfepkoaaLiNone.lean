/- Links: an end that is not there, or that no call made, answers nothing: the walk of LinksNone. -/
import Derived.Test.YtoedalocfepkoaaLiEnd
namespace Go.Proofs.Ytoedalocfepkoaa
open Go.RowKit Go.My

theorem thereNil (w : World) : Calls Try.prog 19 #[.pointer none] w fun e w' => e = .returned (.bool false) ∧ w' = w := by
  go_enter Try.func19, Try.ntmps19
  go_wp2
  go_ret
  exact ⟨rfl, rfl⟩
theorem thereZero (w : World) (b : Nat) (h : w.cell? ⟨b, 3, none⟩ = some (.map none)) : Calls Try.prog 19 #[.pointer (some ⟨b, 0, none⟩)] w fun e w' => e = .returned (.bool false) ∧ w' = w := by
  have hm := fun wx => neqMap wx none
  go_enter Try.func19, Try.ntmps19
  go_wp2
  go_ret
  exact ⟨rfl, rfl⟩

/-- An end that is not there, or that no call made. -/
def NoEnd (w : World) (p : Option Addr) : Prop := p = none ∨ ∃ b, p = some ⟨b, 0, none⟩ ∧ w.cell? ⟨b, 3, none⟩ = some (.map none)

theorem there_no {w : World} {p : Option Addr} (h : NoEnd w p) : Calls Try.prog 19 #[.pointer p] w fun e w' => e = .returned (.bool false) ∧ w' = w := by
  rcases h with rfl | ⟨b, rfl, h⟩
  · exact thereNil w
  · exact thereZero w b h

theorem came_no {w : World} {p : Option Addr} (h : NoEnd w p) (v : Value) : Calls Try.prog 9 #[.pointer p, v] w fun e w' => e = .returned (.tuple #[.slice none 0 0, .int .i64 2]) ∧ w' = w := by
  have H := Lib.hid h
  clear h
  go_enter Try.func9, Try.ntmps9
  go_wp2_with fail
  refine (there_no H.out).mono ?_
  rintro e w' ⟨rfl, rfl⟩
  go_wp2_with fail
  go_ret2
  exact ⟨rfl, rfl⟩

theorem send_no {w : World} {p : Option Addr} (h : NoEnd w p) (v : Value) : Calls Try.prog 10 #[.pointer p, v] w fun e w' => e = .returned (.int .i64 2) ∧ w' = w := by
  have H := Lib.hid h
  clear h
  go_enter Try.func10, Try.ntmps10
  go_wp2_with fail
  refine (there_no H.out).mono ?_
  rintro e w' ⟨rfl, rfl⟩
  go_wp2_with fail
  go_ret
  exact ⟨rfl, rfl⟩

theorem NoEnd.alloc {w : World} {p : Option Addr} (h : NoEnd w p) (o : Obj) : NoEnd (w.alloc o) p := by
  rcases h with rfl | ⟨b, rfl, h⟩
  · exact .inl rfl
  · exact .inr ⟨b, rfl, (World.cell?_of_block (Below.heap_alloc w o b (World.block_lt_of_cell? w _ h))).trans h⟩

theorem packets_no {w : World} {p : Option Addr} (h : NoEnd w p) : Calls Try.prog 11 #[.pointer p] w fun e w' => e = .returned (.slice none 0 0) ∧ w' = w.alloc (.cells #[.slice none 0 0] 24) := by
  have H := Lib.hid (h.alloc (.cells #[.slice none 0 0] 24))
  clear h
  go_enter Try.func11, Try.ntmps11
  go_wp2_with fail
  refine (there_no H.out).mono ?_
  rintro e w' ⟨rfl, rfl⟩
  go_wp2_with fail
  exact bodyPost_ret (v := .slice none 0 0) (by simp [results, Try.results11, go_sem]) rfl ⟨rfl, rfl⟩

theorem waits_none (w : World) : Calls Try.prog 12 #[.pointer none] w fun e w' => e = .returned (.int .i64 0) ∧ w' = w := by
  go_enter Try.func12, Try.ntmps12
  go_wp2
  go_ret
  exact ⟨rfl, rfl⟩
theorem waits_zero (w : World) (b : Nat) (h : w.cell? ⟨b, 0, none⟩ = some (.slice none 0 0)) : Calls Try.prog 12 #[.pointer (some ⟨b, 0, none⟩)] w fun e w' => e = .returned (.int .i64 0) ∧ w' = w := by
  go_enter Try.func12, Try.ntmps12
  go_wp2
  go_ret
  exact ⟨rfl, rfl⟩

set_option maxHeartbeats 2000000 in
theorem none_any (w : World) (v : Value) : Calls Try.prog 3 #[v] w fun e w' => e = .returned (.bool true) ∧ Below w.heap.size w w' := by
  go_enter Try.func3, Try.ntmps3
  go_wp2_with fail
  refine wp_loop_rounds 3 ?_
  rw [rounds_succ]
  go_wp2_with fail
  refine (came_no (.inl rfl) _).mono ?_
  rintro e w' ⟨rfl, rfl⟩
  go_wp2_with fail
  refine (send_no (.inl rfl) _).mono ?_
  rintro e w' ⟨rfl, rfl⟩
  go_wp2_with fail
  refine (packets_no (.inl rfl)).mono ?_
  rintro e w' ⟨rfl, rfl⟩
  go_wp2_with fail
  refine (waits_none _).mono ?_
  rintro e w' ⟨rfl, rfl⟩
  go_wp2_with fail
  rw [rounds_succ]
  go_wp2_with fail
  refine (came_no (.inr ⟨_, rfl, by simp [go_sem]⟩) _).mono ?_
  rintro e w' ⟨rfl, rfl⟩
  go_wp2_with fail
  refine (send_no (.inr ⟨_, rfl, by simp [go_sem]⟩) _).mono ?_
  rintro e w' ⟨rfl, rfl⟩
  go_wp2_with fail
  refine (packets_no (.inr ⟨_, rfl, by simp [go_sem]⟩)).mono ?_
  rintro e w' ⟨rfl, rfl⟩
  go_wp2_with fail
  refine (waits_zero _ _ (by simp [go_sem])).mono ?_
  rintro e w' ⟨rfl, rfl⟩
  go_wp2_with fail
  rw [rounds_succ]
  go_wp2_with fail
  go_ret
  exact ⟨rfl, ((((Below.refl _ _).alloc (Nat.le_refl _) _).alloc (by simp) _).alloc (by simp; omega) _).alloc (by simp; omega) _⟩
end Go.Proofs.Ytoedalocfepkoaa
