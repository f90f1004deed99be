/- Trees: the reader: the deferred closure that catches the panic. -/
import Derived.Test.YtobpnjnfpgcpaaaGreatDoorPxFuncT
import Derived.Defers
import Derived.Recover
namespace Go.Proofs.YtobpnjnfpgcpaaaGreatDoor
open Go.RowKit Go.My Go.Nd

set_option maxRecDepth 100000 in
theorem catch_idle (a b : Addr) (w : World) :
    CallsD Tryz.prog 59 #[.pointer (some a), .pointer (some b)] .returning w fun e u' w' => e = .returned (.tuple #[]) ∧ u' = .returning ∧ w' = w := by
  refine callsD_of_wpS Tryz.func59 rfl fun c₀ cs hu => ?_
  apply wpS_seq
  apply wpS_region
  simp [wpOpsS, go_sem, recoverD, hu, Tryz.ntmps59, Exit.thenS]
  apply wpS_seq
  apply wpS_region
  simp [wpOpsS, go_sem, recoverD, hu, Exit.thenS]
  refine wpS_cond (t := false) (by simp [Act.eval]) ?_
  simp only [Bool.false_eq_true, if_false]
  refine wpS_of_wp (wp_skip ?_)
  cases c₀
  simp_all [bodyPostS, results, Tryz.results59]

set_option maxRecDepth 100000 in
theorem catch_wrong (a b : Nat) (w : World) {v0 v1 u : Value} (h : w.heap[a]? = some (.cells #[v0, v1] 25 (0, 0))) (h2 : w.heap[b]? = some (.cells #[u] 4 (0, 0))) (hne : a ≠ b) :
    CallsD Tryz.prog 59 #[.pointer (some ⟨a, 0, none⟩), .pointer (some ⟨b, 0, none⟩)] (.panicking wrongChain) w fun e u' w' =>
      e = .returned (.tuple #[]) ∧ u' = .panicking [{ v := .iface 93 (.agg #[]), recovered := true }] ∧ w' = ((w.setCell ⟨a, 0, none⟩ (.slice none 0 0)).setCell ⟨a, 1, none⟩ (.slice none 0 0)).setCell ⟨b, 0, none⟩ (.bool false) := by
  have c0 := cell_of_row w a 0 _ _ _ h
  have c1 := cell_of_row w a 1 _ _ _ h
  have f0 := frozen_of_row w a 0 _ _ h
  have f1 := frozen_of_row w a 1 _ _ h
  have d0 := cell_of_row w b 0 _ _ _ h2
  have g0 := frozen_of_row w b 0 _ _ h2
  simp at c0 c1 d0
  refine callsD_of_wpS Tryz.func59 rfl fun c₀ cs hu => ?_
  unfold wrongChain at hu
  apply wpS_seq
  apply wpS_region
  simp [wpOpsS, go_sem, recoverD, hu, Tryz.ntmps59, Exit.thenS]
  apply wpS_seq
  apply wpS_region
  simp [wpOpsS, go_sem, recoverD, Exit.thenS]
  refine wpS_cond (t := true) (by simp [Act.eval]) ?_
  simp only [if_true]
  apply wpS_seq
  apply wpS_region
  simp [wpOpsS, go_sem, Exit.thenS]
  apply wpS_region
  simp [wpOpsS, go_sem, c0, c1, f0, f1, d0, g0]
  simp [bodyPostS, results, Tryz.results59]
end Go.Proofs.YtobpnjnfpgcpaaaGreatDoor
