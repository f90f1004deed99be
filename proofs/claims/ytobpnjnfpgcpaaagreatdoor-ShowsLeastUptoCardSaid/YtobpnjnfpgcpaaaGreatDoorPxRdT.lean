/- Trees: the reader of tokens: what it is in memory, and its small functions. -/
import Derived.Test.YtobpnjnfpgcpaaaGreatDoorPxMem2T
import Derived.Test.YtobpnjnfpgcpaaaGreatDoorTrA3
import Derived.Test.YtobpnjnfpgcpaaaGreatDoorTrA4
import Derived.Test.YtobpnjnfpgcpaaaGreatDoorRows
namespace Go.Proofs.YtobpnjnfpgcpaaaGreatDoor
open Go.RowKit Go.My Go.Nd

/-- v reads as the tokens xs. -/
def TokIn (w : World) (S : Nat → Prop) (v : Value) (xs : List To.T) : Prop :=
  ∃ ao cap, v = .slice ao xs.length cap ∧ xs.length ≤ cap ∧ cap ≤ maxLen ∧
    (0 < xs.length → ∃ b off, ao = some ⟨b, off, none⟩ ∧ S b ∧ b < w.heap.size ∧ ∀ j (hj : j < xs.length),
      w.cell? ⟨b, off + j * 3, none⟩ = some (.int .u8 ((xs[j]).kind : Int)) ∧ w.cell? ⟨b, off + j * 3 + 1, none⟩ = some (.string (bs (xs[j]).text)) ∧ w.cell? ⟨b, off + j * 3 + 2, none⟩ = some (.int .i64 ((xs[j]).pos : Int)))
theorem TokIn.frame {w w' : World} {S : Nat → Prop} {v : Value} {xs : List To.T} (h : TokIn w S v xs) (hz : w.heap.size ≤ w'.heap.size) (hs : ∀ b, S b → b < w.heap.size → w'.heap[b]? = w.heap[b]?) : TokIn w' S v xs := by
  obtain ⟨ao, cap, h1, h2, h3, h4⟩ := h
  refine ⟨ao, cap, h1, h2, h3, fun hl => ?_⟩
  obtain ⟨b, off, e, hS, hlt, hc⟩ := h4 hl
  have q : ∀ o, w'.cell? ⟨b, o, none⟩ = w.cell? ⟨b, o, none⟩ := fun o => World.cell?_of_block (hs b hS hlt)
  exact ⟨b, off, e, hS, Nat.lt_of_lt_of_le hlt hz, fun j hj => ⟨(q _).trans (hc j hj).1, (q _).trans (hc j hj).2.1, (q _).trans (hc j hj).2.2⟩⟩

/-- The reader at block rb: of the tokens xs those of ts are left; inn: it is in a function. -/
structure Rd (w : World) (rb : Nat) (tv : Value) (xs : List To.T) (ts : List Tx) (inn : Bool) : Prop where
  row : w.heap[rb]? = some (.cells #[tv, .int .i64 ((xs.length - ts.length : Nat) : Int), .bool inn] 66 (0, 0))
  suf : ts <:+ xs.map (·.text)
  toks : TokIn w (· < rb) tv xs
  len : xs.length ≤ 65536
  short : ∀ x ∈ xs, x.text.length ≤ 65536

theorem Rd.lt {w : World} {rb : Nat} {tv : Value} {xs : List To.T} {ts : List Tx} {inn : Bool} (h : Rd w rb tv xs ts inn) : rb < w.heap.size := (Array.getElem?_eq_some_iff.1 h.row).1
theorem Rd.le {w : World} {rb : Nat} {tv : Value} {xs : List To.T} {ts : List Tx} {inn : Bool} (h : Rd w rb tv xs ts inn) : ts.length ≤ xs.length := by have := h.suf.length_le; simpa using this
theorem Rd.later {w w' : World} {rb : Nat} {tv : Value} {xs : List To.T} {ts : List Tx} {inn : Bool} (h : Rd w rb tv xs ts inn) (hb : Below w.heap.size w w') : Rd w' rb tv xs ts inn :=
  ⟨(hb.block rb h.lt).trans h.row, h.suf, h.toks.frame hb.size fun b _ hlt => hb.block b hlt, h.len, h.short⟩
theorem Rd.cell {w : World} {rb : Nat} {tv : Value} {xs : List To.T} {ts : List Tx} {inn : Bool} (h : Rd w rb tv xs ts inn) :
    w.cell? ⟨rb, 0, none⟩ = some tv ∧ w.cell? ⟨rb, 1, none⟩ = some (.int .i64 ((xs.length - ts.length : Nat) : Int)) ∧ w.cell? ⟨rb, 2, none⟩ = some (.bool inn) ∧ w.frozen? ⟨rb, 1, none⟩ = false ∧ w.frozen? ⟨rb, 2, none⟩ = false :=
  ⟨cell_of_row w rb 0 _ _ _ h.row, cell_of_row w rb 1 _ _ _ h.row, cell_of_row w rb 2 _ _ _ h.row, frozen_of_row w rb 1 _ _ h.row, frozen_of_row w rb 2 _ _ h.row⟩

/-- What is behind the reader counts for nothing. -/
theorem Rd.keep {w w' : World} {rb : Nat} {tv : Value} {xs : List To.T} {ts : List Tx} {inn : Bool} (h : Rd w rb tv xs ts inn) (hz : w.heap.size ≤ w'.heap.size) (hk : ∀ k, k ≤ rb → w'.heap[k]? = w.heap[k]?) : Rd w' rb tv xs ts inn :=
  ⟨(hk rb (Nat.le_refl _)).trans h.row, h.suf, h.toks.frame hz fun b hb _ => hk b (Nat.le_of_lt hb), h.len, h.short⟩

theorem suffix_at {α : Type} {ts us : List α} (h : ts <:+ us) (k : Nat) (hk : k < ts.length) : us[us.length - ts.length + k]? = some ts[k] := by
  obtain ⟨p, rfl⟩ := h
  rw [List.length_append, Nat.add_sub_cancel, List.getElem?_append_right (by omega), Nat.add_sub_cancel_left, List.getElem?_eq_getElem hk]

/-- The token so much further. -/
theorem Rd.token {w : World} {rb : Nat} {tv : Value} {xs : List To.T} {ts : List Tx} {inn : Bool} (h : Rd w rb tv xs ts inn) (k : Nat) (hk : k < ts.length) :
    ∃ b off cap a c, tv = .slice (some ⟨b, off, none⟩) xs.length cap ∧ b ≠ rb ∧ w.cell? ⟨b, off + (xs.length - ts.length + k) * 3, none⟩ = some a ∧ w.cell? ⟨b, off + (xs.length - ts.length + k) * 3 + 1, none⟩ = some (.string (bs ts[k])) ∧ w.cell? ⟨b, off + (xs.length - ts.length + k) * 3 + 2, none⟩ = some c ∧
      (∃ i, a = .int .u8 i) ∧ (∃ i, c = .int .i64 i) ∧ ts[k].length ≤ 65536 := by
  obtain ⟨ao, cap, rfl, h1, h2, h3⟩ := h.toks
  have hle := h.le
  obtain ⟨b, off, rfl, hne, _, hc⟩ := h3 (by omega)
  have hj : xs.length - ts.length + k < xs.length := by omega
  obtain ⟨c0, c1, c2⟩ := hc _ hj
  have := suffix_at h.suf k hk
  rw [List.length_map, List.getElem?_map, List.getElem?_eq_getElem hj] at this
  have e : (xs[xs.length - ts.length + k]).text = ts[k] := by simpa using this
  rw [e] at c1
  exact ⟨b, off, cap, _, _, rfl, Nat.ne_of_lt hne, c0, c1, c2, ⟨_, rfl⟩, ⟨_, rfl⟩, by rw [← e]; exact h.short _ (List.getElem_mem hj)⟩

theorem tokVar (w : World) (c : Nat) (v0 v1 v2 : Value) (c0 : w.cell? ⟨c, 0, none⟩ = some v0) (c1 : w.cell? ⟨c, 1, none⟩ = some v1) (c2 : w.cell? ⟨c, 2, none⟩ = some v2) : (loadVar 70 ⟨c, 0, none⟩).run Tryz.prog w = .ok (.agg #[v0, v1, v2]) w := by
  simp [loadVar, go_sem, c0, c1, c2]

set_option maxRecDepth 100000 in
set_option maxHeartbeats 2000000 in
theorem look_t {w : World} {rb : Nat} {tv : Value} {xs : List To.T} {ts : List Tx} {inn : Bool} (h : Rd w rb tv xs ts inn) (k : Nat) (hk : k ≤ 1) {Q : Ending → World → Prop} (hQ : ∀ (i j : Int) w', Below w.heap.size w w' → Q (.returned (.agg #[.int .u8 i, .string (bs (ts.getD k [])), .int .i64 j])) w') :
    Calls Tryz.prog 91 #[.pointer (some ⟨rb, 0, none⟩), .int .i64 (k : Int)] w Q := by
  have H := Lib.hid hQ
  have hle := h.le
  have hlen := h.len
  obtain ⟨hA, hnew, _⟩ := Put.new w #[.int .u8 0, .string ⟨#[]⟩, .int .i64 0] 70
  have h4 := h.later hA
  obtain ⟨c0, c1, _, _⟩ := h4.cell
  obtain ⟨p, hp⟩ : ∃ p, p = xs.length - ts.length := ⟨_, rfl⟩
  have p0 : (0 : Int) ≤ (p : Int) := by omega
  have k0 : (0 : Int) ≤ (k : Int) := by omega
  have e1 : IntKind.i64.wrap ((p : Int) + (k : Int)) = ((p + k : Nat) : Int) := by rw [IntWalk.i64_in _ (by omega)]; omega
  have n0 := cell_of_row _ w.heap.size 0 _ _ _ hnew
  have n1 := cell_of_row _ w.heap.size 1 _ _ _ hnew
  have n2 := cell_of_row _ w.heap.size 2 _ _ _ hnew
  simp at n0 n1 n2
  by_cases hlt : k < ts.length
  · obtain ⟨b, off, cap, a, c, rfl, hne, d0, d1, d2, ⟨i, rfl⟩, ⟨j, rfl⟩, _⟩ := h4.token k hlt
    rw [← hp] at c1 d0 d1 d2
    have hi : ((p + k : Nat) : Int) < (xs.length : Int) := by omega
    have hg : ts.getD k [] = ts[k] := by rw [List.getD_eq_getElem?_getD, List.getElem?_eq_getElem hlt]; rfl
    rw [hg] at H
    generalize ts[k] = s at *
    have HA := Lib.hid (And.intro hA hnew)
    clear hp hlt h h4 hQ hle hA hg hnew n0 n1 n2
    go_enter Tryz.func91, Tryz.ntmps91
    go_wp2_with fail
    go_quiet (fail)
    go_wp2_with fail
    go_region
    have P1 := put3 (w := (w.alloc (.cells #[.int .u8 0, .string ⟨#[]⟩, .int .i64 0] 70)).drewN (nq + 1)) (by rw [heap_drewN']; exact HA.out.2) (.int .u8 i) (.string (bs s)) (.int .i64 j)
    obtain ⟨wz, hz⟩ : ∃ wz, wz = ((((w.alloc (.cells #[.int .u8 0, .string ⟨#[]⟩, .int .i64 0] 70)).drewN (nq + 1)).setCell ⟨w.heap.size, 0, none⟩ (.int .u8 i)).setCell ⟨w.heap.size, 1, none⟩ (.string (bs s))).setCell ⟨w.heap.size, 2, none⟩ (.int .i64 j) := ⟨_, rfl⟩
    rw [← hz] at P1 ⊢
    have hB := P1.below ((HA.out.1).trans ((below_drewN' _ (nq + 1)).mono HA.out.1.size)) (Nat.le_refl _)
    obtain ⟨q0, g0⟩ := P1.cells 0
    obtain ⟨q1, g1⟩ := P1.cells 1
    obtain ⟨q2, g2⟩ := P1.cells 2
    simp at q0 q1 q2
    have HP := Lib.hid (And.intro hB P1.row)
    clear hz P1 hB c0 c1 d0 d1 d2 HA
    go_wp2_with fail
    have P2 := put3 HP.out.2 (.int .u8 i) (.string (bs s)) (.int .i64 j)
    refine bodyPost_ret (results_cell1 rfl _ _ _ rfl (tokVar _ _ (.int .u8 i) (.string (bs s)) (.int .i64 j) (P2.cells 0).1 (P2.cells 1).1 (P2.cells 2).1)) rfl (H.out _ _ _ (P2.below HP.out.1 (Nat.le_refl _)))
  · obtain ⟨ao, cap, rfl, _, _, _⟩ := h4.toks
    rw [← hp] at c1
    have hi : (xs.length : Int) ≤ ((p + k : Nat) : Int) := by omega
    have hg : ts.getD k [] = [] := by rw [List.getD_eq_getElem?_getD, List.getElem?_eq_none (by omega)]; rfl
    rw [hg] at H
    have HA := Lib.hid (And.intro hA hnew)
    clear hp hlt h h4 hQ hle hA hg hnew
    go_enter Tryz.func91, Tryz.ntmps91
    go_wp2_with fail
    go_quiet (fail)
    go_wp2_with fail
    have P2 := put3 (w := (w.alloc (.cells #[.int .u8 0, .string ⟨#[]⟩, .int .i64 0] 70)).drewN nq) (by rw [heap_drewN']; exact HA.out.2) (.int .u8 0) (.string ⟨#[]⟩) (.int .i64 0)
    refine bodyPost_ret (results_cell1 rfl _ _ _ rfl (tokVar _ _ (.int .u8 0) (.string ⟨#[]⟩) (.int .i64 0) (P2.cells 0).1 (P2.cells 1).1 (P2.cells 2).1)) rfl (H.out _ _ _ (P2.below ((HA.out.1).trans ((below_drewN' _ nq).mono HA.out.1.size)) (Nat.le_refl _)))
end Go.Proofs.YtobpnjnfpgcpaaaGreatDoor
