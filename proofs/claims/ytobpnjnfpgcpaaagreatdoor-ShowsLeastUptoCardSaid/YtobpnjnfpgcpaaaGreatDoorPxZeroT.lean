/- Nodes in new memory: one is appended that is nothing yet, then written. No program in sight. -/
import Derived.Test.YtobpnjnfpgcpaaaGreatDoorPxMem2T
import Derived.Test.YtobpnjnfpgcpaaaGreatDoorTrA3
namespace Go.My
open Go.RowKit Go.Nd

def zero5 : List Value := [.int .u8 0, .string ⟨#[]⟩, .slice none 0 0, .slice none 0 0, .slice none 0 0]
/-- All blocks of the lists in nodes. -/
def inner (els : List El) (f1 f2 f3 : Nat → List Nat) : List Nat := (List.range els.length).flatMap fun j => f1 j ++ (f2 j ++ f3 j)

/-- The nodes of l, and behind them one that is nothing yet. -/
def Hole (w : World) (T : TypeId) (lo hi : Nat) (l : List Nd) (b off cap : Nat) : Prop :=
  ∃ (els : List El) (f1 f2 f3 : Nat → List Nat), els.length = (Ns.of l).items.length ∧
    (∀ j (h : j < els.length) (h' : j < (Ns.of l).items.length), (els[j].kind = (Ns.of l).items[j].kind ∧ (Ns.of l).items[j].kind < 256) ∧ els[j].text = (Ns.of l).items[j].text ∧ (Ns.of l).items[j].text.length ≤ 140737488351232) ∧
    (∀ j (h : j < els.length) (h' : j < (Ns.of l).items.length), LF w T (f1 j) els[j].v1 (Ns.of l).items[j].l) ∧ (∀ j (h : j < els.length) (h' : j < (Ns.of l).items.length), LF w T (f2 j) els[j].v2 (Ns.of l).items[j].body) ∧
    (∀ j (h : j < els.length) (h' : j < (Ns.of l).items.length), LF w T (f3 j) els[j].v3 (Ns.of l).items[j].els) ∧
    Own w T 5 (.slice (some ⟨b, off, none⟩) (l.length + 1) cap) (l.length + 1) (elCells els ++ zero5) (some b) ∧ InR lo hi (inner els f1 f2 f3) ∧ b ∉ inner els f1 f2 f3 ∧ lo ≤ b ∧ (l.length + 1) * 96 ≤ 140737488351232

theorem Hole.frame {w w' : World} {T : TypeId} {lo hi : Nat} {l : List Nd} {b off cap : Nat} (h : Hole w T lo hi l b off cap) (hs : ∀ k, (lo ≤ k ∧ k < hi) ∨ k = b → w'.heap[k]? = w.heap[k]?) : Hole w' T lo hi l b off cap := by
  obtain ⟨els, f1, f2, f3, he, hk, g1, g2, g3, ho, hr, hb, hlo, hn⟩ := h
  have mem : ∀ j, j < els.length → ∀ k, k ∈ f1 j ++ (f2 j ++ f3 j) → w'.heap[k]? = w.heap[k]? := fun j hj k hk => hs k (.inl (hr.2 k (List.mem_flatMap.2 ⟨j, List.mem_range.2 hj, hk⟩)))
  exact ⟨els, f1, f2, f3, he, hk, fun j h h' => (g1 j h h').frame fun k hk => mem j h k (List.mem_append_left _ hk), fun j h h' => (g2 j h h').frame fun k hk => mem j h k (List.mem_append_right _ (List.mem_append_left _ hk)),
    fun j h h' => (g3 j h h').frame fun k hk => mem j h k (List.mem_append_right _ (List.mem_append_right _ hk)), ho.frame fun k hk => hs k (.inr (by cases hk; rfl)), hr, hb, hlo, hn⟩

theorem hole_mk {w : World} {T : TypeId} {lo hi : Nat} {v : Value} {l : List Nd} (h : LR w T lo hi v (Ns.of l)) (hn : (l.length + 1) * 96 ≤ 140737488351232) (h1 : lo ≤ hi) (h2 : hi ≤ w.heap.size) :
    ∃ xs k, Own w T 5 v l.length xs k ∧ (∀ b, k = some b → lo ≤ b ∧ b < hi) ∧ ∀ w' v' k', Own w' T 5 v' (l.length + 1) (xs ++ zero5) k' → Step w w' k → (k' = k ∨ ∃ j, k' = some j ∧ w.heap.size ≤ j) → ∃ b off cap, v' = .slice (some ⟨b, off, none⟩) (l.length + 1) cap ∧ Hole w' T lo hi l b off cap ∧ (b < hi ∨ w.heap.size ≤ b) := by
  obtain ⟨F, hF, hr⟩ := h
  cases hF with
  | @mk _ _ els k f1 f2 f3 ho hn' he hk g1 g2 g3 =>
    rw [Ns.len_of] at ho
    have hk1 : ∀ b, k = some b → lo ≤ b ∧ b < hi := fun b hb => hr.2 b (by subst hb; simp)
    refine ⟨elCells els, k, ho, hk1, fun w' v' k' ho' st hk' => ?_⟩
    have hkC : ∀ b, k = some b → b ∉ inner els f1 f2 f3 := fun b hb hm => by
      subst hb
      exact (List.nodup_append.1 hr.1).2.2 b (by simp) b hm rfl
    have hC : InR lo hi (inner els f1 f2 f3) := ⟨(List.nodup_append.1 hr.1).2.1, fun b hb => hr.2 b (List.mem_append_right _ hb)⟩
    have same : ∀ b ∈ inner els f1 f2 f3, w'.heap[b]? = w.heap[b]? := fun b hb => st.block b (by have := (hC.2 b hb).2; omega) fun hbk => hkC b hbk.symm hb
    have mem : ∀ j, j < els.length → ∀ k, k ∈ f1 j ++ (f2 j ++ f3 j) → w'.heap[k]? = w.heap[k]? := fun j hj k hk => same k (List.mem_flatMap.2 ⟨j, List.mem_range.2 hj, hk⟩)
    obtain ⟨q1, q2⟩ := ho'
    rcases q2 with ⟨_, e, _⟩ | ⟨b, off, cap, cur, rfl, rfl, hh⟩
    · exact absurd e (Nat.succ_ne_zero _)
    · refine ⟨b, off, cap, rfl, ⟨els, f1, f2, f3, he, hk, fun j h h' => (g1 j h h').frame fun k hk => mem j h k (List.mem_append_left _ hk), fun j h h' => (g2 j h h').frame fun k hk => mem j h k (List.mem_append_right _ (List.mem_append_left _ hk)),
        fun j h h' => (g3 j h h').frame fun k hk => mem j h k (List.mem_append_right _ (List.mem_append_right _ hk)), ⟨q1, .inr ⟨b, off, cap, cur, rfl, rfl, hh⟩⟩, hC, ?_, ?_, hn⟩, ?_⟩
      · rcases hk' with rfl | ⟨j, hj, hj2⟩
        · exact hkC b rfl
        · cases hj; intro hm; have := (hC.2 b hm).2; omega
      · rcases hk' with rfl | ⟨j, hj, hj2⟩
        · exact (hk1 b rfl).1
        · cases hj; omega
      · rcases hk' with rfl | ⟨j, hj, hj2⟩
        · exact .inl (hk1 b rfl).2
        · cases hj; exact .inr hj2

theorem Own.set {w : World} {e : TypeId} {size b off n cap : Nat} {xs : List Value} (h : Own w e size (.slice (some ⟨b, off, none⟩) n cap) n xs (some b)) (j : Nat) (hj : j < n * size) (u : Value) :
    Own (w.setCell ⟨b, off + j, none⟩ u) e size (.slice (some ⟨b, off, none⟩) n cap) n (xs.set j u) (some b) := by
  rcases h.2 with ⟨hv, _⟩ | ⟨b', off', cap', cur, hv, hg, hh, h3, h4, h5, h6⟩
  · cases hv
  · cases hv
    refine ⟨by rw [List.length_set]; exact h.1, .inr ⟨b, off, cap, _, rfl, rfl, oneCell_set u hh, h3, h4, by simpa using h5, ?_⟩⟩
    have h7 : n * size ≤ cap * size := Nat.mul_le_mul_right _ h3
    rw [← h6, Array.toList_setIfInBounds]
    exact drop_set_take _ _ _ _ _ hj (by rw [Array.length_toList]; omega)

/-- The cells of the one that is nothing yet. -/
theorem Hole.cells {w : World} {T : TypeId} {lo hi : Nat} {l : List Nd} {b off cap : Nat} (h : Hole w T lo hi l b off cap) : ∀ j, j < 5 → w.cell? ⟨b, off + l.length * 5 + j, none⟩ = zero5[j]? ∧ w.frozen? ⟨b, off + l.length * 5 + j, none⟩ = false := by
  obtain ⟨els, f1, f2, f3, he, hk, g1, g2, g3, ho, hr, hb, hlo, hn⟩ := h
  intro j hj
  rcases ho.2 with ⟨hv, _⟩ | ⟨b', off', cap', cur, hv, hg, hh, h3, h4, h5, h6⟩
  · cases hv
  · cases hv
    have hl : els.length = l.length := by rw [he, Ns.items_of]
    have hlt : l.length * 5 + j < (l.length + 1) * 5 := by omega
    refine ⟨?_, frozen_of_row w b _ cur _ hh⟩
    rw [cell_of_row w b _ cur T (0, 0) hh]
    have : (elCells els ++ zero5)[l.length * 5 + j]? = zero5[j]? := by rw [List.getElem?_append_right (by rw [elCells_length, hl]; omega), elCells_length, hl]; congr 1; omega
    rw [← this, ← h6, List.getElem?_take, List.getElem?_drop, if_pos hlt]
    simp [Nat.add_assoc]

theorem Hole.lo {w : World} {T : TypeId} {lo hi : Nat} {l : List Nd} {b off cap : Nat} (h : Hole w T lo hi l b off cap) : lo ≤ b ∧ b < w.heap.size := by
  obtain ⟨els, f1, f2, f3, he, hk, g1, g2, g3, ho, hr, hb, hlo, hn⟩ := h
  exact ⟨hlo, ho.lt b rfl⟩
theorem Hole.five {w : World} {T : TypeId} {lo hi : Nat} {l : List Nd} {b off cap : Nat} (h : Hole w T lo hi l b off cap) :
    (w.cell? ⟨b, off + l.length * 5, none⟩ = some (.int .u8 0) ∧ w.cell? ⟨b, off + l.length * 5 + 1, none⟩ = some (.string ⟨#[]⟩) ∧ w.cell? ⟨b, off + l.length * 5 + 2, none⟩ = some (.slice none 0 0) ∧ w.cell? ⟨b, off + l.length * 5 + 3, none⟩ = some (.slice none 0 0) ∧ w.cell? ⟨b, off + l.length * 5 + 4, none⟩ = some (.slice none 0 0)) ∧
    w.frozen? ⟨b, off + l.length * 5, none⟩ = false ∧ w.frozen? ⟨b, off + l.length * 5 + 1, none⟩ = false ∧ w.frozen? ⟨b, off + l.length * 5 + 2, none⟩ = false ∧ w.frozen? ⟨b, off + l.length * 5 + 3, none⟩ = false ∧ w.frozen? ⟨b, off + l.length * 5 + 4, none⟩ = false :=
  ⟨⟨(h.cells 0 (by decide)).1, (h.cells 1 (by decide)).1, (h.cells 2 (by decide)).1, (h.cells 3 (by decide)).1, (h.cells 4 (by decide)).1⟩, (h.cells 0 (by decide)).2, (h.cells 1 (by decide)).2, (h.cells 2 (by decide)).2, (h.cells 3 (by decide)).2, (h.cells 4 (by decide)).2⟩

theorem set5 (a : List Value) (n : Nat) (ha : a.length = n * 5) (z0 z1 z2 z3 z4 u0 u1 u2 u3 u4 : Value) :
    (((((a ++ [z0, z1, z2, z3, z4]).set (n * 5) u0).set (n * 5 + 1) u1).set (n * 5 + 2) u2).set (n * 5 + 3) u3).set (n * 5 + 4) u4 = a ++ [u0, u1, u2, u3, u4] := by
  rw [List.set_append_right _ _ (by omega), List.set_append_right _ _ (by omega), List.set_append_right _ _ (by omega), List.set_append_right _ _ (by omega), List.set_append_right _ _ (by omega)]
  have e : ∀ j, n * 5 + j - a.length = j := fun j => by omega
  have e0 : n * 5 - a.length = 0 := by omega
  rw [e, e, e, e, e0]
  rfl

/-- It is written. -/
theorem Hole.fill {w : World} {T : TypeId} {lo hi : Nat} {l : List Nd} {b off cap : Nat} {u0 u1 u2 u3 u4 : Value} {x : Nd} (h : Hole w T lo hi l b off cap) (hN : NS w T (fun k => hi ≤ k ∧ k ≠ b) (.agg #[u0, u1, u2, u3, u4]) x) (hlh : lo ≤ hi) :
    LR (((((w.setCell ⟨b, off + l.length * 5, none⟩ u0).setCell ⟨b, off + l.length * 5 + 1, none⟩ u1).setCell ⟨b, off + l.length * 5 + 2, none⟩ u2).setCell ⟨b, off + l.length * 5 + 3, none⟩ u3).setCell ⟨b, off + l.length * 5 + 4, none⟩ u4) T lo w.heap.size (.slice (some ⟨b, off, none⟩) (l.length + 1) cap) (Ns.of (l ++ [x])) := by
  obtain ⟨els, f1, f2, f3, he, hk, g1, g2, g3, ho, hr, hb, hlo, hn⟩ := h
  obtain ⟨e, G, h0, hG, hnd, hS⟩ := hN
  simp only [Value.agg.injEq, Array.mk.injEq, List.cons.injEq, and_true] at h0
  obtain ⟨rfl, rfl, rfl, rfl, rfl⟩ := h0
  have hl : els.length = l.length := by rw [he, Ns.items_of]
  have o0 := ho.set (l.length * 5) (by omega) (.int .u8 (e.kind : Int))
  have o1 := o0.set (l.length * 5 + 1) (by omega) (.string (tx e.text))
  have o2 := o1.set (l.length * 5 + 2) (by omega) e.v1
  have o3 := o2.set (l.length * 5 + 3) (by omega) e.v2
  have o4 := o3.set (l.length * 5 + 4) (by omega) e.v3
  unfold zero5 at o4
  rw [set5 _ _ (by rw [elCells_length, hl])] at o4
  simp only [← Nat.add_assoc] at o4
  have oth : ∀ k, k ≠ b → (((((w.setCell ⟨b, off + l.length * 5, none⟩ (.int .u8 (e.kind : Int))).setCell ⟨b, off + l.length * 5 + 1, none⟩ (.string (tx e.text))).setCell ⟨b, off + l.length * 5 + 2, none⟩ e.v1).setCell ⟨b, off + l.length * 5 + 3, none⟩ e.v2).setCell ⟨b, off + l.length * 5 + 4, none⟩ e.v3).heap[k]? = w.heap[k]? := by
    intro k hk
    have s : ∀ (w : World) (o : Nat) (u : Value), (w.setCell ⟨b, o, none⟩ u).heap[k]? = w.heap[k]? := fun w o u => Below.heap_setCell w ⟨b, o, none⟩ u k (by simpa using hk)
    rw [s, s, s, s, s]
  have main := LF.snoc (w' := (((((w.setCell ⟨b, off + l.length * 5, none⟩ (.int .u8 (e.kind : Int))).setCell ⟨b, off + l.length * 5 + 1, none⟩ (.string (tx e.text))).setCell ⟨b, off + l.length * 5 + 2, none⟩ e.v1).setCell ⟨b, off + l.length * 5 + 3, none⟩ e.v2).setCell ⟨b, off + l.length * 5 + 4, none⟩ e.v3)) (v' := .slice (some ⟨b, off, none⟩) (l.length + 1) cap) (ys := Ns.of (l ++ [x])) (k' := some b) he hk g1 g2 g3
    (hG.frame fun k hk => oth k (hS k hk).2) (by rw [Ns.items_of, Ns.items_of]) (by rw [Ns.len_of]; exact hn) (fun k hk => oth k fun e => hb (by rw [← e]; exact hk)) (by rw [Ns.len_of, elCells_append, elCells_one]; exact o4)
  refine ⟨_, main, ?_⟩
  have hbl : b < w.heap.size := ho.lt b rfl
  have hGl := hG.lt
  refine ⟨List.nodup_append.2 ⟨by simp, List.nodup_append.2 ⟨hr.1, hnd, fun a ha c hc e => ?_⟩, fun a ha c hc e => ?_⟩, fun k hk => ?_⟩
  · subst e; have := (hr.2 a ha).2; have := (hS a hc).1; omega
  · simp at ha; subst ha; subst e
    rcases List.mem_append.1 hc with hc | hc
    · exact hb hc
    · exact (hS _ hc).2 rfl
  · rcases List.mem_append.1 hk with hk | hk
    · simp at hk; omega
    · rcases List.mem_append.1 hk with hk | hk
      · have h3 := hr.2 k hk
        have h4 : k < w.heap.size := by
          obtain ⟨j, hj, hkj⟩ := List.mem_flatMap.1 hk
          have hj' := List.mem_range.1 hj
          rcases List.mem_append.1 hkj with q | q
          · exact (g1 j hj' (he ▸ hj')).lt k q
          · rcases List.mem_append.1 q with q | q
            · exact (g2 j hj' (he ▸ hj')).lt k q
            · exact (g3 j hj' (he ▸ hj')).lt k q
        omega
      · have := (hS k hk).1; have := hGl k hk; omega
end Go.My
