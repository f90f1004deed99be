/- Nodes in new memory: lists out of nodes, and one more behind. No program in sight. -/
import Derived.Test.YtobpnjnfpgcpaaaDoorPxMemT
import Derived.Test.YtobpnjnfpgcpaaaDoorTrA1
namespace Go.My
open Go.RowKit Go.Nd

theorem LF.of_nodes {w : World} {T : TypeId} {v : Value} {xs : Ns} {els : List El} {k : Option Nat} (Fs : Nat → List Nat) (ho : Own w T 5 v xs.len (elCells els) k) (hn : xs.len * 96 ≤ 140737488351232) (he : els.length = xs.items.length)
    (h : ∀ j (h : j < els.length) (h' : j < xs.items.length), NF w T (Fs j) els[j] xs.items[j]) : LF w T (k.toList ++ (List.range els.length).flatMap Fs) v xs := by
  have hc : ∀ j, ∃ p : List Nat × List Nat × List Nat, ∀ (hj : j < els.length), Fs j = p.1 ++ (p.2.1 ++ p.2.2) ∧ ((els[j].kind = (xs.items[j]'(he ▸ hj)).kind ∧ (xs.items[j]'(he ▸ hj)).kind < 256) ∧ els[j].text = (xs.items[j]'(he ▸ hj)).text ∧ (xs.items[j]'(he ▸ hj)).text.length ≤ 140737488351232) ∧
      LF w T p.1 els[j].v1 (xs.items[j]'(he ▸ hj)).l ∧ LF w T p.2.1 els[j].v2 (xs.items[j]'(he ▸ hj)).body ∧ LF w T p.2.2 els[j].v3 (xs.items[j]'(he ▸ hj)).els := by
    intro j
    by_cases hj : j < els.length
    · obtain ⟨F1, F2, F3, h1, h2, h3, h4, h5⟩ := h j hj (he ▸ hj)
      exact ⟨(F1, F2, F3), fun _ => ⟨h1, h2, h3, h4, h5⟩⟩
    · exact ⟨([], [], []), fun hj' => absurd hj' hj⟩
  have main := LF.mk (w := w) (T := T) (v := v) (xs := xs) (els := els) (k := k) (f1 := fun j => (Classical.choose (hc j)).1) (f2 := fun j => (Classical.choose (hc j)).2.1) (f3 := fun j => (Classical.choose (hc j)).2.2) ho hn he
    (fun j hj _ => (Classical.choose_spec (hc j) hj).2.1) (fun j hj _ => (Classical.choose_spec (hc j) hj).2.2.1) (fun j hj _ => (Classical.choose_spec (hc j) hj).2.2.2.1) (fun j hj _ => (Classical.choose_spec (hc j) hj).2.2.2.2)
  have hF : ((List.range els.length).flatMap fun j => (Classical.choose (hc j)).1 ++ ((Classical.choose (hc j)).2.1 ++ (Classical.choose (hc j)).2.2)) = (List.range els.length).flatMap Fs :=
    flatMap_same fun j hj => ((Classical.choose_spec (hc j) (List.mem_range.1 hj)).1).symm
  rw [hF] at main
  exact main

theorem elCells_one (e : El) : elCells [e] = [.int .u8 (e.kind : Int), .string (tx e.text), e.v1, e.v2, e.v3] := by simp [elCells, El.cells]
theorem elCells_two (e f : El) : elCells [e, f] = [.int .u8 (e.kind : Int), .string (tx e.text), e.v1, e.v2, e.v3, .int .u8 (f.kind : Int), .string (tx f.text), f.v1, f.v2, f.v3] := by simp [elCells, El.cells]

theorem NR.later {w w' : World} {T : TypeId} {lo hi : Nat} {v : Value} {x : Nd} (h : NR w T lo hi v x) (hb : Below w.heap.size w w') (hh : hi ≤ w.heap.size) : NR w' T lo hi v x := h.frame fun b _ hb' => hb.block b (by omega)
theorem LR.later {w w' : World} {T : TypeId} {lo hi : Nat} {v : Value} {xs : Ns} (h : LR w T lo hi v xs) (hb : Below w.heap.size w w') (hh : hi ≤ w.heap.size) : LR w' T lo hi v xs := h.frame fun b _ hb' => hb.block b (by omega)

/-- A list of one. -/
theorem LR.one {w : World} {T : TypeId} {lo hi : Nat} {c0 c1 c2 c3 c4 : Value} {x : Nd} (h : NR w T lo hi (.agg #[c0, c1, c2, c3, c4]) x) (h1 : lo ≤ hi) (h2 : hi ≤ w.heap.size) :
    LR (w.alloc (.cells #[c0, c1, c2, c3, c4] T)) T lo (w.heap.size + 1) (.slice (some ⟨w.heap.size, 0, none⟩) 1 1) (Ns.of [x]) := by
  obtain ⟨e, F, h0, hN, hr⟩ := h.later (Below.alloc (Below.refl _ w) (Nat.le_refl _) (.cells #[c0, c1, c2, c3, c4] T)) h2
  simp only [Value.agg.injEq, Array.mk.injEq, List.cons.injEq, and_true] at h0
  obtain ⟨rfl, rfl, rfl, rfl, rfl⟩ := h0
  have main := LF.of_nodes (xs := Ns.of [x]) (els := [e]) (fun _ => F) (own_lit w T 1 5 (elCells [e]) (by rw [elCells_length]; rfl) (by decide)) (by show 1 * 96 ≤ _; decide) rfl (fun j h _ => by
    have : j = 0 := by simp at h; omega
    subst this
    have hN' := hN
    rw [show (#[Value.int IntKind.u8 (e.kind : Int), Value.string (tx e.text), e.v1, e.v2, e.v3] : Array Value) = (elCells [e]).toArray by rw [elCells_one]] at hN'
    exact hN')
  simp only [elCells_one] at main
  refine ⟨_, main, ?_⟩
  have e1 : (List.range [e].length).flatMap (fun _ => F) = F := by simp [List.range_succ]
  rw [e1]
  exact ((hr.mono (Nat.le_refl _) h2).app InR.one (by omega) (Nat.le_succ _)).perm List.perm_append_comm

/-- A node in blocks of S, each once. -/
def NS (w : World) (T : TypeId) (S : Nat → Prop) (v : Value) (x : Nd) : Prop := ∃ e F, v = .agg #[.int .u8 (e.kind : Int), .string (tx e.text), e.v1, e.v2, e.v3] ∧ NF w T F e x ∧ F.Nodup ∧ ∀ b ∈ F, S b
theorem NR.ns {w : World} {T : TypeId} {lo hi : Nat} {v : Value} {x : Nd} (h : NR w T lo hi v x) {S : Nat → Prop} (hS : ∀ b, lo ≤ b → b < hi → S b) : NS w T S v x := by
  obtain ⟨e, F, h0, h1, h2⟩ := h
  exact ⟨e, F, h0, h1, h2.1, fun b hb => hS b (h2.2 b hb).1 (h2.2 b hb).2⟩
theorem NF.lt {w : World} {T : TypeId} {F : List Nat} {e : El} {x : Nd} (h : NF w T F e x) : ∀ b ∈ F, b < w.heap.size := by
  obtain ⟨F1, F2, F3, rfl, _, h1, h2, h3⟩ := h
  intro b hb
  rcases List.mem_append.1 hb with hb | hb
  · exact h1.lt b hb
  · rcases List.mem_append.1 hb with hb | hb
    · exact h2.lt b hb
    · exact h3.lt b hb
theorem NS.nr {w : World} {T : TypeId} {S : Nat → Prop} {v : Value} {x : Nd} (h : NS w T S v x) {lo : Nat} (hS : ∀ b, S b → lo ≤ b) : NR w T lo w.heap.size v x := by
  obtain ⟨e, F, h0, h1, h2, h3⟩ := h
  exact ⟨e, F, h0, h1, h2, fun b hb => ⟨hS b (h3 b hb), h1.lt b hb⟩⟩
theorem NS.frame {w w' : World} {T : TypeId} {S : Nat → Prop} {v : Value} {x : Nd} (h : NS w T S v x) (hs : ∀ b, S b → b < w.heap.size → w'.heap[b]? = w.heap[b]?) : NS w' T S v x := by
  obtain ⟨e, F, h0, h1, h2, h3⟩ := h
  exact ⟨e, F, h0, h1.frame fun b hb => hs b (h3 b hb) (h1.lt b hb), h2, h3⟩
theorem NS.later {w w' : World} {T : TypeId} {S : Nat → Prop} {v : Value} {x : Nd} (h : NS w T S v x) (hb : Below w.heap.size w w') : NS w' T S v x := h.frame fun b _ hlt => hb.block b hlt
theorem NS.mono {w : World} {T : TypeId} {S U : Nat → Prop} {v : Value} {x : Nd} (h : NS w T S v x) (hs : ∀ b, S b → b < w.heap.size → U b) : NS w T U v x := by
  obtain ⟨e, F, h0, h1, h2, h3⟩ := h
  exact ⟨e, F, h0, h1, h2, fun b hb => hs b (h3 b hb) (h1.lt b hb)⟩
theorem NS.form {w : World} {T : TypeId} {S : Nat → Prop} {v : Value} {x : Nd} (h : NS w T S v x) : ∃ a1 c1 a2 c2 a3 c3, v = .agg #[.int .u8 (x.kind : Int), .string (tx x.text), .slice a1 x.l.len c1, .slice a2 x.body.len c2, .slice a3 x.els.len c3] :=
  (h.nr (lo := 0) fun _ _ => Nat.zero_le _).form

/-- A list of two. -/
theorem NS.two {w : World} {T : TypeId} {S U : Nat → Prop} {c0 c1 c2 c3 c4 d0 d1 d2 d3 d4 : Value} {x y : Nd} (h : NS w T S (.agg #[c0, c1, c2, c3, c4]) x) (k : NS w T U (.agg #[d0, d1, d2, d3, d4]) y) (hd : ∀ b, S b → U b → False) :
    ∃ F, LF (w.alloc (.cells #[c0, c1, c2, c3, c4, d0, d1, d2, d3, d4] T)) T F (.slice (some ⟨w.heap.size, 0, none⟩) 2 2) (Ns.of [x, y]) ∧ F.Nodup ∧ ∀ b ∈ F, S b ∨ U b ∨ w.heap.size ≤ b := by
  have hA := Below.alloc (Below.refl w.heap.size w) (Nat.le_refl _) (.cells #[c0, c1, c2, c3, c4, d0, d1, d2, d3, d4] T)
  obtain ⟨e, F, h0, hN', hr1, hr2⟩ := h
  obtain ⟨f, G, k0, kN', kr1, kr2⟩ := k
  have hlt := hN'.lt
  have klt := kN'.lt
  have hN := hN'.frame fun b hb => hA.block b (hlt b hb)
  have kN := kN'.frame fun b hb => hA.block b (klt b hb)
  simp only [Value.agg.injEq, Array.mk.injEq, List.cons.injEq, and_true] at h0 k0
  obtain ⟨rfl, rfl, rfl, rfl, rfl⟩ := h0
  obtain ⟨rfl, rfl, rfl, rfl, rfl⟩ := k0
  have main := LF.of_nodes (xs := Ns.of [x, y]) (els := [e, f]) (fun j => if j = 0 then F else G) (own_lit w T 2 5 (elCells [e, f]) (by rw [elCells_length]; rfl) (by decide)) (by show 2 * 96 ≤ _; decide) rfl (fun j h _ => by
    have : j = 0 ∨ j = 1 := by simp at h; omega
    have hN' := hN
    have kN' := kN
    rw [show (#[Value.int IntKind.u8 (e.kind : Int), Value.string (tx e.text), e.v1, e.v2, e.v3, Value.int IntKind.u8 (f.kind : Int), Value.string (tx f.text), f.v1, f.v2, f.v3] : Array Value) = (elCells [e, f]).toArray by rw [elCells_two]] at hN' kN'
    rcases this with rfl | rfl
    · exact hN'
    · exact kN')
  simp only [elCells_two] at main
  refine ⟨_, main, ?_⟩
  have e1 : (List.range [e, f].length).flatMap (fun j => if j = 0 then F else G) = F ++ G := by simp [List.range_succ]
  rw [e1]
  refine ⟨List.nodup_append.2 ⟨by simp, List.nodup_append.2 ⟨hr1, kr1, fun a ha b hb e => hd a (hr2 a ha) (by subst e; exact kr2 a hb)⟩, fun a ha b hb e => ?_⟩, fun b hb => ?_⟩
  · simp at ha
    rcases List.mem_append.1 hb with hb | hb
    · have := hlt b hb; omega
    · have := klt b hb; omega
  · rcases List.mem_append.1 hb with hb | hb
    · simp at hb; exact .inr (.inr (by omega))
    · rcases List.mem_append.1 hb with hb | hb
      · exact .inl (hr2 b hb)
      · exact .inr (.inl (kr2 b hb))

theorem LF.oneCell {w : World} {T : TypeId} {F : List Nat} {v : Value} {xs : Ns} (h : LF w T F v xs) : v.oneCell' = true := by obtain ⟨a, c, rfl⟩ := h.form; rfl
theorem NF.oneCells {w : World} {T : TypeId} {F : List Nat} {e : El} {x : Nd} (h : NF w T F e x) : ∀ u ∈ elCells [e], u.oneCell' = true := by
  obtain ⟨F1, F2, F3, _, _, h1, h2, h3⟩ := h
  intro u hu
  rw [elCells_one] at hu
  simp at hu
  rcases hu with rfl | rfl | rfl | rfl | rfl
  · rfl
  · rfl
  · exact h1.oneCell
  · exact h2.oneCell
  · exact h3.oneCell

theorem Ns.len_of (l : List Nd) : (Ns.of l).len = l.length := by unfold Ns.len; rw [Ns.items_of]

/-- One more, appended: what is so behind it. -/
theorem LR.app {w : World} {T : TypeId} {lo hi hi2 : Nat} {v : Value} {l : List Nd} {cs : Array Value} {x : Nd} (h : LR w T lo hi v (Ns.of l)) (hN : NR w T hi hi2 (.agg cs) x) (h1 : lo ≤ hi) (h2 : hi ≤ hi2) (h3 : hi2 ≤ w.heap.size) (hn : (l.length + 1) * 96 ≤ 140737488351232) :
    (∀ u ∈ cs.toList, u.oneCell' = true) ∧ ∃ xs k, Own w T 5 v l.length xs k ∧ (∀ b, k = some b → lo ≤ b ∧ b < hi) ∧ ∀ w' v' k', Own w' T 5 v' (l.length + 1) (xs ++ cs.toList) k' → Step w w' k → (k' = k ∨ ∃ j, k' = some j ∧ w.heap.size ≤ j) → LR w' T lo w'.heap.size v' (Ns.of (l ++ [x])) := by
  obtain ⟨F, hF, hr⟩ := h
  obtain ⟨e, G, h0, hG, kr⟩ := hN
  cases h0
  refine ⟨by simpa [elCells_one] using hG.oneCells, ?_⟩
  cases hF with
  | @mk _ _ els k f1 f2 f3 ho hn' he hk g1 g2 g3 =>
    rw [Ns.len_of] at ho
    have hk1 : ∀ b, k = some b → lo ≤ b ∧ b < hi := fun b hb => hr.2 b (by subst hb; simp)
    refine ⟨elCells els, k, ho, hk1, fun w' v' k' ho' st hk' => ?_⟩
    have hkC : ∀ b, k = some b → b ∉ (List.range els.length).flatMap fun j => f1 j ++ (f2 j ++ f3 j) := fun b hb hm => by
      subst hb
      exact (List.nodup_append.1 hr.1).2.2 b (by simp) b hm rfl
    have hC : InR lo hi ((List.range els.length).flatMap fun j => f1 j ++ (f2 j ++ f3 j)) := ⟨(List.nodup_append.1 hr.1).2.1, fun b hb => hr.2 b (List.mem_append_right _ hb)⟩
    have hG' : NF w' T G e x := hG.frame fun b hb => st.block b (by have := (kr.2 b hb).2; omega) fun hbk => by have := (hk1 b hbk.symm).2; have := (kr.2 b hb).1; omega
    have main := LF.snoc (w' := w') (v' := v') (ys := Ns.of (l ++ [x])) he hk g1 g2 g3 hG' (by rw [Ns.items_of, Ns.items_of]) (by rw [Ns.len_of]; exact hn)
      (fun b hb => st.block b (by have := (hC.2 b hb).2; omega) fun hbk => hkC b hbk.symm hb) (k' := k') (by rw [Ns.len_of, elCells_append, elCells_one]; exact ho')
    refine ⟨_, main, ?_⟩
    have hs := st.size
    rcases hk' with rfl | ⟨j, rfl, hj⟩
    · rw [← List.append_assoc]
      exact (hr.app kr h1 h2).mono (Nat.le_refl _) (by omega)
    · have hjlt := ho'.lt j rfl
      exact (((hC.app kr h1 h2).mono (Nat.le_refl _) (show hi2 ≤ j by omega)).app (InR.one.mono (Nat.le_refl j) hjlt) (by omega) (by omega)).perm (by
        show List.Perm (_ ++ [j]) ([j] ++ _)
        exact List.perm_append_comm)

section
variable {P : Program} (w : World)
/-- APPEND OF A NODE, FOR THE WALK. -/
theorem wpList_node {ops : Array Oper} {rest : List Oper} {o : Oper} {a : Act} {Q : Exit → Act → World → Prop} (hgd : o.guard = none) (s x : Operand) {t e : TypeId}
    (ho : o.op = .call { callee := .builtin .append, args := #[s, x], argTypes := #[t, t] }) {z : Value} (E : Elem P t e 5 96 z) {v : Value} {l : List Nd} {lo hi hi2 : Nat} {cs : Array Value} {y : Value} {nd : Nd}
    (hs : a.eval s = v) (hown : LR w e lo hi v (Ns.of l)) (hN : NR w e hi hi2 (.agg cs) nd) (hy : a.eval x = y) (hx : Src w 5 y 1 cs.toList) (h1 : lo ≤ hi) (h2 : hi ≤ hi2) (h3 : hi2 ≤ w.heap.size) (hn : (l.length + 1) * 96 ≤ 140737488351232)
    (h : ∀ ao cap w', LR w' e lo w'.heap.size (.slice ao (l.length + 1) cap) (Ns.of (l ++ [nd])) → Below lo w w' → wpList P ops Q rest (a.put o.dst (.slice ao (l.length + 1) cap)) w') : wpList P ops Q (o :: rest) a w := by
  obtain ⟨hc, xs, k, ho', hk, go⟩ := hown.app hN h1 h2 h3 hn
  refine wpList_append w hgd s x ho E hs ho' hy hx hc (by simp only [maxLen]; omega) (by omega) fun v' w' k' q1 q2 q3 => ?_
  obtain ⟨ao, cap, rfl⟩ := own_form q1
  exact h ao cap w' (go w' _ k' q1 q2 q3) (q2.below (by omega) fun b hb => (hk b hb).1)
end
end Go.My
