/- Nodes in memory that is new: each list stands in a block of its own. No program in sight. -/
import Derived.Test.YtobpnjnfpgcpaaaDoorNdElT
namespace Go.My
open Go.RowKit Go.Nd

/-- A list of nodes; F: the blocks of it, and of all lists in it. -/
inductive LF (w : World) (T : TypeId) : List Nat → Value → Ns → Prop
  | mk {v : Value} {xs : Ns} {els : List El} {k : Option Nat} {f1 f2 f3 : Nat → List Nat} (ho : Own w T 5 v xs.len (elCells els) k) (hn : xs.len * 96 ≤ 140737488351232) (he : els.length = xs.items.length)
      (hk : ∀ j (h : j < els.length) (h' : j < xs.items.length), (els[j].kind = xs.items[j].kind ∧ xs.items[j].kind < 256) ∧ els[j].text = xs.items[j].text ∧ xs.items[j].text.length ≤ 140737488351232)
      (g1 : ∀ j (h : j < els.length) (h' : j < xs.items.length), LF w T (f1 j) els[j].v1 xs.items[j].l) (g2 : ∀ j (h : j < els.length) (h' : j < xs.items.length), LF w T (f2 j) els[j].v2 xs.items[j].body)
      (g3 : ∀ j (h : j < els.length) (h' : j < xs.items.length), LF w T (f3 j) els[j].v3 xs.items[j].els) : LF w T (k.toList ++ (List.range els.length).flatMap fun j => f1 j ++ (f2 j ++ f3 j)) v xs

/-- A node. -/
def NF (w : World) (T : TypeId) (F : List Nat) (e : El) (x : Nd) : Prop :=
  ∃ F1 F2 F3, F = F1 ++ (F2 ++ F3) ∧ ((e.kind = x.kind ∧ x.kind < 256) ∧ e.text = x.text ∧ x.text.length ≤ 140737488351232) ∧ LF w T F1 e.v1 x.l ∧ LF w T F2 e.v2 x.body ∧ LF w T F3 e.v3 x.els

theorem LF.frame {w w' : World} {T : TypeId} {F : List Nat} {v : Value} {xs : Ns} (h : LF w T F v xs) (hs : ∀ b ∈ F, w'.heap[b]? = w.heap[b]?) : LF w' T F v xs := by
  induction h with
  | @mk v xs els k f1 f2 f3 ho hn he hk g1 g2 g3 i1 i2 i3 =>
    have mem : ∀ j, j < els.length → ∀ b, b ∈ f1 j ++ (f2 j ++ f3 j) → b ∈ k.toList ++ (List.range els.length).flatMap fun j => f1 j ++ (f2 j ++ f3 j) := fun j hj b hb =>
      List.mem_append_right _ (List.mem_flatMap.2 ⟨j, List.mem_range.2 hj, hb⟩)
    refine .mk (ho.frame fun b hb => hs b (by subst hb; simp)) hn he hk (fun j h h' => i1 j h h' fun b hb => hs b (mem j h b ?_)) (fun j h h' => i2 j h h' fun b hb => hs b (mem j h b ?_)) (fun j h h' => i3 j h h' fun b hb => hs b (mem j h b ?_))
    · exact List.mem_append_left _ hb
    · exact List.mem_append_right _ (List.mem_append_left _ hb)
    · exact List.mem_append_right _ (List.mem_append_right _ hb)

theorem NF.frame {w w' : World} {T : TypeId} {F : List Nat} {e : El} {x : Nd} (h : NF w T F e x) (hs : ∀ b ∈ F, w'.heap[b]? = w.heap[b]?) : NF w' T F e x := by
  obtain ⟨F1, F2, F3, rfl, h0, h1, h2, h3⟩ := h
  exact ⟨F1, F2, F3, rfl, h0, h1.frame fun b hb => hs b (by simp [hb]), h2.frame fun b hb => hs b (by simp [hb]), h3.frame fun b hb => hs b (by simp [hb])⟩

theorem LF.lt {w : World} {T : TypeId} {F : List Nat} {v : Value} {xs : Ns} (h : LF w T F v xs) : ∀ b ∈ F, b < w.heap.size := by
  induction h with
  | @mk v xs els k f1 f2 f3 ho hn he hk g1 g2 g3 i1 i2 i3 =>
    intro b hb
    rcases List.mem_append.1 hb with hb | hb
    · exact ho.lt b (by simpa using hb)
    · obtain ⟨j, hj, hb⟩ := List.mem_flatMap.1 hb
      have hj' := List.mem_range.1 hj
      rcases List.mem_append.1 hb with hb | hb
      · exact i1 j hj' (he ▸ hj') b hb
      · rcases List.mem_append.1 hb with hb | hb
        · exact i2 j hj' (he ▸ hj') b hb
        · exact i3 j hj' (he ▸ hj') b hb

theorem LF.nil (w : World) (T : TypeId) : LF w T [] (.slice none 0 0) .nil := by
  have := LF.mk (T := T) (els := []) (xs := .nil) (k := none) (f1 := fun _ => []) (f2 := fun _ => []) (f3 := fun _ => []) (Own.nil w T 5) (Nat.zero_le _) rfl (fun j h => absurd h (Nat.not_lt_zero _)) (fun j h => absurd h (Nat.not_lt_zero _)) (fun j h => absurd h (Nat.not_lt_zero _)) (fun j h => absurd h (Nat.not_lt_zero _))
  simpa using this

theorem LF.form {w : World} {T : TypeId} {F : List Nat} {v : Value} {xs : Ns} (h : LF w T F v xs) : ∃ a c, v = .slice a xs.len c := by
  cases h with
  | mk ho hn he hk g1 g2 g3 => exact own_form ho

/-- It reads as these nodes. -/
theorem LF.nodes {w : World} {T : TypeId} {S : Nat → Prop} {F : List Nat} {v : Value} {xs : Ns} (h : LF w T F v xs) : (∀ b ∈ F, S b) → Nodes w S false v xs := by
  induction h with
  | @mk v xs els k f1 f2 f3 ho hn he hk g1 g2 g3 i1 i2 i3 =>
    intro hS
    have mem : ∀ j, j < els.length → ∀ b, b ∈ f1 j ++ (f2 j ++ f3 j) → S b := fun j hj b hb => hS b
      (List.mem_append_right _ (List.mem_flatMap.2 ⟨j, List.mem_range.2 hj, hb⟩))
    obtain ⟨h1, h2⟩ := ho
    rcases h2 with ⟨rfl, h0, _⟩ | ⟨b, off, cap, cur, rfl, rfl, hh, h3, h4, h5, h6⟩
    · have : xs = .nil := by
        cases xs with
        | nil => rfl
        | cons a b c d e f => simp [Ns.len, Ns.items_cons] at h0
      subst this
      exact ⟨none, 0, rfl, ⟨Nat.zero_le _, Nat.zero_le _, Nat.zero_le _, fun e => by cases e⟩, .nil _ fun e => by cases e⟩
    · refine ⟨_, cap, rfl, ⟨h3, h4, hn, fun e => by cases e⟩, ?_⟩
      refine nodesAt_of (hS b (by simp)) xs els off he (fun j h h' => ⟨(hk j h h').1, (hk j h h').2, ?_, ?_, ?_⟩) (fun j u hu => ?_) (fun e => by cases e)
      · exact i1 j h h' fun b hb => mem j h b (List.mem_append_left _ hb)
      · exact i2 j h h' fun b hb => mem j h b (List.mem_append_right _ (List.mem_append_left _ hb))
      · exact i3 j h h' fun b hb => mem j h b (List.mem_append_right _ (List.mem_append_right _ hb))
      · have hj : j < xs.len * 5 := by rw [← h1]; exact (List.getElem?_eq_some_iff.1 hu).1
        rw [cell_of_row w b (off + j) cur T (0, 0) hh, ← hu, ← h6, List.getElem?_take, List.getElem?_drop, if_pos hj]
        simp

/-- All of them between lo and hi, each once. -/
def InR (lo hi : Nat) (F : List Nat) : Prop := F.Nodup ∧ ∀ b ∈ F, lo ≤ b ∧ b < hi
theorem InR.nil (lo hi : Nat) : InR lo hi [] := ⟨List.nodup_nil, fun b h => by cases h⟩
theorem InR.app {lo m hi : Nat} {F G : List Nat} (h : InR lo m F) (k : InR m hi G) (h1 : lo ≤ m) (h2 : m ≤ hi) : InR lo hi (F ++ G) :=
  ⟨List.nodup_append.2 ⟨h.1, k.1, fun a ha b hb e => by have := (h.2 a ha).2; have := (k.2 b hb).1; omega⟩, fun b hb => by
    rcases List.mem_append.1 hb with hb | hb
    · have := h.2 b hb; omega
    · have := k.2 b hb; omega⟩
theorem InR.mono {lo hi lo' hi' : Nat} {F : List Nat} (h : InR lo hi F) (h1 : lo' ≤ lo) (h2 : hi ≤ hi') : InR lo' hi' F := ⟨h.1, fun b hb => by have := h.2 b hb; omega⟩
theorem InR.one {b : Nat} : InR b (b + 1) [b] := ⟨by simp, fun c hc => by simp at hc; omega⟩
theorem InR.perm {lo hi : Nat} {F G : List Nat} (h : InR lo hi F) (p : F.Perm G) : InR lo hi G := ⟨p.nodup_iff.1 h.1, fun b hb => h.2 b (p.mem_iff.2 hb)⟩

/-- A list of nodes in memory between lo and hi. -/
def LR (w : World) (T : TypeId) (lo hi : Nat) (v : Value) (xs : Ns) : Prop := ∃ F, LF w T F v xs ∧ InR lo hi F
/-- A node's value. -/
def NR (w : World) (T : TypeId) (lo hi : Nat) (v : Value) (x : Nd) : Prop := ∃ e F, v = .agg #[.int .u8 (e.kind : Int), .string (tx e.text), e.v1, e.v2, e.v3] ∧ NF w T F e x ∧ InR lo hi F

theorem LR.frame {w w' : World} {T : TypeId} {lo hi : Nat} {v : Value} {xs : Ns} (h : LR w T lo hi v xs) (hs : ∀ b, lo ≤ b → b < hi → w'.heap[b]? = w.heap[b]?) : LR w' T lo hi v xs := by
  obtain ⟨F, h1, h2⟩ := h
  exact ⟨F, h1.frame fun b hb => hs b (h2.2 b hb).1 (h2.2 b hb).2, h2⟩
theorem NR.frame {w w' : World} {T : TypeId} {lo hi : Nat} {v : Value} {x : Nd} (h : NR w T lo hi v x) (hs : ∀ b, lo ≤ b → b < hi → w'.heap[b]? = w.heap[b]?) : NR w' T lo hi v x := by
  obtain ⟨e, F, h0, h1, h2⟩ := h
  exact ⟨e, F, h0, h1.frame fun b hb => hs b (h2.2 b hb).1 (h2.2 b hb).2, h2⟩
theorem LR.mono {w : World} {T : TypeId} {lo hi lo' hi' : Nat} {v : Value} {xs : Ns} (h : LR w T lo hi v xs) (h1 : lo' ≤ lo) (h2 : hi ≤ hi') : LR w T lo' hi' v xs := by
  obtain ⟨F, k1, k2⟩ := h; exact ⟨F, k1, k2.mono h1 h2⟩
theorem NR.mono {w : World} {T : TypeId} {lo hi lo' hi' : Nat} {v : Value} {x : Nd} (h : NR w T lo hi v x) (h1 : lo' ≤ lo) (h2 : hi ≤ hi') : NR w T lo' hi' v x := by
  obtain ⟨e, F, h0, k1, k2⟩ := h; exact ⟨e, F, h0, k1, k2.mono h1 h2⟩
theorem LR.nil (w : World) (T : TypeId) (lo hi : Nat) : LR w T lo hi (.slice none 0 0) .nil := ⟨[], LF.nil w T, InR.nil _ _⟩
theorem LR.form {w : World} {T : TypeId} {lo hi : Nat} {v : Value} {xs : Ns} (h : LR w T lo hi v xs) : ∃ a c, v = .slice a xs.len c := by obtain ⟨F, h1, _⟩ := h; exact h1.form
theorem LR.nodes {w : World} {T : TypeId} {lo hi : Nat} {v : Value} {xs : Ns} (h : LR w T lo hi v xs) {S : Nat → Prop} (hS : ∀ b, lo ≤ b → b < hi → S b) : Nodes w S false v xs := by
  obtain ⟨F, h1, h2⟩ := h
  exact h1.nodes fun b hb => hS b (h2.2 b hb).1 (h2.2 b hb).2

theorem NR.form {w : World} {T : TypeId} {lo hi : Nat} {v : Value} {x : Nd} (h : NR w T lo hi v x) : ∃ a1 c1 a2 c2 a3 c3, v = .agg #[.int .u8 (x.kind : Int), .string (tx x.text), .slice a1 x.l.len c1, .slice a2 x.body.len c2, .slice a3 x.els.len c3] := by
  obtain ⟨e, F, h0, ⟨_, _, _, _, hk, h1, h2, h3⟩, hr⟩ := h
  obtain ⟨a1, c1, e1⟩ := h1.form
  obtain ⟨a2, c2, e2⟩ := h2.form
  obtain ⟨a3, c3, e3⟩ := h3.form
  exact ⟨a1, c1, a2, c2, a3, c3, by rw [h0, hk.1.1, hk.2.1, e1, e2, e3]⟩

/-- A node out of its parts. -/
theorem NR.mk {w : World} {T : TypeId} {lo m1 m2 hi k : Nat} {t : List UInt8} {u1 u2 u3 : Value} {l b e : Ns} (hk : k < 256) (ht : t.length ≤ 140737488351232) (h1 : LR w T lo m1 u1 l) (h2 : LR w T m1 m2 u2 b) (h3 : LR w T m2 hi u3 e) (l1 : lo ≤ m1) (l2 : m1 ≤ m2) (l3 : m2 ≤ hi) :
    NR w T lo hi (.agg #[.int .u8 (k : Int), .string (tx t), u1, u2, u3]) ⟨k, t, l, b, e⟩ := by
  obtain ⟨F1, a1, r1⟩ := h1
  obtain ⟨F2, a2, r2⟩ := h2
  obtain ⟨F3, a3, r3⟩ := h3
  exact ⟨⟨k, t, u1, u2, u3⟩, F1 ++ (F2 ++ F3), rfl, ⟨F1, F2, F3, rfl, ⟨⟨rfl, hk⟩, rfl, ht⟩, a1, a2, a3⟩, r1.app (r2.app r3 l2 l3) l1 (by omega)⟩

/-- The parts of a node. -/
theorem NR.parts {w : World} {T : TypeId} {lo hi : Nat} {k : Int} {s : ByteArray} {u1 u2 u3 : Value} {x : Nd} (h : NR w T lo hi (.agg #[.int .u8 k, .string s, u1, u2, u3]) x) : k = (x.kind : Int) ∧ s = tx x.text ∧ x.kind < 256 ∧ x.text.length ≤ 140737488351232 ∧
    ∃ F1 F2 F3, LF w T F1 u1 x.l ∧ LF w T F2 u2 x.body ∧ LF w T F3 u3 x.els ∧ InR lo hi (F1 ++ (F2 ++ F3)) := by
  obtain ⟨e, F, h0, ⟨F1, F2, F3, rfl, hk, a1, a2, a3⟩, h2⟩ := h
  cases h0
  exact ⟨by rw [hk.1.1], by rw [hk.2.1], hk.1.2, hk.2.2, F1, F2, F3, a1, a2, a3, h2⟩

theorem flatMap_same {α β : Type} {l : List α} {f g : α → List β} (h : ∀ a ∈ l, f a = g a) : l.flatMap f = l.flatMap g := by
  induction l with
  | nil => rfl
  | cons a l ih => rw [List.flatMap_cons, List.flatMap_cons, h a (by simp), ih fun b hb => h b (by simp [hb])]
/-- One more list of nodes' blocks, behind its own. -/
theorem LF.snoc {w w' : World} {T : TypeId} {G : List Nat} {v' : Value} {xs ys : Ns} {e : El} {x : Nd} {els : List El} {k' : Option Nat} {f1 f2 f3 : Nat → List Nat} (he : els.length = xs.items.length)
    (hk : ∀ j (h : j < els.length) (h' : j < xs.items.length), (els[j].kind = xs.items[j].kind ∧ xs.items[j].kind < 256) ∧ els[j].text = xs.items[j].text ∧ xs.items[j].text.length ≤ 140737488351232)
    (g1 : ∀ j (h : j < els.length) (h' : j < xs.items.length), LF w T (f1 j) els[j].v1 xs.items[j].l) (g2 : ∀ j (h : j < els.length) (h' : j < xs.items.length), LF w T (f2 j) els[j].v2 xs.items[j].body)
    (g3 : ∀ j (h : j < els.length) (h' : j < xs.items.length), LF w T (f3 j) els[j].v3 xs.items[j].els) (hN : NF w' T G e x) (hy : ys.items = xs.items ++ [x]) (hn : (xs.len + 1) * 96 ≤ 140737488351232)
    (hs : ∀ b ∈ ((List.range els.length).flatMap fun j => f1 j ++ (f2 j ++ f3 j)), w'.heap[b]? = w.heap[b]?) (ho' : Own w' T 5 v' (xs.len + 1) (elCells (els ++ [e])) k') : LF w' T (k'.toList ++ (((List.range els.length).flatMap fun j => f1 j ++ (f2 j ++ f3 j)) ++ G)) v' ys := by
  obtain ⟨G1, G2, G3, rfl, hk', a1, a2, a3⟩ := hN
  have hys : ys.len = xs.len + 1 := by unfold Ns.len; rw [hy]; simp
  have keep : ∀ j, j < els.length → ∀ b, b ∈ f1 j ++ (f2 j ++ f3 j) → w'.heap[b]? = w.heap[b]? := fun j hj b hb => hs b (List.mem_flatMap.2 ⟨j, List.mem_range.2 hj, hb⟩)
  have hit : ∀ j (h : j < xs.items.length) (h' : j < ys.items.length), ys.items[j] = xs.items[j] := fun j h h' => by
    have : ys.items[j]? = xs.items[j]? := by rw [hy, List.getElem?_append_left h]
    rw [List.getElem?_eq_getElem h', List.getElem?_eq_getElem h] at this
    simpa using this
  have hlast : ∀ (h' : els.length < ys.items.length), ys.items[els.length] = x := fun h' => by
    have : ys.items[els.length]? = some x := by rw [hy, he, List.getElem?_append_right (Nat.le_refl _)]; simp
    rw [List.getElem?_eq_getElem h'] at this
    simpa using this
  have hel : ∀ j (h : j < els.length) (h' : j < (els ++ [e]).length), (els ++ [e])[j] = els[j] := fun j h h' => List.getElem_append_left h
  have hee : ∀ (h' : els.length < (els ++ [e]).length), (els ++ [e])[els.length] = e := fun h' => by simp
  have main := LF.mk (w := w') (T := T) (v := v') (xs := ys) (els := els ++ [e]) (k := k') (f1 := fun j => if j < els.length then f1 j else G1) (f2 := fun j => if j < els.length then f2 j else G2) (f3 := fun j => if j < els.length then f3 j else G3)
    (by rw [hys]; exact ho') (by rw [hys]; exact hn) (by rw [List.length_append, hy, List.length_append, he]; rfl)
    (fun j h h' => by
      by_cases hj : j < els.length
      · rw [hel j hj, hit j (he ▸ hj)]; exact hk j hj (he ▸ hj)
      · have hje : j = els.length := by rw [List.length_append] at h; simp at h; omega
        subst hje
        rw [hee, hlast]; exact hk')
    (fun j h h' => by
      by_cases hj : j < els.length
      · rw [hel j hj, hit j (he ▸ hj)]; simp only [if_pos hj]; exact (g1 j hj (he ▸ hj)).frame fun b hb => keep j hj b (List.mem_append_left _ hb)
      · have hje : j = els.length := by rw [List.length_append] at h; simp at h; omega
        subst hje
        rw [hee, hlast]; simp only [Nat.lt_irrefl, if_false]; exact a1)
    (fun j h h' => by
      by_cases hj : j < els.length
      · rw [hel j hj, hit j (he ▸ hj)]; simp only [if_pos hj]; exact (g2 j hj (he ▸ hj)).frame fun b hb => keep j hj b (List.mem_append_right _ (List.mem_append_left _ hb))
      · have hje : j = els.length := by rw [List.length_append] at h; simp at h; omega
        subst hje
        rw [hee, hlast]; simp only [Nat.lt_irrefl, if_false]; exact a2)
    (fun j h h' => by
      by_cases hj : j < els.length
      · rw [hel j hj, hit j (he ▸ hj)]; simp only [if_pos hj]; exact (g3 j hj (he ▸ hj)).frame fun b hb => keep j hj b (List.mem_append_right _ (List.mem_append_right _ hb))
      · have hje : j = els.length := by rw [List.length_append] at h; simp at h; omega
        subst hje
        rw [hee, hlast]; simp only [Nat.lt_irrefl, if_false]; exact a3)
  have hF : ((List.range (els ++ [e]).length).flatMap fun j => (if j < els.length then f1 j else G1) ++ ((if j < els.length then f2 j else G2) ++ (if j < els.length then f3 j else G3))) = ((List.range els.length).flatMap fun j => f1 j ++ (f2 j ++ f3 j)) ++ (G1 ++ (G2 ++ G3)) := by
    rw [List.length_append, List.length_singleton, List.range_succ, List.flatMap_append]
    congr 1
    · refine flatMap_same fun j hj => ?_
      have := List.mem_range.1 hj
      simp only [if_pos this]
    · simp
  rw [hF] at main
  exact main

/-- One new block. -/
theorem own_lit (w : World) (T : TypeId) (n size : Nat) (cs : List Value) (h : cs.length = n * size) (hn : n ≤ maxLen) : Own (w.alloc (.cells cs.toArray T)) T size (.slice (some ⟨w.heap.size, 0, none⟩) n n) n cs (some w.heap.size) :=
  ⟨h, .inr ⟨w.heap.size, 0, n, cs.toArray, rfl, rfl, heap_alloc_new w _, Nat.le_refl _, hn, by simp [h], by rw [← h]; simp⟩⟩
end Go.My
