/- A book of texts, nodes, functions: what it holds, and where that lies. -/
import Derived.Test.YtcldcigopkfmmaaGreatDoorGkTextBQ
import Derived.Test.YtcldcigopkfmmaaGreatDoorGkNodeBQ
import Derived.Test.YtcldcigopkfmmaaGreatDoorGkFuncBQ
import Derived.Test.YtcldcigopkfmmaaGreatDoorTrD2
namespace Go.Nd
/-- How many lists there are, itself and all in it. -/
def Ns.cn : Ns → Nat
  | .nil => 1
  | .cons _ _ l b e r => l.cn + b.cn + e.cn + r.cn
def nd3 (x : Nd) : Nat := x.l.cn + x.body.cn + x.els.cn
theorem cn_items : ∀ xs : Ns, xs.cn = (xs.items.map nd3).sum + 1 := by
  intro xs
  induction xs with
  | nil => rfl
  | cons k t l b e r _ _ _ i4 =>
    show l.cn + b.cn + e.cn + r.cn = _
    rw [Ns.items_cons, List.map_cons, List.sum_cons, i4]
    show _ = l.cn + b.cn + e.cn + _ + 1
    omega
theorem cn_pos (xs : Ns) : 1 ≤ xs.cn := by rw [cn_items]; omega
theorem len_sum (l : List Nd) : l.length ≤ (l.map nd3).sum := by
  induction l with
  | nil => exact Nat.le_refl _
  | cons x l ih => have := cn_pos x.l; simp only [List.length_cons, List.map_cons, List.sum_cons, nd3] at *; omega
theorem cn_len (xs : Ns) : xs.len ≤ xs.cn := by have := len_sum xs.items; rw [cn_items]; show xs.items.length ≤ _; omega
theorem sum_take {α : Type} (f : α → Nat) (l : List α) (i : Nat) (hi : i < l.length) : ((l.take (i + 1)).map f).sum = ((l.take i).map f).sum + f l[i] := by
  rw [List.take_succ_eq_append_getElem hi, List.map_append, List.sum_append]; simp
theorem sum_take_le {α : Type} (f : α → Nat) (l : List α) (i : Nat) : ((l.take i).map f).sum ≤ (l.map f).sum := by
  have e : (l.map f).sum = ((l.take i).map f).sum + ((l.drop i).map f).sum := by rw [← List.sum_append, ← List.map_append, List.take_append_drop]
  omega
end Go.Nd
namespace Go.Proofs.YtcldcigopkfmmaaGreatDoor
open Go.RowKit Go.My Go.Nd

/-- Entries of a kind, and the blocks that they lie in. -/
def HeldK (κ : Kd) (w : World) (es : List Ent) (F : List Nat) : Prop :=
  ∃ ks : List (Option Nat), ks.length = es.length ∧ (∀ j (h : j < es.length) (h' : j < ks.length), ∃ ys, Go.My.Own w κ.et κ.size es[j].v es[j].n ys ks[j]) ∧ (ks.flatMap (·.toList)).Perm F
theorem HeldK.nil (κ : Kd) (w : World) : HeldK κ w [] [] := ⟨[], rfl, (fun _ h => absurd h (Nat.not_lt_zero _)), List.Perm.refl _⟩
theorem HeldK.one {κ : Kd} {w : World} {e : Ent} {ys : List Value} {k : Option Nat} (h : Go.My.Own w κ.et κ.size e.v e.n ys k) : HeldK κ w [e] k.toList := by
  refine ⟨[k], rfl, fun j h1 h2 => ?_, by simp⟩
  obtain rfl : j = 0 := by simp at h1; omega
  exact ⟨ys, h⟩
theorem HeldK.app {κ : Kd} {w : World} {a b : List Ent} {F G : List Nat} (h : HeldK κ w a F) (k : HeldK κ w b G) : HeldK κ w (a ++ b) (F ++ G) := by
  obtain ⟨ks, l1, o1, p1⟩ := h
  obtain ⟨js, l2, o2, p2⟩ := k
  refine ⟨ks ++ js, by rw [List.length_append, List.length_append, l1, l2], fun j h1 h2 => ?_, by rw [List.flatMap_append]; exact p1.append p2⟩
  by_cases hj : j < a.length
  · rw [List.getElem_append_left hj, List.getElem_append_left (by omega)]
    exact o1 j hj (by omega)
  · rw [List.getElem_append_right (by omega), List.getElem_append_right (by omega)]
    simp only [l1]
    exact o2 _ _ _
theorem HeldK.perm {κ : Kd} {w : World} {a : List Ent} {F G : List Nat} (h : HeldK κ w a F) (p : F.Perm G) : HeldK κ w a G := by
  obtain ⟨ks, l1, o1, p1⟩ := h
  exact ⟨ks, l1, o1, p1.trans p⟩
theorem HeldK.frame {κ : Kd} {w w' : World} {a : List Ent} {F : List Nat} (h : HeldK κ w a F) (hs : ∀ b ∈ F, w'.heap[b]? = w.heap[b]?) : HeldK κ w' a F := by
  obtain ⟨ks, l1, o1, p1⟩ := h
  refine ⟨ks, l1, fun j h1 h2 => ?_, p1⟩
  obtain ⟨ys, ho⟩ := o1 j h1 h2
  refine ⟨ys, ho.frame fun b hb => hs b (p1.mem_iff.1 (List.mem_flatMap.2 ⟨ks[j], List.getElem_mem h2, by rw [hb]; simp⟩))⟩
theorem HeldK.lt {κ : Kd} {w : World} {a : List Ent} {F : List Nat} (h : HeldK κ w a F) : ∀ b ∈ F, b < w.heap.size := by
  obtain ⟨ks, l1, o1, p1⟩ := h
  intro b hb
  obtain ⟨k, hk, hb⟩ := List.mem_flatMap.1 (p1.mem_iff.2 hb)
  obtain ⟨j, hj, rfl⟩ := List.getElem_of_mem hk
  obtain ⟨ys, ho⟩ := o1 j (by omega) hj
  exact ho.lt b (by simpa using hb)

/-- The owners of what the book itself is made of. -/
def bookT : List Nat := [801, 810, 812, 813]
theorem low_book {t : Nat} (h : t < 800) : t ∉ bookT := by unfold bookT; simp; omega
/-- Blocks that are none of the book's. -/
def Low (g : Tags) (F : List Nat) : Prop := ∀ b ∈ F, g b < 800
theorem Low.turn {w w' : World} {g g' : Tags} {T : List Nat} {F : List Nat} (h : Low g F) (k : Turn w g w' g' T) (hF : ∀ b ∈ F, b < w.heap.size) : Low g' F := fun b hb => by rw [k.old b (hF b hb)]; exact h b hb
theorem Low.keep {w w' : World} {g g' : Tags} {F : List Nat} (h : Low g F) (k : Turn w g w' g' bookT) (hF : ∀ b ∈ F, b < w.heap.size) : ∀ b ∈ F, w'.heap[b]? = w.heap[b]? := fun b hb => k.block b (hF b hb) (low_book (h b hb))
theorem Low.left {g : Tags} {F G : List Nat} (h : Low g (F ++ G)) : Low g F := fun b hb => h b (List.mem_append_left _ hb)
theorem Low.right {g : Tags} {F G : List Nat} (h : Low g (F ++ G)) : Low g G := fun b hb => h b (List.mem_append_right _ hb)

/-- The book holds these lists of texts, nodes, functions, and no others. -/
structure Bk3 (w : World) (g : Tags) (bp tot : Nat) (cs : Array Value) (hT hN hF : List Ent) : Prop where
  t : Book kText w g bp cs hT
  n : Book kNode w g bp cs hN
  f : Book kFunc w g bp cs hF
  num : cs[0]? = some (.int .i64 (tot : Int))
  none_ : ∀ i, i ≠ 0 → i ≠ 3 → i ≠ 8 → i ≠ 9 → i ≤ 12 → cs[i]? = some (.slice none 0 0)
  len : hT.length ≤ tot ∧ hN.length ≤ tot ∧ hF.length ≤ tot
theorem Bk3.turn {w w' : World} {g g' : Tags} {T : List Nat} {bp tot : Nat} {cs : Array Value} {hT hN hF : List Ent} (h : Bk3 w g bp tot cs hT hN hF) (k : Turn w g w' g' T) (h0 : 0 ∉ T) (h1 : ∀ t ∈ bookT, t ∉ T) : Bk3 w' g' bp tot cs hT hN hF :=
  ⟨h.t.turn k h0 (h1 801 (by decide)) (h1 810 (by decide)), h.n.turn k h0 (h1 801 (by decide)) (h1 812 (by decide)), h.f.turn k h0 (h1 801 (by decide)) (h1 813 (by decide)), h.num, h.none_, h.len⟩
theorem Bk3.next {w w' : World} {g g' : Tags} {bp tot : Nat} {cs : Array Value} {hT hN hF : List Ent} (h : Bk3 w g bp tot cs hT hN hF) (k : Turn w g w' g' []) : Bk3 w' g' bp tot cs hT hN hF := h.turn k (by simp) (fun _ _ => by simp)
theorem book_sub {κ : Kd} (h : arrTag κ ∈ bookT) : ∀ t, t ∈ [801, arrTag κ] → t ∈ bookT := by
  intro t ht
  rcases List.mem_cons.1 ht with rfl | ht
  · decide
  · rw [List.mem_singleton.1 ht]; exact h

/-- A list of texts is told. -/
theorem texts_add {w : World} {g : Tags} {bp tot : Nat} {cs : Array Value} {hT hN hF : List Ent} (hB : Bk3 w g bp tot cs hT hN hF) (ht : tot < 1000000000) (va : Option Addr) (n vc : Nat) (hn : n ≤ 1000000000) {Q : Ending → World → Prop}
    (h : ∀ w' g' cs', Turn w g w' g' bookT → Bk3 w' g' bp (tot + 1) cs' (hT ++ [⟨va, n, vc, none, 0, 0, tot + 1⟩]) hN hF → Q (.returned (.tuple #[])) w') :
    Calls Tryz.prog 144 #[.pointer (some ⟨bp, 0, none⟩), .slice va n vc] w Q := by
  have H := Lib.hid h
  have X := Lib.hid (And.intro hB (And.intro ht hn))
  clear h hB ht hn
  go_enter Tryz.func144, Tryz.ntmps144
  go_wp2_with fail
  refine keep_Text X.out.1.t X.out.1.num X.out.2.1 (by have := X.out.1.len; have := X.out.2.1; omega) va n vc X.out.2.2 fun w' g' cs' T B c0 N => ?_
  have X2 := Lib.hid (And.intro (T.mono (book_sub (by decide))) (show Bk3 w' g' bp (tot + 1) cs' (hT ++ [⟨va, n, vc, none, 0, 0, tot + 1⟩]) hN hF from
    ⟨B, X.out.1.n.other B T (by decide) (by decide) (by decide) N, X.out.1.f.other B T (by decide) (by decide) (by decide) N, c0, (fun i i0 i3 i8 i9 i12 => (N i i0 i3).trans (X.out.1.none_ i i0 i3 i8 i9 i12)), by have := X.out.1.len; rw [List.length_append]; simp; omega⟩))
  clear T B c0 N
  go_wp2_with fail
  go_end0
  exact H.out w' g' cs' X2.out.1 X2.out.2
end Go.Proofs.YtcldcigopkfmmaaGreatDoor
