/- A book of lists of bytes: one more. -/
import Derived.Test.YtoedalocfepkoaaGreatDoorBk4
namespace Go.Proofs.YtoedalocfepkoaaGreatDoor
open Go.RowKit Go.My

theorem heldElem : Elem Tryz.prog 28 79 3 56 (.agg #[.slice none 0 0, .slice none 0 0, .int .i64 0]) := Elem.mk' Tryz.underlying28 (by kernel_rfl) rfl (by decide)

/-- What the append leaves. -/
structure KeepAt (w : World) (g : Tags) (bp : Nat) (cs : Array Value) (hs : List Ent) (x : Ent) (vl : Value) (w2 : World) (g2 : Tags) : Prop where
  cell : ∃ u, w2.cell? ⟨bp, 1, none⟩ = some u
  froz : w2.frozen? ⟨bp, 1, none⟩ = false
  done : Turn w g (w2.setCell ⟨bp, 1, none⟩ vl) g2 [801, 802] ∧ Book (w2.setCell ⟨bp, 1, none⟩ vl) g2 bp ((cs.setIfInBounds 0 (.int .i64 (x.num : Int))).setIfInBounds 1 vl) (hs ++ [x])

theorem keep_at {w : World} {g : Tags} {bp : Nat} {cs : Array Value} {hs : List Ent} {x : Ent} (hB : Book w g bp cs hs) (hn : x.n ≤ 1000000000) (hx : 0 < x.num ∧ x.num ≤ 1000000000) (hf : hs.length < 1000000000) {w1 : World} (hw1 : w.setCell ⟨bp, 0, none⟩ (.int .i64 (x.num : Int)) = w1) {o : Obj} {w2 : World} {g2 : Tags} {ao : Option Addr} {cap : Nat}
    (hO : Owns w2 g2 802 79 3 (.slice ao (hs.length + 1) cap) (hs.length + 1) (rows hs ++ x.cells))
    (hT : Turn (w1.drew.alloc o) (g.ext w1.drew.heap.size 901) w2 g2 [802]) : KeepAt w g bp cs hs x (.slice ao (hs.length + 1) cap) w2 g2 := by
  subst hw1
  obtain ⟨T1, B1⟩ := hB.box.store 0 (.int .i64 (x.num : Int))
  have T2 := (T1.trans (Turn.drew _ g) (V := [801]) (by simp) (by simp)).trans (Turn.alloc _ g 901 o) (V := [801]) (by simp) (by simp)
  have B2 := (B1.turn (Turn.drew _ g) (by simp)).turn (Turn.alloc _ g 901 o) (by simp)
  have B3 := B2.turn hT (by decide)
  obtain ⟨vb, hvb, hA⟩ := hB.arr
  have hsz : 1 < cs.size := (Array.getElem?_eq_some_iff.1 hvb).1
  obtain ⟨T4, B4⟩ := B3.store 1 (.slice ao (hs.length + 1) cap)
  have c1 := B3.cell 1
  have hget : (cs.setIfInBounds 0 (.int .i64 (x.num : Int)))[1]? = some vb := by rw [Array.getElem?_setIfInBounds]; simp [hvb]
  have T5 := (T2.trans hT (V := [801, 802]) (by simp) (by simp)).trans T4 (V := [801, 802]) (by simp) (by simp)
  have hrows : rows (hs ++ [x]) = rows hs ++ x.cells := by simp [rows]
  refine ⟨⟨vb, c1.1.trans hget⟩, c1.2, T5, ⟨B4, ⟨.slice ao (hs.length + 1) cap, ?_, ?_⟩, ?_, ?_⟩⟩
  · rw [Array.getElem?_setIfInBounds]; simp [hsz]
  · rw [hrows, List.length_append]; exact hO.turn T4 (by decide)
  · rw [List.length_append]; simp; omega
  · intro y hy
    rcases List.mem_append.1 hy with h | h
    · exact hB.ok y h
    · rw [List.mem_singleton.1 h]; exact ⟨hn, hx⟩

theorem keep_cells {w : World} {g : Tags} {bp : Nat} {cs : Array Value} {hs : List Ent} (hB : Book w g bp cs hs) (n vl : Value) : ((cs.setIfInBounds 0 n).setIfInBounds 1 vl)[0]? = some n ∧ (NoOther cs → NoOther ((cs.setIfInBounds 0 n).setIfInBounds 1 vl)) := by
  obtain ⟨vb, hvb, _⟩ := hB.arr
  have hsz : 1 < cs.size := (Array.getElem?_eq_some_iff.1 hvb).1
  refine ⟨?_, fun h i h1 h2 => ?_⟩
  · rw [Array.getElem?_setIfInBounds, if_neg (by decide), Array.getElem?_setIfInBounds, if_pos rfl, if_pos (by omega)]
  · rw [Array.getElem?_setIfInBounds, if_neg (by omega), Array.getElem?_setIfInBounds, if_neg (by omega)]
    exact h i h1 h2

set_option maxRecDepth 100000 in
set_option maxHeartbeats 4000000 in
theorem keep_t {w : World} {g : Tags} {bp : Nat} {cs : Array Value} {hs : List Ent} (hB : Book w g bp cs hs) {tot : Nat} (h0 : cs[0]? = some (.int .i64 (tot : Int))) (ht : tot < 1000000000) (hf : hs.length < 1000000000) (va : Option Addr) (n vc : Nat) (hn : n ≤ 1000000000) {Q : Ending → World → Prop}
    (h : ∀ w' g' cs', Turn w g w' g' [801, 802] → Book w' g' bp cs' (hs ++ [⟨va, n, vc, none, 0, 0, tot + 1⟩]) → cs'[0]? = some (.int .i64 ((tot + 1 : Nat) : Int)) → (NoOther cs → NoOther cs') → Q (.returned (.tuple #[])) w') :
    Calls Tryz.prog 31 #[.pointer (some ⟨bp, 0, none⟩), .slice va n vc] w Q := by
  have H := Lib.hid h
  obtain ⟨vb, hvb, hA⟩ := hB.arr
  obtain ⟨ao, cap, hform⟩ := hA.form
  subst hform
  have c0 : w.cell? ⟨bp, 0, none⟩ = some (.int .i64 (tot : Int)) := (hB.box.cell 0).1.trans h0
  have c0' := (hB.box.cell 0).2
  have t0 : (0 : Int) ≤ (tot : Int) := by omega
  have t1 : (tot : Int) < 1000000000 := by omega
  obtain ⟨T1, B1⟩ := hB.box.store 0 (.int .i64 ((tot : Int) + 1))
  have hget : (cs.setIfInBounds 0 (.int .i64 ((tot : Int) + 1)))[1]? = some (.slice ao hs.length cap) := by rw [Array.getElem?_setIfInBounds]; simp [hvb]
  have hsz : 1 < cs.size := (Array.getElem?_eq_some_iff.1 hvb).1
  have hget0 : (cs.setIfInBounds 0 (.int .i64 ((tot : Int) + 1)))[0]? = some (.int .i64 ((tot : Int) + 1)) := by rw [Array.getElem?_setIfInBounds, if_pos rfl, if_pos (by omega)]
  have X0 := Lib.hid (And.intro hB (And.intro h0 ((hA.turn T1 (by decide)).turn (Turn.drew _ g) (by simp))))
  have e1 : (w.setCell ⟨bp, 0, none⟩ (.int .i64 ((tot : Int) + 1))).cell? ⟨bp, 1, none⟩ = some (.slice ao hs.length cap) := (B1.cell 1).1.trans hget
  have e0 : (w.setCell ⟨bp, 0, none⟩ (.int .i64 ((tot : Int) + 1))).cell? ⟨bp, 0, none⟩ = some (.int .i64 ((tot : Int) + 1)) := (B1.cell 0).1.trans hget0
  have e1' : ∀ o, ((w.setCell ⟨bp, 0, none⟩ (.int .i64 ((tot : Int) + 1))).alloc o).cell? ⟨bp, 1, none⟩ = some (.slice ao hs.length cap) := fun o => ((B1.turn (Turn.alloc _ g 901 o) (by simp)).cell 1).1.trans hget
  have e0' : ∀ o, ((w.setCell ⟨bp, 0, none⟩ (.int .i64 ((tot : Int) + 1))).alloc o).cell? ⟨bp, 0, none⟩ = some (.int .i64 ((tot : Int) + 1)) := fun o => ((B1.turn (Turn.alloc _ g 901 o) (by simp)).cell 0).1.trans hget0
  have hs1 : hs.length + 1 ≤ 1000000000 := by omega
  clear h hB hA hvb B1 T1 hget hget0 h0
  go_enter Tryz.func31, Tryz.ntmps31
  go_wp2_with fail
  generalize hw1 : w.setCell ⟨bp, 0, none⟩ (.int .i64 ((tot : Int) + 1)) = w1 at *
  have X1 := Lib.hid hw1
  clear hw1 c0 c0'
  go_region_law (refine step_append_t rfl (.tmp 15) (.tmp 22) rfl heldElem (g := g.ext w1.drew.heap.size 901) (tg := 802) rfl (X0.out.2.2.turn (Turn.alloc _ g 901 _) (by simp)) rfl (Src.lit #[.slice va n vc, .slice none 0 0, .int .i64 ((tot : Int) + 1)] 79 rfl rfl) (by simp [Value.oneCell']) (by unfold maxLen; omega) (by omega) ?_; intro a2 c2 w2 g2 O2 T2; have X2 := Lib.hid (keep_at (x := ⟨va, n, vc, none, 0, 0, tot + 1⟩) X0.out.1 hn ⟨Nat.succ_pos _, ht⟩ hf X1.out O2 T2); clear O2 T2; obtain ⟨⟨u, e2⟩, e3, _⟩ := X2.out)
  all_goals
    go_wp2_with fail
    go_end0
    exact H.out _ _ _ X2.out.done.1 X2.out.done.2 (keep_cells X0.out.1 _ _).1 (keep_cells X0.out.1 _ _).2

/-- Bytes: the same. -/
theorem add_t {w : World} {g : Tags} {bp : Nat} {cs : Array Value} {hs : List Ent} (hB : Book w g bp cs hs) {tot : Nat} (h0 : cs[0]? = some (.int .i64 (tot : Int))) (ht : tot < 1000000000) (hf : hs.length < 1000000000) (va : Option Addr) (n vc : Nat) (hn : n ≤ 1000000000) {Q : Ending → World → Prop}
    (h : ∀ w' g' cs', Turn w g w' g' [801, 802] → Book w' g' bp cs' (hs ++ [⟨va, n, vc, none, 0, 0, tot + 1⟩]) → cs'[0]? = some (.int .i64 ((tot + 1 : Nat) : Int)) → (NoOther cs → NoOther cs') → Q (.returned (.tuple #[])) w') :
    Calls Tryz.prog 19 #[.pointer (some ⟨bp, 0, none⟩), .slice va n vc] w Q := by
  have H := Lib.hid h
  have X := Lib.hid (And.intro hB (And.intro h0 (And.intro ht (And.intro hf hn))))
  clear h hB h0 ht hf hn
  go_enter Tryz.func19, Tryz.ntmps19
  go_wp2_with fail
  refine keep_t X.out.1 X.out.2.1 X.out.2.2.1 X.out.2.2.2.1 va n vc X.out.2.2.2.2 fun w' g' cs' T B c0 N => ?_
  have X2 := Lib.hid (And.intro T (And.intro B (And.intro c0 N)))
  clear T B c0 N
  go_wp2_with fail
  go_end0
  exact H.out w' g' cs' X2.out.1 X2.out.2.1 X2.out.2.2.1 X2.out.2.2.2

/-- The new one is the call's own, too. -/
theorem Filled.snoc {w : World} {g : Tags} {hs : List Ent} (h : Filled w g hs 0) {x : Ent} {xs : List Value} (hx : Owns w g (entTag hs.length) bytesU8 1 x.v x.n xs) : Filled w g (hs ++ [x]) 0 := by
  intro j hj
  rw [if_neg (Nat.not_lt_zero _)]
  by_cases hlt : j < hs.length
  · have := h j hlt
    rw [if_neg (Nat.not_lt_zero _)] at this
    rw [List.getElem_append_left hlt]
    exact this
  · have hj' : j = hs.length := by rw [List.length_append] at hj; simp at hj; omega
    subst hj'
    rw [List.getElem_append_right (Nat.le_refl _)]
    simp only [Nat.sub_self, List.getElem_singleton]
    exact ⟨xs, hx⟩
theorem Filled.nil (w : World) (g : Tags) : Filled w g [] 0 := fun j hj => absurd hj (Nat.not_lt_zero _)

/-- A new book. -/
theorem book_new (w : World) (g : Tags) : Book (w.alloc (.cells #[.int .i64 0, .slice none 0 0, .slice none 0 0, .slice none 0 0, .slice none 0 0, .slice none 0 0, .slice none 0 0, .slice none 0 0, .slice none 0 0, .slice none 0 0, .slice none 0 0, .slice none 0 0, .slice none 0 0] 41)) (g.ext w.heap.size 801) w.heap.size
    #[.int .i64 0, .slice none 0 0, .slice none 0 0, .slice none 0 0, .slice none 0 0, .slice none 0 0, .slice none 0 0, .slice none 0 0, .slice none 0 0, .slice none 0 0, .slice none 0 0, .slice none 0 0, .slice none 0 0] [] :=
  ⟨Bx.alloc w g _ 801 _, ⟨_, rfl, Owns.nil _ _ _ _ _⟩, by decide, fun x hx => by cases hx⟩
theorem noOther_new : NoOther #[.int .i64 0, .slice none 0 0, .slice none 0 0, .slice none 0 0, .slice none 0 0, .slice none 0 0, .slice none 0 0, .slice none 0 0, .slice none 0 0, .slice none 0 0, .slice none 0 0, .slice none 0 0, .slice none 0 0] := by
  intro i h1 h2
  obtain rfl | rfl | rfl | rfl | rfl | rfl | rfl | rfl | rfl | rfl | rfl : i = 2 ∨ i = 3 ∨ i = 4 ∨ i = 5 ∨ i = 6 ∨ i = 7 ∨ i = 8 ∨ i = 9 ∨ i = 10 ∨ i = 11 ∨ i = 12 := by omega
  all_goals rfl
end Go.Proofs.YtoedalocfepkoaaGreatDoor
