/- A book of lists of several kinds: one more list; what looking leaves. -/
import Derived.Test.YtcldcigopkfmmaaGreatDoorGk
namespace Go.Proofs.YtcldcigopkfmmaaGreatDoor
open Go.RowKit Go.My
theorem marks_add (κ : Kd) (c n m : Nat) : marks κ c n ++ marks κ c m = marks κ c (n + m) := by
  unfold marks
  rw [← List.flatten_append, List.replicate_append_replicate]

/-- Nothing of what was there has turned. -/
def Still (w : World) (g : Tags) (W : World) : Prop := ∃ g', Turn w g W g' []
theorem Still.refl (w : World) (g : Tags) : Still w g w := ⟨g, Turn.refl _ _ _⟩
theorem still_below {w W W' : World} {g : Tags} (hb : Below W.heap.size W W') (h : Still w g W) : Still w g W' := by
  obtain ⟨g', h⟩ := h
  exact ⟨_, h.trans (Turn.of_below hb g' 901) (V := []) (by simp) (by simp)⟩
theorem keepL {P : World → Prop} {w W W' : World} {g : Tags} (KS : Hid (∀ W, Still w g W → P W ∧ Still w g W)) (h : P W ∧ Still w g W) (hb : Below W.heap.size W W') : P W' ∧ Still w g W' := KS.out W' (still_below hb h.2)
theorem still_drew {w W : World} {g : Tags} (h : Still w g W) : Still w g W.drew := by
  obtain ⟨g', h⟩ := h
  exact ⟨_, h.trans (Turn.drew W g') (V := []) (by simp) (by simp)⟩
theorem still_tab {w W : World} {g : Tags} (h : Tab w g) (k : Still w g W) : ∃ g', Tab W g' := by
  obtain ⟨g', k⟩ := k
  exact ⟨g', h.turn k (by simp)⟩

def Look1 (wx : World) (gx : Tags) (n gk : Nat) (v5 : Value) (wr : World) : Prop := ∃ k : Nat, k ≤ n ∧ gk = n - k ∧ v5 = .int .i64 (k : Int) ∧ Still wx gx wr

/-- A list, the longer one, while the book looks. -/
theorem look_long {κ : Kd} (hκ : κ.Good) {w : World} {g : Tags} {t : Nat} {v : Value} {n num k : Nat} {la : Option Addr} {lc : Nat} (h : Grown w g t κ.et κ.size v n (marks κ num n) (.slice la (n + 40) lc) 40 (marks κ num 40)) (hk : k < n + 40) :
    ∃ b1 off1, la = some ⟨b1, off1, none⟩ ∧ ∀ W, Still w g W → ∀ j, j < κ.size → W.cell? ⟨b1, off1 + (k * κ.size + j), none⟩ = (κ.mark num)[j]? := by
  obtain ⟨b, off, cap, hv, hg, _, _, hlt, hc⟩ := h.2.1.cell (by omega)
  cases hv
  refine ⟨b, off, rfl, fun W ⟨g', T⟩ j hj => ?_⟩
  have hb : k * κ.size + j < (n + 40) * κ.size := by
    have := Nat.mul_le_mul_right κ.size (Nat.succ_le_of_lt hk)
    rw [Nat.succ_mul] at this; omega
  rw [World.cell?_of_block (T.block b hlt (by simp)), (hc _ hb).1, marks_add, marks_at hκ _ _ _ _ hk hj]
theorem look_short {κ : Kd} (hκ : κ.Good) {w : World} {g : Tags} {t : Nat} {va : Option Addr} {vc n num k : Nat} {u : Value} (h : Grown w g t κ.et κ.size (.slice va n vc) n (marks κ num n) u 40 (marks κ num 40)) (hk : k < n) :
    ∃ b1 off1, va = some ⟨b1, off1, none⟩ ∧ ∀ W, Still w g W → ∀ j, j < κ.size → W.cell? ⟨b1, off1 + (k * κ.size + j), none⟩ = (κ.mark num)[j]? := by
  obtain ⟨b, off, cap, hv, hc⟩ := h.cell (by omega)
  cases hv
  refine ⟨b, off, rfl, fun W ⟨g', T⟩ j hj => ?_⟩
  have e := marks_at hκ num n k j hk hj
  have hx : (κ.mark num)[j]? = some ((κ.mark num)[j]'(by rw [hκ.len]; exact hj)) := List.getElem?_eq_getElem _
  have h0 := hc (k * κ.size + j) _ (e.trans hx)
  rw [World.cell?_of_block (T.block b (World.block_lt_of_cell? _ _ h0) (by simp)), h0, hx]

/-- What the append of one more list leaves. -/
structure KeepAt (κ : Kd) (w : World) (g : Tags) (bp : Nat) (cs : Array Value) (hs : List Ent) (x : Ent) (vl : Value) (w2 : World) (g2 : Tags) : Prop where
  cell : ∃ u, w2.cell? ⟨bp, κ.fi, none⟩ = some u
  froz : w2.frozen? ⟨bp, κ.fi, none⟩ = false
  done : Turn w g (w2.setCell ⟨bp, κ.fi, none⟩ vl) g2 [801, arrTag κ] ∧ Book κ (w2.setCell ⟨bp, κ.fi, none⟩ vl) g2 bp ((cs.setIfInBounds 0 (.int .i64 (x.num : Int))).setIfInBounds κ.fi vl) (hs ++ [x])
theorem arr_801 (κ : Kd) : arrTag κ ∉ [801] := by unfold arrTag; simp; omega
theorem arr_901 (κ : Kd) (h : κ.no < 8) : arrTag κ ∉ [901] := by unfold arrTag; simp; omega
theorem not_arr (κ : Kd) (h : κ.no < 8) (t : Nat) (h2 : t < 810 ∨ 820 < t) : t ∉ [arrTag κ] := by unfold arrTag; simp; omega
theorem keep_at {κ : Kd} (hκ : κ.Good) {w : World} {g : Tags} {bp : Nat} {cs : Array Value} {hs : List Ent} {x : Ent} (hB : Book κ w g bp cs hs) (hn : x.n ≤ 1000000000) (hx : 0 < x.num ∧ x.num ≤ 1000000000) (hf : hs.length < 1000000000) {w1 : World} (hw1 : w.setCell ⟨bp, 0, none⟩ (.int .i64 (x.num : Int)) = w1) {o : Obj} {w2 : World} {g2 : Tags} {ao : Option Addr} {cap : Nat}
    (hO : Owns w2 g2 (arrTag κ) κ.ht 3 (.slice ao (hs.length + 1) cap) (hs.length + 1) (rows hs ++ x.cells))
    (hT : Turn (w1.drew.alloc o) (g.ext w1.drew.heap.size 901) w2 g2 [arrTag κ]) : KeepAt κ w g bp cs hs x (.slice ao (hs.length + 1) cap) w2 g2 := by
  subst hw1
  obtain ⟨T1, B1⟩ := hB.box.store 0 (.int .i64 (x.num : Int))
  have T2 := (T1.trans (Turn.drew _ g) (V := [801]) (by simp) (by simp)).trans (Turn.alloc _ g 901 o) (V := [801]) (by simp) (by simp)
  have B2 := (B1.turn (Turn.drew _ g) (by simp)).turn (Turn.alloc _ g 901 o) (by simp)
  have B3 := B2.turn hT (not_arr κ hκ.lt _ (.inl (by decide)))
  obtain ⟨vb, hvb, hA⟩ := hB.arr
  have hfi := hκ.fi
  have hsz : κ.fi < cs.size := (Array.getElem?_eq_some_iff.1 hvb).1
  obtain ⟨T4, B4⟩ := B3.store κ.fi (.slice ao (hs.length + 1) cap)
  have c1 := B3.cell κ.fi
  have hget : (cs.setIfInBounds 0 (.int .i64 (x.num : Int)))[κ.fi]? = some vb := by rw [Array.getElem?_setIfInBounds, if_neg (by omega)]; exact hvb
  have T5 := (T2.trans hT (V := [801, arrTag κ]) (by simp) (by simp)).trans T4 (V := [801, arrTag κ]) (by simp) (by simp)
  have h0 : 0 ∉ [801, arrTag κ] := by unfold arrTag; simp; omega
  have hrows : rows (hs ++ [x]) = rows hs ++ x.cells := by simp [rows]
  refine ⟨⟨vb, c1.1.trans hget⟩, c1.2, T5, ⟨B4, ⟨.slice ao (hs.length + 1) cap, ?_, ?_⟩, ?_, ?_, hB.tab.turn T5 h0⟩⟩
  · rw [Array.getElem?_setIfInBounds]; simp [hsz]
  · rw [hrows, List.length_append]; exact hO.turn T4 (arr_801 κ)
  · rw [List.length_append]; simp; omega
  · intro y hy
    rcases List.mem_append.1 hy with h | h
    · exact hB.ok y h
    · rw [List.mem_singleton.1 h]; exact ⟨hn, hx⟩
theorem keep_cells {κ : Kd} (hκ : κ.Good) {w : World} {g : Tags} {bp : Nat} {cs : Array Value} {hs : List Ent} (hB : Book κ w g bp cs hs) (n vl : Value) : ((cs.setIfInBounds 0 n).setIfInBounds κ.fi vl)[0]? = some n ∧ ∀ i, i ≠ 0 → i ≠ κ.fi → ((cs.setIfInBounds 0 n).setIfInBounds κ.fi vl)[i]? = cs[i]? := by
  obtain ⟨vb, hvb, _⟩ := hB.arr
  have hfi := hκ.fi
  have hsz : κ.fi < cs.size := (Array.getElem?_eq_some_iff.1 hvb).1
  refine ⟨?_, fun i h1 h2 => ?_⟩
  · rw [Array.getElem?_setIfInBounds, if_neg (by omega), Array.getElem?_setIfInBounds, if_pos rfl, if_pos (by omega)]
  · rw [Array.getElem?_setIfInBounds, if_neg (by omega), Array.getElem?_setIfInBounds, if_neg (by omega)]
/-- The lists of another kind are as they were. -/
theorem Book.other {κ κ' : Kd} {w w' : World} {g g' : Tags} {bp : Nat} {cs cs' : Array Value} {hs hs' : List Ent} (h : Book κ' w g bp cs hs') (k : Book κ w' g' bp cs' hs) (T : Turn w g w' g' [801, arrTag κ]) (hne : κ'.no ≠ κ.no) (h0 : κ'.fi ≠ 0) (hf : κ'.fi ≠ κ.fi) (hc : ∀ i, i ≠ 0 → i ≠ κ.fi → cs'[i]? = cs[i]?) : Book κ' w' g' bp cs' hs' := by
  obtain ⟨vb, h1, h2⟩ := h.arr
  exact ⟨k.box, ⟨vb, (hc _ h0 hf).trans h1, h2.turn T (by unfold arrTag; simp; omega)⟩, h.few, h.ok, k.tab⟩
end Go.Proofs.YtcldcigopkfmmaaGreatDoor
