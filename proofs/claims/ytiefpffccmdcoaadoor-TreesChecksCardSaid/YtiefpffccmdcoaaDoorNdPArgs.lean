/- Arguments, opened: texts, functions, a program. No program in sight. -/
import Derived.Test.YtiefpffccmdcoaaDoorNdArgs
import Derived.Test.YtiefpffccmdcoaaDoorNdProg
namespace Go.My
open Go.RowKit Go.Nd

structure TextTypes (P : Program) (ta ts : TypeId) : Prop where
  a : P.underlying ta = some (.slice ts)
  s : P.underlying ts = some .string
  cs : P.cellsOf ts = 1
  bs : P.bytesOf ts = 16

theorem text_of_trod {H : Type} {enc : TypeId × Value → H} {P : Program} {W : World} {ts : TypeId} (hts : P.underlying ts = some .string) {n : Nat} {cs : List Value} {y : DataW H × List MemPlace}
    (h : DataW.trod enc P W 0 (fun _ => true) true n ts cs = some y) (hw : Light P ts y.1) : ∃ t : List UInt8, cs = [.string (tx t)] ∧ t.length ≤ 140737488351232 := by
  obtain ⟨s, hs, hy, _⟩ := DataW.trod_string hts h
  refine ⟨s.data.toList, by rw [hs]; rfl, ?_⟩
  have := hw s.data.toList.length (by rw [hy]; simp [DataW.weights])
  simpa [reachBytes] using this

open Go.ChangeShapes Go.WideShapes Go.ChangeAt Go.Deep in
theorem texts_of_trod {H : Type} {enc : TypeId × Value → H} {P : Program} {W : World} {ta ts : TypeId} (T : TextTypes P ta ts) {n : Nat} {v : Value} {y : DataW H × List MemPlace}
    (hf : DataW.trod enc P W 0 (fun _ => true) true n ta [v] = some y) (hw : Light P ta y.1) : ∃ l : List (List UInt8), TextsIn W (fun b => b < W.heap.size) false v l := by
  rcases DataW.trod_slice T.a hf with ⟨hvv, hy⟩ | ⟨a, len, cap, elems, rest, n', rfl, hvv, hy, _, hlc, hcm, hel, helem, hrest, _⟩
  · obtain rfl : v = .slice none 0 0 := by simpa using hvv
    exact ⟨[], none, 0, rfl, Nat.le_refl _, Nat.zero_le _, by decide, (fun e => by cases e), fun i hi => absurd hi (Nat.not_lt_zero _)⟩
  · obtain rfl : v = .slice (some a) len cap := by simpa using hvv
    rw [hy] at hw
    obtain ⟨hb, hd⟩ := hw.slice T.a
    rw [T.bs] at hb
    obtain ⟨hrl, _⟩ := hrest rfl
    have hlen : len * 16 ≤ 140737488351232 := by
      have h1 : (elems.map (·.1)).length = len := by simpa using hel
      rw [h1] at hb
      have h2 : len * 16 ≤ (len + (rest.map (·.1)).length) * 16 := Nat.mul_le_mul_right _ (Nat.le_add_right _ _)
      first | exact Nat.le_trans h2 hb | (unfold reachBytes at hb; omega)
    rw [T.cs] at helem
    have each : ∀ i, i < len → ∃ x : List UInt8, x.length ≤ 140737488351232 ∧ (∀ j, j < 1 → W.cell? ((a.add (i * 1)).add j) = [Value.string (tx x)][j]?) := by
      intro i hi
      have h1 := helem i hi
      have hie : i < elems.length := by omega
      rw [List.getElem?_eq_getElem hie] at h1
      cases hc : W.cells? 0 (a.add (i * 1)) 1 with
      | none => rw [hc] at h1; cases h1
      | some cs =>
        rw [hc] at h1
        have h1' : DataW.trod enc P W 0 (fun _ => true) true n' ts cs = some elems[i] := h1
        obtain ⟨t, rfl, ht⟩ := text_of_trod T.s h1' (hd _ (List.mem_map.2 ⟨_, List.getElem_mem hie, rfl⟩))
        exact ⟨t, ht, (World.cells?_some hc).2.2⟩
    obtain ⟨y, hy⟩ := choose_lt each
    refine ⟨(List.range len).map y, some a, cap, by simp, by simp; exact hlc, hcm, by simpa using hlen, (fun e => by cases e), fun i hi => ?_⟩
    have hi2 : i < len := by simpa using hi
    simp only [List.getElem_map, List.getElem_range]
    obtain ⟨h1, h4⟩ := hy i hi2
    obtain ⟨b, off, spot⟩ := a
    have c0 := h4 0 (by decide)
    have hspot : spot = none := by
      obtain ⟨_, h5⟩ := hy 0 (by omega)
      simpa [Addr.add] using World.cell?_spot (h5 0 (by decide))
    subst hspot
    rw [add_none, add_none] at c0
    rw [Nat.add_zero, Nat.mul_one] at c0
    exact ⟨b, off, rfl, World.block_lt_of_cell? W _ c0, c0, h1⟩

/-- The types of a function: a list of them, one, its arguments. -/
structure FnTypes (P : Program) (tF tf ta tl tn tk ts : TypeId) : Prop where
  node : NodeTypes P tl tn tk ts
  text : TextTypes P ta ts
  l : P.underlying tF = some (.slice tf)
  f : ∃ f0 f1 f2, P.underlying tf = some (.struct #[f0, f1, f2]) ∧ f0.type = ts ∧ f0.offset = 0 ∧ f1.type = ta ∧ f1.offset = 1 ∧ f2.type = tl ∧ f2.offset = 2
  cf : P.cellsOf tf = 3
  ca : P.cellsOf ta = 1
  bf : P.bytesOf tf = 64

theorem list3 {cs : List Value} (h : cs.length = 3) : ∃ c0 c1 c2, cs = [c0, c1, c2] := by
  match cs, h with
  | [c0, c1, c2], _ => exact ⟨c0, c1, c2, rfl⟩
theorem list3' {α : Type} {cs : List α} (h : cs.length = 3) : ∃ c0 c1 c2, cs = [c0, c1, c2] := by
  match cs, h with
  | [c0, c1, c2], _ => exact ⟨c0, c1, c2, rfl⟩

theorem fn_cells {H : Type} {enc : TypeId × Value → H} {P : Program} {W : World} {tF tf ta tl tn tk ts : TypeId} (T : FnTypes P tF tf ta tl tn tk ts) {n : Nat} {cs : List Value} {y : DataW H × List MemPlace}
    (h : DataW.trod enc P W 0 (fun _ => true) true n tf cs = some y) (hw : Light P tf y.1) :
    ∃ (f : Nd.Fn) (v1 v2 : Value), cs = [.string (tx f.name), v1, v2] ∧ f.name.length ≤ 140737488351232 ∧ TextsIn W (fun b => b < W.heap.size) false v1 f.args ∧ Nodes W (fun b => b < W.heap.size) false v2 f.body := by
  obtain ⟨f0, f1, f2, hn, e0, o0, e1, o1, e2, o2⟩ := T.f
  obtain ⟨xs, m, rfl, rfl, hc, hx, hf⟩ := DataW.trod_struct hn h
  rw [T.cf] at hc
  obtain ⟨c0, c1, c2, rfl⟩ := list3 hc
  obtain ⟨y0, y1, y2, rfl⟩ := list3' (show xs.length = 3 from hx)
  have g0 := hf 0 f0 rfl
  have g1 := hf 1 f1 rfl
  have g2 := hf 2 f2 rfl
  rw [e0, o0, T.node.cs] at g0
  rw [e1, o1, T.ca] at g1
  rw [e2, o2, T.node.cl] at g2
  have hl := hw.fields hn
  have l0 := hl 0 ts y0.1 (by simp [e0]) rfl
  have l1 := hl 1 ta y1.1 (by simp [e1]) rfl
  have l2 := hl 2 tl y2.1 (by simp [e2]) rfl
  obtain ⟨t, ht, htl⟩ := text_of_trod T.node.s (show DataW.trod enc P W 0 (fun _ => true) true m ts [c0] = some y0 from g0) l0
  obtain ⟨as, has⟩ := texts_of_trod T.text (show DataW.trod enc P W 0 (fun _ => true) true m ta [c1] = some y1 from g1) l1
  obtain ⟨bd, hbd⟩ := nodes_of_trod T.node m c2 y2 (show DataW.trod enc P W 0 (fun _ => true) true m tl [c2] = some y2 from g2) l2
  have ht' : c0 = .string (tx t) := by simpa using ht
  exact ⟨⟨t, as, bd⟩, c1, c2, by rw [ht'], htl, has, hbd⟩

open Go.ChangeShapes Go.WideShapes Go.ChangeAt Go.Deep in
theorem funcs_of_trod {H : Type} {enc : TypeId × Value → H} {P : Program} {W : World} {tF tf ta tl tn tk ts : TypeId} (T : FnTypes P tF tf ta tl tn tk ts) {n : Nat} {v : Value} {y : DataW H × List MemPlace}
    (hf : DataW.trod enc P W 0 (fun _ => true) true n tF [v] = some y) (hw : Light P tF y.1) : ∃ l : List Nd.Fn, FuncsIn W (fun b => b < W.heap.size) false v l := by
  rcases DataW.trod_slice T.l hf with ⟨hvv, hy⟩ | ⟨a, len, cap, elems, rest, n', rfl, hvv, hy, _, hlc, hcm, hel, helem, hrest, _⟩
  · obtain rfl : v = .slice none 0 0 := by simpa using hvv
    exact ⟨[], none, 0, rfl, Nat.le_refl _, Nat.zero_le _, by decide, (fun e => by cases e), fun i hi => absurd hi (Nat.not_lt_zero _)⟩
  · obtain rfl : v = .slice (some a) len cap := by simpa using hvv
    rw [hy] at hw
    obtain ⟨hb, hd⟩ := hw.slice T.l
    rw [T.bf] at hb
    obtain ⟨hrl, _⟩ := hrest rfl
    have hlen : len * 64 ≤ 140737488351232 := by
      have h1 : (elems.map (·.1)).length = len := by simpa using hel
      rw [h1] at hb
      have h2 : len * 64 ≤ (len + (rest.map (·.1)).length) * 64 := Nat.mul_le_mul_right _ (Nat.le_add_right _ _)
      first | exact Nat.le_trans h2 hb | (unfold reachBytes at hb; omega)
    rw [T.cf] at helem
    have each : ∀ i, i < len → ∃ x : Nd.Fn, ∃ v1 v2, x.name.length ≤ 140737488351232 ∧ TextsIn W (fun b => b < W.heap.size) false v1 x.args ∧ Nodes W (fun b => b < W.heap.size) false v2 x.body ∧ (∀ j, j < 3 → W.cell? ((a.add (i * 3)).add j) = [Value.string (tx x.name), v1, v2][j]?) := by
      intro i hi
      have h1 := helem i hi
      have hie : i < elems.length := by omega
      rw [List.getElem?_eq_getElem hie] at h1
      cases hc : W.cells? 0 (a.add (i * 3)) 3 with
      | none => rw [hc] at h1; cases h1
      | some cs =>
        rw [hc] at h1
        have h1' : DataW.trod enc P W 0 (fun _ => true) true n' tf cs = some elems[i] := h1
        obtain ⟨f, v1, v2, rfl, ht, h2, h3⟩ := fn_cells T h1' (hd _ (List.mem_map.2 ⟨_, List.getElem_mem hie, rfl⟩))
        exact ⟨f, v1, v2, ht, h2, h3, (World.cells?_some hc).2.2⟩
    have : Inhabited Nd.Fn := ⟨⟨[], [], .nil⟩⟩
    obtain ⟨y, hy⟩ := choose_lt each
    refine ⟨(List.range len).map y, some a, cap, by simp, by simp; exact hlc, hcm, by simpa using hlen, (fun e => by cases e), fun i hi => ?_⟩
    have hi2 : i < len := by simpa using hi
    simp only [List.getElem_map, List.getElem_range]
    obtain ⟨v1, v2, h1, h2, h3, h4⟩ := hy i hi2
    obtain ⟨b, off, spot⟩ := a
    have c0 := h4 0 (by decide)
    have hspot : spot = none := by
      obtain ⟨_, _, _, _, _, h5⟩ := hy 0 (by omega)
      simpa [Addr.add] using World.cell?_spot (h5 0 (by decide))
    subst hspot
    have c1 := h4 1 (by decide)
    have c2 := h4 2 (by decide)
    rw [add_none, add_none] at c0 c1 c2
    rw [Nat.add_zero] at c0
    exact ⟨b, off, v1, v2, rfl, World.block_lt_of_cell? W _ c0, h1, c0, c1, c2, h2, h3⟩
end Go.My
