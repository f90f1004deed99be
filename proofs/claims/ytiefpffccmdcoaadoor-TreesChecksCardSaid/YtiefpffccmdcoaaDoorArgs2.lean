/- Arguments, opened: the fields of a struct that is handed in by value. No program in sight. -/
import Derived.Test.YtiefpffccmdcoaaDoorArgs
import Derived.Lib.SmallJoins
namespace Go.My
open Go.RowKit

open Go.ChangeShapes Go.WideShapes Go.ChangeAt in
theorem bytes_of_cell {H : Type} {enc : TypeId × Value → H} {P : Program} {W : World} {n0 : Nat} {t e : TypeId} {v : Value} {y0 : DataW H × List MemPlace} (ht : P.underlying t = some (.slice e)) (he : P.underlying e = some (.int .u8)) (ce : P.cellsOf e = 1)
    (hf : DataW.trod enc P W 0 (fun _ => true) true n0 t [v] = some y0) : ∃ l : List UInt8, BytesIn W (fun b => b < W.heap.size) v l := by
  obtain ⟨a, len, cap, ev⟩ := Go.Joins.slice_form ht hf
  obtain rfl : v = .slice a len cap := by simpa using ev
  rcases open_ints ht he ce hf with ⟨hcs, _⟩ | ⟨x, l, c, zs, hcs, _, hl, hm, hz, _, hcell, hwz⟩
  · simp at hcs
    obtain ⟨rfl, rfl, rfl⟩ := hcs
    exact ⟨[], BytesIn.nil _ _⟩
  · simp at hcs
    obtain ⟨rfl, rfl, rfl⟩ := hcs
    simp only [if_true] at hz
    obtain ⟨bs, rfl⟩ := bytes_of_ints hwz
    rw [List.length_map] at hz
    refine ⟨bs.take len, some x, cap, by simp; omega, by simp; omega, hm, (fun e => by cases e), fun hne => ?_⟩
    have hlen : 0 < len := by
      rcases Nat.eq_zero_or_pos len with h0 | h0
      · subst h0; simp at hne
      · exact h0
    have h0 := hcell 0 (by simp; omega)
    obtain ⟨b, off, spot⟩ := x
    have hspot : spot = none := by simpa [Addr.add] using World.cell?_spot h0
    subst hspot
    refine ⟨b, off, rfl, by simpa [add_none] using World.block_lt_of_cell? W _ h0, fun j u hu => ?_⟩
    have hj : j < bs.length := by have := (List.getElem?_eq_some_iff.1 hu).1; simp at this; omega
    have := hcell j (by simpa using hj)
    rw [add_none] at this
    rw [this, ← hu, List.getElem?_map, List.getElem?_take]
    rw [if_pos (by have := (List.getElem?_eq_some_iff.1 hu).1; simp at this; omega)]
    simp [hj, byteCell]

open Go.ChangeShapes Go.WideShapes Go.ChangeAt Go.Deep in
theorem frames_of_cell {H : Type} {enc : TypeId × Value → H} {P : Program} {W : World} {n0 : Nat} {t e q : TypeId} {v : Value} {y0 : DataW H × List MemPlace}
    (ht : P.underlying t = some (.slice e)) (he : P.underlying e = some (.slice q)) (hq : P.underlying q = some (.int .u8)) (ce : P.cellsOf e = 1) (cq : P.cellsOf q = 1) (bq : P.bytesOf q = 1)
    (hf : DataW.trod enc P W 0 (fun _ => true) true n0 t [v] = some y0) (hw : Light P t y0.1) : ∃ ls : List (List UInt8), FramesIn W (fun b => b < W.heap.size) v ls ∧ ∀ l ∈ ls, l.length ≤ 140737488351232 := by
  obtain ⟨a, len, cap, ev⟩ := Go.Joins.slice_form ht hf
  obtain rfl : v = .slice a len cap := by simpa using ev
  rcases open_int_rows ht he hq ce cq hf with ⟨hcs, _⟩ | ⟨x, l, c, A, L, C, Z, hcs, _, hl, hm, hx, hr⟩
  · simp at hcs
    obtain ⟨rfl, rfl, rfl⟩ := hcs
    exact ⟨[], FramesIn.nil _ _, fun l h => by cases h⟩
  · simp at hcs
    obtain ⟨rfl, rfl, rfl⟩ := hcs
    subst hx
    simp only at hw
    have hd := (hw.slice ht).2
    -- each row
    have each : ∀ r, r < len → ∃ b : List UInt8, BytesIn W (fun b => b < W.heap.size) (.slice (A r) (L r) (C r)) b ∧ b.length ≤ 140737488351232 := by
      intro r hlt
      obtain ⟨hcell, h1, h2, h3, h4, h5, h6⟩ := hr r (by omega)
      obtain ⟨bs, hbs⟩ := bytes_of_ints h4
      have hzl : bs.length = C r := by rw [← h3, hbs, List.length_map]
      have hlight := hd _ (List.mem_map.2 ⟨r, List.mem_range.2 hlt, rfl⟩)
      cases hA : A r with
      | none =>
        have hC := h5 hA
        have hL : L r = 0 := by omega
        rw [hC, hL]
        exact ⟨[], BytesIn.nil _ _, by simp⟩
      | some a' =>
        have hb := (Light.slice (by rw [hA] at hlight; exact hlight) he).1
        rw [bq] at hb
        have hlen : (bs.take (L r)).length = L r := by rw [List.length_take]; omega
        refine ⟨bs.take (L r), ⟨some a', C r, by rw [List.length_map, hlen], by rw [List.length_map, hlen]; exact h1, h2, (fun e => by cases e), fun hne => ?_⟩, ?_⟩
        · have hpos : 0 < L r := by
            rcases Nat.eq_zero_or_pos (L r) with h0 | h0
            · rw [h0] at hne; simp at hne
            · exact h0
          obtain ⟨_, hcl⟩ := h6 a' hA
          have h0 := hcl 0 (by omega)
          obtain ⟨b, off, spot⟩ := a'
          have hspot : spot = none := by simpa [Addr.add] using World.cell?_spot h0
          subst hspot
          refine ⟨b, off, rfl, by simpa [add_none] using World.block_lt_of_cell? W _ h0, fun j u hu => ?_⟩
          have hj : j < L r := by have := (List.getElem?_eq_some_iff.1 hu).1; rw [List.length_map, hlen] at this; exact this
          have := hcl j (by omega)
          rw [add_none] at this
          rw [this, ← hu, List.getElem?_map, List.getElem?_take, if_pos hj, hbs]
          rw [List.getD_eq_getElem?_getD, List.getElem?_map]
          have hjb : j < bs.length := by omega
          simp [hjb, byteCell]
        · rw [hlen]
          simp [lits, hbs, hzl, reachBytes] at hb
          omega
    obtain ⟨y, hy⟩ := choose_lt each
    refine ⟨(List.range len).map y, ⟨(List.range len).map fun r => .slice (A r) (L r) (C r), ⟨some x, cap, by simp, by simp; exact hl, hm, (fun e => by cases e), fun hne => ?_⟩, by simp, fun j hj hj' => ?_⟩, fun l hl => ?_⟩
    · have hpos : 0 < len := by
        rcases Nat.eq_zero_or_pos len with h0 | h0
        · subst h0; simp at hne
        · exact h0
      have h0 := (hr 0 (by omega)).1
      obtain ⟨b, off, spot⟩ := x
      have hspot : spot = none := by simpa [Addr.add] using World.cell?_spot h0
      subst hspot
      refine ⟨b, off, rfl, by simpa [add_none] using World.block_lt_of_cell? W _ h0, fun j u hu => ?_⟩
      have hj : j < len := by have := (List.getElem?_eq_some_iff.1 hu).1; simpa using this
      have := (hr j (by omega)).1
      rw [add_none] at this
      rw [this, ← hu]
      simp [hj]
    · have hj2 : j < len := by simpa using hj
      simp only [List.getElem_map, List.getElem_range]
      exact (hy j hj2).1
    · obtain ⟨r, hr, rfl⟩ := List.mem_map.1 hl
      exact (hy r (List.mem_range.1 hr)).2

theorem light_each {H : Type} {P : Program} : ∀ (ts : List TypeId) (ds : List (DataW H)), (∀ n ∈ DataW.weightsEach P ts ds, n ≤ reachBytes) → ∀ (j : Nat) (t : TypeId) (d : DataW H), ts[j]? = some t → ds[j]? = some d → Light P t d := by
  intro ts
  induction ts with
  | nil => intro ds _ j t d h; simp at h
  | cons t0 ts ih =>
    intro ds h j t d ht hd
    cases ds with
    | nil => simp at hd
    | cons d0 ds =>
      simp only [DataW.weightsEach, List.mem_append] at h
      cases j with
      | zero => simp at ht hd; subst ht; subst hd; exact fun n hn => h n (.inl hn)
      | succ j => simp only [List.getElem?_cons_succ] at ht hd; exact ih ds (fun n hn => h n (.inr hn)) j t d ht hd

theorem Light.fields {H : Type} {P : Program} {t : TypeId} {fs : Array Field} {ds : List (DataW H)} (h : Light P t (.agg ds)) (ht : P.underlying t = some (.struct fs)) : ∀ (j : Nat) (u : TypeId) (d : DataW H), (fs.toList.map (·.type))[j]? = some u → ds[j]? = some d → Light P u d := by
  unfold Light at h
  simp only [DataW.weights, ht] at h
  exact light_each _ _ h
end Go.My
