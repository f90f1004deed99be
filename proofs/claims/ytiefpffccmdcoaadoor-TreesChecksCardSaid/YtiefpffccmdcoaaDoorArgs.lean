/- Arguments, opened: slices of slices of bytes, with the reach. No program in sight. -/
import Derived.Test.YtiefpffccmdcoaaDoorTag
import Derived.SizedLaws
namespace Go.My
open Go.RowKit

/-- What a datum weighs, each part by itself, is within the reach. -/
def Light {H : Type} (P : Program) (t : TypeId) (d : DataW H) : Prop := ∀ n ∈ d.weights P t, n ≤ reachBytes

theorem light_of_all {H : Type} {P : Program} : ∀ (ts us : List TypeId) (ds es : List (DataW H)), ts.length = ds.length → (DataW.weightsEach P (ts ++ us) (ds ++ es)).all (· ≤ reachBytes) = true →
    ∀ (j : Nat) (t : TypeId) (d : DataW H), ts[j]? = some t → ds[j]? = some d → Light P t d := by
  intro ts
  induction ts with
  | nil => intro us ds es _ _ j t d h; simp at h
  | cons t0 ts ih =>
    intro us ds es hl h j t d ht hd
    cases ds with
    | nil => simp at hl
    | cons d0 ds =>
      simp only [List.cons_append, DataW.weightsEach, List.all_append, Bool.and_eq_true] at h
      cases j with
      | zero =>
        simp at ht hd
        subst ht; subst hd
        intro n hn
        have := List.all_eq_true.1 h.1 n hn
        simpa using this
      | succ j =>
        simp only [List.getElem?_cons_succ] at ht hd
        exact ih us ds es (by simpa using hl) h.2 j t d ht hd

theorem light_all {H : Type} {P : Program} {e : TypeId} : ∀ {l : List (DataW H)}, (∀ n ∈ DataW.weightsAll P e l, n ≤ reachBytes) → ∀ d ∈ l, Light P e d := by
  intro l
  induction l with
  | nil => intro _ d h; cases h
  | cons x l ih =>
    intro h d hd
    simp only [DataW.weightsAll, List.mem_append] at h
    rcases List.mem_cons.1 hd with rfl | hd
    · exact fun n hn => h n (.inl hn)
    · exact ih (fun n hn => h n (.inr hn)) d hd

theorem Light.slice {H : Type} {P : Program} {t e : TypeId} {xs ys : List (DataW H)} (h : Light P t (.slice xs ys)) (ht : P.underlying t = some (.slice e)) :
    (xs.length + ys.length) * P.bytesOf e ≤ reachBytes ∧ ∀ d ∈ xs, Light P e d := by
  unfold Light at h
  simp only [DataW.weights, ht, List.mem_cons, List.mem_append] at h
  exact ⟨h _ (.inl rfl), light_all fun n hn => h n (.inr (.inl hn))⟩

open Go.ChangeShapes Go.WideShapes Go.ChangeAt Go.Deep in
theorem frames_of_trod {H : Type} {enc : TypeId × Value → H} {P : Program} {W : World} {base : Nat} {t e q : TypeId} {v : Value} {d : DataW H} {p : List MemPlace}
    (ht : P.underlying t = some (.slice e)) (he : P.underlying e = some (.slice q)) (hq : P.underlying q = some (.int .u8)) (ce : P.cellsOf e = 1) (cq : P.cellsOf q = 1) (bq : P.bytesOf q = 1)
    (hok : Value.okWide P W .any base t v) (h : DataW.Trod enc P W 0 (fun _ => true) true t v d p) (hw : Light P t d) : ∃ ls : List (List UInt8), FramesIn W (fun b => b < W.heap.size) v ls ∧ ∀ l ∈ ls, l.length ≤ 140737488351232 := by
  obtain ⟨a, len, cap, rfl⟩ := okWide_slice ht hok
  obtain ⟨fuel, hf⟩ := h
  rcases open_int_rows ht he hq ce cq hf with ⟨hcs, _⟩ | ⟨x, l, c, A, L, C, Z, hcs, _, hl, hm, hx, hr⟩
  · simp [Value.cells] at hcs
    obtain ⟨rfl, rfl, rfl⟩ := hcs
    exact ⟨[], FramesIn.nil _ _, fun l h => by cases h⟩
  · simp [Value.cells] at hcs
    obtain ⟨rfl, rfl, rfl⟩ := hcs
    simp only [Prod.mk.injEq] at hx
    rw [hx.1] at hw
    have hd := (hw.slice ht).2
    -- each row
    have each : ∀ r, r < len → ∃ b : List UInt8, BytesIn W (fun b => b < W.heap.size) (.slice (A r) (L r) (C r)) b ∧ b.length ≤ 140737488351232 := by
      intro r hlt
      obtain ⟨hcell, h1, h2, h3, h4, h5, h6⟩ := hr r (by omega)
      obtain ⟨bs, hbs⟩ := bytes_of_ints h4
      have hzl : bs.length = C r := by rw [← h3, hbs, List.length_map]
      have hlight := hd _ (List.mem_map.2 ⟨r, List.mem_range.2 hlt, rfl⟩)
      cases hA : A r with
      | none =>
        have hC := h5 hA
        have hL : L r = 0 := by omega
        rw [hC, hL]
        exact ⟨[], BytesIn.nil _ _, by simp⟩
      | some a' =>
        have hb := (Light.slice (by rw [hA] at hlight; exact hlight) he).1
        rw [bq] at hb
        have hlen : (bs.take (L r)).length = L r := by rw [List.length_take]; omega
        refine ⟨bs.take (L r), ⟨some a', C r, by rw [List.length_map, hlen], by rw [List.length_map, hlen]; exact h1, h2, (fun e => by cases e), fun hne => ?_⟩, ?_⟩
        · have hpos : 0 < L r := by
            rcases Nat.eq_zero_or_pos (L r) with h0 | h0
            · rw [h0] at hne; simp at hne
            · exact h0
          obtain ⟨_, hcl⟩ := h6 a' hA
          have h0 := hcl 0 (by omega)
          obtain ⟨b, off, spot⟩ := a'
          have hspot : spot = none := by simpa [Addr.add] using World.cell?_spot h0
          subst hspot
          refine ⟨b, off, rfl, by simpa [add_none] using World.block_lt_of_cell? W _ h0, fun j u hu => ?_⟩
          have hj : j < L r := by have := (List.getElem?_eq_some_iff.1 hu).1; rw [List.length_map, hlen] at this; exact this
          have := hcl j (by omega)
          rw [add_none] at this
          rw [this, ← hu, List.getElem?_map, List.getElem?_take, if_pos hj, hbs]
          rw [List.getD_eq_getElem?_getD, List.getElem?_map]
          have hjb : j < bs.length := by omega
          simp [hjb, byteCell]
        · rw [hlen]
          simp [lits, hbs, hzl, reachBytes] at hb
          omega
    obtain ⟨y, hy⟩ := choose_lt each
    refine ⟨(List.range len).map y, ⟨(List.range len).map fun r => .slice (A r) (L r) (C r), ⟨some x, cap, by simp, by simp; exact hl, hm, (fun e => by cases e), fun hne => ?_⟩, by simp, fun j hj hj' => ?_⟩, fun l hl => ?_⟩
    · have hpos : 0 < len := by
        rcases Nat.eq_zero_or_pos len with h0 | h0
        · subst h0; simp at hne
        · exact h0
      have h0 := (hr 0 (by omega)).1
      obtain ⟨b, off, spot⟩ := x
      have hspot : spot = none := by simpa [Addr.add] using World.cell?_spot h0
      subst hspot
      refine ⟨b, off, rfl, by simpa [add_none] using World.block_lt_of_cell? W _ h0, fun j u hu => ?_⟩
      have hj : j < len := by have := (List.getElem?_eq_some_iff.1 hu).1; simpa using this
      have := (hr j (by omega)).1
      rw [add_none] at this
      rw [this, ← hu]
      simp [hj]
    · have hj2 : j < len := by simpa using hj
      simp only [List.getElem_map, List.getElem_range]
      exact (hy j hj2).1
    · obtain ⟨r, hr, rfl⟩ := List.mem_map.1 hl
      exact (hy r (List.mem_range.1 hr)).2
end Go.My
