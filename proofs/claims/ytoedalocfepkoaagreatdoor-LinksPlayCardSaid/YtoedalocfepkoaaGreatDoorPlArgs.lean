/- Arguments, opened: acts. No program in sight. -/
import Derived.Test.YtoedalocfepkoaaGreatDoorArgs2
import Derived.Test.YtoedalocfepkoaaGreatDoorPlMem
namespace Go.My
open Go.RowKit

structure ActTypes (P : Program) (ta te tb tk : TypeId) : Prop where
  a : P.underlying ta = some (.slice te)
  e : ∃ f0 f1, P.underlying te = some (.struct #[f0, f1]) ∧ f0.type = tk ∧ f0.offset = 0 ∧ f1.type = tb ∧ f1.offset = 1
  b : P.underlying tb = some (.slice tk)
  k : P.underlying tk = some (.int .u8)
  ce : P.cellsOf te = 2
  ck : P.cellsOf tk = 1
  cb : P.cellsOf tb = 1
  bk : P.bytesOf tk = 1

theorem pair2 {α : Type} {cs : List α} (h : cs.length = 2) : ∃ c0 c1, cs = [c0, c1] := by
  match cs, h with
  | [c0, c1], _ => exact ⟨c0, c1, rfl⟩

theorem act_cells {H : Type} {enc : TypeId × Value → H} {P : Program} {W : World} {ta te tb tk : TypeId} (T : ActTypes P ta te tb tk) {n : Nat} {cs : List Value} {y : DataW H × List MemPlace}
    (h : DataW.trod enc P W 0 (fun _ => true) true n te cs = some y) (hw : Light P te y.1) :
    ∃ (k : Nat) (l : List UInt8) (v : Value), cs = [.int .u8 (k : Int), v] ∧ k < 256 ∧ l.length ≤ 140737488351232 ∧ BytesIn W (fun b => b < W.heap.size) v l := by
  obtain ⟨f0, f1, hn, e0, o0, e1, o1⟩ := T.e
  obtain ⟨xs, m, rfl, rfl, hc, hx, hf⟩ := DataW.trod_struct hn h
  rw [T.ce] at hc
  obtain ⟨c0, c1, rfl⟩ := pair2 hc
  obtain ⟨y0, y1, rfl⟩ := pair2 (show xs.length = 2 from hx)
  have g0 := hf 0 f0 rfl
  have g1 := hf 1 f1 rfl
  rw [e0, o0, T.ck] at g0
  rw [e1, o1, T.cb] at g1
  obtain ⟨z, hz, hy0, hwf⟩ := DataW.trod_int T.k (show DataW.trod enc P W 0 (fun _ => true) true m tk [c0] = some y0 from g0)
  have g1' : DataW.trod enc P W 0 (fun _ => true) true m tb [c1] = some y1 := g1
  obtain ⟨l, hl⟩ := bytes_of_cell T.b T.k T.ck g1'
  have hl1 := (hw.fields hn) 1 tb y1.1 (by simp [e1]) rfl
  have hz' : c0 = .int .u8 z := by simpa using hz
  simp [Lit.wf, IntKind.min, IntKind.max, IntKind.signed, IntKind.bits] at hwf
  refine ⟨z.toNat, l, c1, ?_, by omega, ?_, hl⟩
  · have : ((z.toNat : Nat) : Int) = z := by omega
    rw [hz', this]
  · obtain ⟨va, vc, ev, _⟩ := BytesIn.open_ hl
    rcases DataW.trod_slice T.b g1' with ⟨hv, hy⟩ | ⟨a, len, cap, elems, rest, n', rfl, hv, hy, _, hlc, hcm, hel, helem, hrest, _⟩
    · have h0 : c1 = .slice none 0 0 := by simpa using hv
      rw [h0] at ev
      simp only [Value.slice.injEq] at ev
      omega
    · have h0 : c1 = .slice (some a) len cap := by simpa using hv
      rw [h0] at ev
      simp only [Value.slice.injEq] at ev
      have e2 := ev.2.1
      rw [hy] at hl1
      obtain ⟨hb, _⟩ := hl1.slice T.b
      rw [T.bk, Nat.mul_one] at hb
      have h1 : (elems.map (·.1)).length = l.length := by rw [← e2]; simpa using hel
      rw [h1] at hb
      unfold reachBytes at hb; omega

open Go.ChangeShapes Go.WideShapes Go.ChangeAt Go.Deep in
theorem acts_of_trod {H : Type} {enc : TypeId × Value → H} {P : Program} {W : World} {ta te tb tk : TypeId} (T : ActTypes P ta te tb tk) {v : Value} {d : DataW H} {p : List MemPlace}
    (h : DataW.Trod enc P W 0 (fun _ => true) true ta v d p) (hw : Light P ta d) (hv : v.cells.toList = [v]) : ∃ al : List (Nat × List UInt8), Acts W (fun _ => 0) 0 v al := by
  obtain ⟨n, hf⟩ := h
  rw [hv] at hf
  rcases DataW.trod_slice T.a hf with ⟨hvv, hy⟩ | ⟨a, len, cap, elems, rest, n', rfl, hvv, hy, _, hlc, hcm, hel, helem, hrest, _⟩
  · obtain rfl : v = .slice none 0 0 := by simpa using hvv
    exact ⟨[], none, 0, rfl, Nat.le_refl _, Nat.zero_le _, fun i hi => absurd hi (Nat.not_lt_zero _)⟩
  · obtain rfl : v = .slice (some a) len cap := by simpa using hvv
    simp only [Prod.mk.injEq] at hy
    rw [hy.1] at hw
    obtain ⟨_, hd⟩ := hw.slice T.a
    rw [T.ce] at helem
    have each : ∀ i, i < len → ∃ x : Nat × List UInt8, ∃ u, x.1 < 256 ∧ x.2.length ≤ 140737488351232 ∧ BytesIn W (fun b => b < W.heap.size) u x.2 ∧ (∀ j, j < 2 → W.cell? ((a.add (i * 2)).add j) = [Value.int .u8 (x.1 : Int), u][j]?) := by
      intro i hi
      have h1 := helem i hi
      have hie : i < elems.length := by omega
      rw [List.getElem?_eq_getElem hie] at h1
      cases hc : W.cells? 0 (a.add (i * 2)) 2 with
      | none => rw [hc] at h1; cases h1
      | some cs =>
        rw [hc] at h1
        have h1' : DataW.trod enc P W 0 (fun _ => true) true n' te cs = some elems[i] := h1
        obtain ⟨k, l, u, rfl, hk, hl, hb⟩ := act_cells T h1' (hd _ (List.mem_map.2 ⟨_, List.getElem_mem hie, rfl⟩))
        exact ⟨(k, l), u, hk, hl, hb, (World.cells?_some hc).2.2⟩
    obtain ⟨y, hy⟩ := choose_lt each
    refine ⟨(List.range len).map y, some a, cap, by simp, by simp; exact hlc, hcm, fun i hi => ?_⟩
    have hi2 : i < len := by simpa using hi
    simp only [List.getElem_map, List.getElem_range]
    obtain ⟨u, h1, h2, h3, h4⟩ := hy i hi2
    obtain ⟨b, off, spot⟩ := a
    have c0 := h4 0 (by decide)
    have hspot : spot = none := by
      obtain ⟨_, _, _, _, h5⟩ := hy 0 (by omega)
      simpa [Addr.add] using World.cell?_spot (h5 0 (by decide))
    subst hspot
    have c1 := h4 1 (by decide)
    rw [add_none, add_none] at c0 c1
    rw [Nat.add_zero] at c0
    exact ⟨b, off, u, rfl, (by trivial), c0, c1, BytesIn.mono h3 (fun _ _ _ => rfl), h1, h2⟩
end Go.My
