/- More memory words for walks, over any program: pieces of slices. -/
import Derived.Test.YtcldcigopkfmmaaGreatDoorMem
namespace Go.My
open Go.RowKit
section
variable {P : Program}
/-- 'x[:h]', as a fact for the walk. -/

theorem slice_h {t e : TypeId} (ht : P.underlying t = some (.slice e)) (h1 : (P.info? e).map (·.size) = some 1) (b off n cap j : Nat) (h : Int) (hh : h = j) (hn : j ≤ cap) :
    ∀ wx, (Instr.slice t (.slice (some ⟨b, off, none⟩) n cap) none (some (.int .i64 h)) none).run P wx = .ok (.slice (some ⟨b, off, none⟩) j cap) wx := by
  subst hh
  have he : P.elem t = e := by simp [Program.elem, ht]
  obtain ⟨i, hi, hs⟩ : ∃ i, P.info? e = some i ∧ i.size = 1 := by
    cases h : P.info? e with
    | none => rw [h] at h1; cases h1
    | some i => rw [h] at h1; exact ⟨i, rfl, by simpa using h1⟩
  intro wx
  rw [run_slice_h wx t _ _ _ (by rw [he]; exact ht) .i64 _ (by omega) (by omega), he]
  simp [sizeOf, typeInfo, hi, sliced, add_none]

/-- A piece of what reads. -/
theorem RowIn.cut {w : World} {S : Nat → Prop} {b off n cap : Nat} {xs : List Value} (h : RowIn w S (.slice (some ⟨b, off, none⟩) n cap) xs) (k j c : Nat) (hkj : k ≤ j) (hj : j ≤ xs.length) {ad : Addr} (hc : j - k ≤ c ∧ c ≤ maxLen) (had : k < j → ad = ⟨b, off + k, none⟩) :
    RowIn w S (.slice (some ad) (j - k) c) ((xs.drop k).take (j - k)) := by
  obtain ⟨ao, cap', hv, h1, h2, h0, h3⟩ := h
  cases hv
  have hlen : ((xs.drop k).take (j - k)).length = j - k := by rw [List.length_take, List.length_drop]; omega
  refine ⟨some ad, c, by rw [hlen], by rw [hlen]; exact hc.1, hc.2, (fun e => by cases e), fun hne => ?_⟩
  have hlt : k < j := by
    rcases Nat.lt_or_ge k j with h | h
    · exact h
    · exfalso; apply hne; apply List.eq_nil_of_length_eq_zero; rw [hlen]; omega
  obtain ⟨b', off', ha, hS, hcell⟩ := h3 (by intro e; subst e; simp at hj; omega)
  cases ha
  refine ⟨b, off + k, by rw [had hlt], hS, fun i u hi => ?_⟩
  have hi' : i < j - k := by have := (List.getElem?_eq_some_iff.1 hi).1; rw [hlen] at this; exact this
  rw [Nat.add_assoc]
  refine hcell (k + i) u ?_
  rw [← hi, List.getElem?_take, if_pos hi', List.getElem?_drop]

theorem BytesIn.cut {w : World} {S : Nat → Prop} {b off n cap : Nat} {l : List UInt8} (h : BytesIn w S (.slice (some ⟨b, off, none⟩) n cap) l) (k j c : Nat) (hkj : k ≤ j) (hj : j ≤ l.length) {ad : Addr} (hc : j - k ≤ c ∧ c ≤ maxLen) (had : k < j → ad = ⟨b, off + k, none⟩) :
    BytesIn w S (.slice (some ad) (j - k) c) ((l.drop k).take (j - k)) := by
  have := RowIn.cut h k j c hkj (by rw [List.length_map]; exact hj) hc had
  rw [← List.map_drop, ← List.map_take] at this
  exact this


theorem FramesIn.cells {w : World} {S : Nat → Prop} {ao : Option Addr} {n cap : Nat} {ls : List (List UInt8)} (h : FramesIn w S (.slice ao n cap) ls) (hl : 0 < ls.length) :
    ∃ b off, ao = some ⟨b, off, none⟩ ∧ S b ∧ ∀ j (hj : j < ls.length), ∃ u, w.cell? ⟨b, off + j, none⟩ = some u ∧ BytesIn w S u (ls[j]) := by
  obtain ⟨_, _, ea, _, _, _, hx⟩ := h.open_
  cases ea
  exact hx hl

theorem BytesIn.cells {w : World} {S : Nat → Prop} {ao : Option Addr} {n cap : Nat} {l : List UInt8} (h : BytesIn w S (.slice ao n cap) l) (hl : 0 < l.length) :
    ∃ b off, ao = some ⟨b, off, none⟩ ∧ S b ∧ ∀ j (hj : j < l.length), w.cell? ⟨b, off + j, none⟩ = some (.int .u8 ((l[j]).toNat : Int)) := by
  obtain ⟨_, _, ea, _, _, _, hx⟩ := h.open_
  cases ea
  exact hx hl

/-- APPEND, AS ONE STEP OF A REGION THAT DRAWS ITS ORDER: for 'go_region_law (refine step_append ..)'. -/
theorem step_append {w : World} {ops : Array Oper} {o : Oper} {a : Act} {K : Act → World → Prop} {Q : Exit → Act → World → Prop} {X : Prop} (hgd : o.guard = none) (s x : Operand) {t e : TypeId}
    (ho : o.op = .call { callee := .builtin .append, args := #[s, x], argTypes := #[t, t] }) {size bytes : Nat} {z : Value} (E : Elem P t e size bytes z)
    {v : Value} {n : Nat} {xs : List Value} {g : Option Nat} (hs : a.eval s = v) (hown : Own w e size v n xs g) {y : Value} {m : Nat} {news : List Value} (hy : a.eval x = y) (hx : Src w size y m news) (h1 : ∀ u ∈ news, u.oneCell' = true)
    (h63 : n + m ≤ maxLen) (hbytes : (n + m) * bytes ≤ 140737488355328)
    (h : ∀ v' w' g', Own w' e size v' (n + m) (xs ++ news) g' → Step w w' g → (g' = g ∨ ∃ k, g' = some k ∧ w.heap.size ≤ k) → K (a.put o.dst v') w') :
    if Region.wanted o (yielded ops a.tmps) = true then Oper.wp P o a w K Q else X := by
  have hw : Region.wanted o (yielded ops a.tmps) = true := by simp [Region.wanted, hgd]
  rw [if_pos hw]
  obtain ⟨v', w', g', hr, h2, h3, h4⟩ := run_append w E o.type hown hx h1 h63 hbytes
  unfold Oper.wp execOp
  simp only [ho, resolve, invoke, builtin, Sem.run_bind, Sem.run_pure, Result.andThen_ok, List.map_toArray, List.map_cons, List.map_nil, hs, hy, hr]
  exact h v' w' g' h2 h3 h4
end
end Go.My
