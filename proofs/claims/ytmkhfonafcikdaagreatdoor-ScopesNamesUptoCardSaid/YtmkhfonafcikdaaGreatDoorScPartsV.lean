/- Scopes: the parts of a program: its functions, and its body as one. -/
import Derived.Test.YtmkhfonafcikdaaGreatDoorScHeadV
import Derived.Test.YtmkhfonafcikdaaGreatDoorTrC3
import Derived.WalkSpells
namespace Go.My
open Go.RowKit Go.Nd

/-- Functions' cells, to be read in blocks below B. -/
def FlSrc (w : World) (B : Nat) (v : Value) (els : List Fl) : Prop :=
  ∃ a c, v = .slice a els.length c ∧ (a = none → els = []) ∧ ∀ ad, a = some ad → ∀ j u, (flCells els)[j]? = some u → ad.block < B ∧ w.cell? (ad.add j) = some u
theorem FlSrc.below {w w' : World} {B : Nat} {v : Value} {els : List Fl} (h : FlSrc w B v els) (hb : Below B w w') : FlSrc w' B v els := by
  obtain ⟨a, c, h1, h2, h3⟩ := h
  refine ⟨a, c, h1, h2, fun ad ha j u hu => ?_⟩
  obtain ⟨k1, k2⟩ := h3 ad ha j u hu
  have : (ad.add j).block = ad.block := by unfold Addr.add; split <;> rfl
  exact ⟨k1, (World.cell?_of_block (by rw [this]; exact hb.block _ k1)).trans k2⟩

theorem fls_of {w : World} {B : Nat} {tw : Bool} {v : Value} {fs : List Nd.Fn} (h : FuncsIn w (· < B) tw v fs) : ∃ els, els.length = fs.length ∧ (∀ j (h1 : j < els.length) (h2 : j < fs.length), FlIs w (· < B) tw els[j] fs[j]) ∧ FlSrc w B v els := by
  obtain ⟨a, c, rfl, _, _, _, _, hc⟩ := h
  have step : ∀ k, k ≤ fs.length → ∃ els : List Fl, els.length = k ∧ (∀ j (h1 : j < els.length) (h2 : j < fs.length), FlIs w (· < B) tw els[j] fs[j]) ∧ ∀ ad, a = some ad → ∀ j u, (flCells els)[j]? = some u → ad.block < B ∧ w.cell? (ad.add j) = some u := by
    intro k
    induction k with
    | zero => exact fun _ => ⟨[], rfl, (fun j h => by cases h), fun _ _ j u h => by simp [flCells] at h⟩
    | succ k ih =>
      intro hk
      obtain ⟨els, h1, h2, h3⟩ := ih (Nat.le_of_succ_le hk)
      obtain ⟨b, off, v1, v2, e, hS, hF⟩ := hc k hk
      refine ⟨els ++ [⟨fs[k].name, v1, v2⟩], by simp [h1], fun j hj hj' => ?_, fun ad ha j u hu => ?_⟩
      · by_cases hje : j = els.length
        · subst hje
          have e2 : fs[els.length]'hj' = fs[k] := by congr
          rw [List.getElem_append_right (Nat.le_refl _)]
          simp only [Nat.sub_self, List.getElem_singleton]
          rw [e2]
          exact ⟨⟨rfl, hF.name⟩, hF.args, hF.body⟩
        · have hj2 : j < els.length := by rw [List.length_append, List.length_singleton] at hj; omega
          rw [List.getElem_append_left hj2]; exact h2 j hj2 hj'
      · rw [e] at ha
        cases ha
        refine ⟨hS, ?_⟩
        rw [flCells_append] at hu
        by_cases hjl : j < (flCells els).length
        · rw [List.getElem?_append_left hjl] at hu
          exact (h3 _ e j u hu).2
        · rw [List.getElem?_append_right (by omega)] at hu
          rw [flCells_length, h1] at hu hjl
          have hlt := (List.getElem?_eq_some_iff.1 hu).1
          have hl3 : (flCells [(⟨fs[k].name, v1, v2⟩ : Fl)]).length = 3 := rfl
          rw [hl3] at hlt
          have hx : ∀ o, off + (k * 3 + o) = off + k * 3 + o := fun o => by omega
          rw [add_none]
          obtain ⟨o, ho, rfl⟩ : ∃ o, o < 3 ∧ j = k * 3 + o := ⟨j - k * 3, hlt, by omega⟩
          rw [Nat.add_sub_cancel_left] at hu
          rw [hx]
          match o, ho with
          | 0, _ => cases hu; exact hF.d0
          | 1, _ => cases hu; exact hF.d1
          | 2, _ => cases hu; exact hF.d2
  obtain ⟨els, h1, h2, h3⟩ := step fs.length (Nat.le_refl _)
  refine ⟨els, h1, h2, a, c, by rw [h1], fun ha => ?_, h3⟩
  cases els with
  | nil => rfl
  | cons x l =>
    have h0 : 0 < fs.length := by rw [← h1]; simp
    obtain ⟨_, _, _, _, e, _⟩ := hc 0 h0
    rw [ha] at e; cases e

theorem FlSrc.src {w : World} {B : Nat} {ad : Addr} {n c : Nat} {els : List Fl} (h : FlSrc w B (.slice (some ad) n c) els) : Src w 3 (.slice (some ad) n c) n (flCells els) := by
  obtain ⟨a, c', h1, h2, h3⟩ := h
  cases h1
  exact ⟨flCells_length els, .inr ⟨ad, c, rfl, fun j u hu => (h3 ad rfl j u hu).2⟩⟩

theorem funcs_of_owns {w : World} {g : Tags} {t B : Nat} {e : TypeId} {v : Value} {n : Nat} {els : List Fl} {fs : List Nd.Fn} (h : Owns w g t e 3 v n (flCells els)) (h1 : els.length = n) (h2 : fs.length = n) (hR : n * 64 ≤ 140737488351232)
    (hA : ∀ j (h1 : j < els.length) (h2 : j < fs.length), FlIs w (· < B) false els[j] fs[j]) (hB : w.heap.size ≤ B) : FuncsIn w (· < B) false v fs := by
  rcases Nat.eq_zero_or_pos n with h0 | h0
  · subst h0
    obtain ⟨ao, cap, rfl⟩ := h.form
    obtain ⟨k, ⟨_, (⟨e1, _, _⟩ | ⟨b, off, cap', cur, e1, _, _, h5, h6, _⟩)⟩, _⟩ := h
    · cases e1
      exact ⟨none, 0, by rw [h2], by omega, by decide, by omega, (fun e => by cases e), fun i hi => absurd hi (by omega)⟩
    · cases e1
      exact ⟨_, _, by rw [h2], by omega, h6, by omega, (fun e => by cases e), fun i hi => absurd hi (by omega)⟩
  · obtain ⟨b, off, c, hv, hg, h3, h4, _, hc⟩ := h.cell h0
    subst hv
    have hlen : (flCells els).length = n * 3 := by rw [flCells_length, h1]
    have r : ∀ j u, (flCells els)[j]? = some u → w.cell? ⟨b, off + j, none⟩ = some u := fun j u hu => by
      have hj : j < n * 3 := by rw [← hlen]; exact (List.getElem?_eq_some_iff.1 hu).1
      rw [(hc j hj).1]; exact hu
    refine ⟨_, c, by rw [h2], by omega, h4, by omega, (fun e => by cases e), fun i hi => ?_⟩
    have hi' : i < els.length := by omega
    obtain ⟨r0, r1, r2⟩ := flCells_at els i hi'
    have hI := hA i hi' hi
    have d0 := r _ _ r0
    have hb := World.block_lt_of_cell? w _ d0
    rw [hI.name.1] at d0
    exact ⟨b, off, els[i].v1, els[i].v2, rfl, Nat.lt_of_lt_of_le hb hB, ⟨hI.name.2, d0, r _ _ r1, r _ _ r2, hI.args, hI.body⟩⟩
end Go.My
