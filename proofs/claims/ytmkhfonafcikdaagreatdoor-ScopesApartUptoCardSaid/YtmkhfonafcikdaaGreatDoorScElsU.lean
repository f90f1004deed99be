/- Lists of nodes as cells: read out of a list that stands, put behind one another. No program in sight. -/
import Derived.Test.YtmkhfonafcikdaaGreatDoorScStmtU
import Derived.Test.YtmkhfonafcikdaaGreatDoorScPartsU
namespace Go.My
open Go.RowKit Go.Nd

/-- Nodes' cells, to be read in blocks below B. -/
def NdSrc (w : World) (B : Nat) (v : Value) (els : List El) : Prop :=
  ∃ a c, v = .slice a els.length c ∧ (a = none → els = []) ∧ ∀ ad, a = some ad → ∀ j u, (elCells els)[j]? = some u → ad.block < B ∧ w.cell? (ad.add j) = some u
theorem NdSrc.below {w w' : World} {B : Nat} {v : Value} {els : List El} (h : NdSrc w B v els) (hb : Below B w w') : NdSrc w' B v els := by
  obtain ⟨a, c, h1, h2, h3⟩ := h
  refine ⟨a, c, h1, h2, fun ad ha j u hu => ?_⟩
  obtain ⟨k1, k2⟩ := h3 ad ha j u hu
  have : (ad.add j).block = ad.block := by unfold Addr.add; split <;> rfl
  exact ⟨k1, (World.cell?_of_block (by rw [this]; exact hb.block _ k1)).trans k2⟩
theorem els_of {w : World} {B : Nat} {tw : Bool} {v : Value} {xs : Ns} (h : Nodes w (· < B) tw v xs) : ∃ els, els.length = xs.items.length ∧ (∀ j (h1 : j < els.length) (h2 : j < xs.items.length), ElIs w (· < B) tw els[j] xs.items[j]) ∧ NdSrc w B v els := by
  obtain ⟨a, c, rfl, _, hc⟩ := h.open_
  have step : ∀ k, k ≤ xs.items.length → ∃ els : List El, els.length = k ∧ (∀ j (h1 : j < els.length) (h2 : j < xs.items.length), ElIs w (· < B) tw els[j] xs.items[j]) ∧ ∀ ad, a = some ad → ∀ j u, (elCells els)[j]? = some u → ad.block < B ∧ w.cell? (ad.add j) = some u := by
    intro k
    induction k with
    | zero => exact fun _ => ⟨[], rfl, (fun j h => by cases h), fun _ _ j u h => by simp [elCells] at h⟩
    | succ k ih =>
      intro hk
      obtain ⟨els, h1, h2, h3⟩ := ih (Nat.le_of_succ_le hk)
      obtain ⟨b, off, v1, v2, v3, e, hS, hF⟩ := hc k hk
      refine ⟨els ++ [⟨xs.items[k].kind, xs.items[k].text, v1, v2, v3⟩], by simp [h1], fun j hj hj' => ?_, fun ad ha j u hu => ?_⟩
      · by_cases hje : j = els.length
        · subst hje
          have e2 : xs.items[els.length]'hj' = xs.items[k] := by congr
          rw [List.getElem_append_right (Nat.le_refl _)]
          simp only [Nat.sub_self, List.getElem_singleton]
          rw [e2]
          exact ⟨⟨rfl, hF.kind⟩, ⟨rfl, hF.text⟩, hF.l, hF.body, hF.els⟩
        · have hj2 : j < els.length := by rw [List.length_append, List.length_singleton] at hj; omega
          rw [List.getElem_append_left hj2]; exact h2 j hj2 hj'
      · rw [e] at ha
        cases ha
        refine ⟨hS, ?_⟩
        rw [elCells_append] at hu
        by_cases hjl : j < (elCells els).length
        · rw [List.getElem?_append_left hjl] at hu
          exact (h3 _ e j u hu).2
        · rw [List.getElem?_append_right (by omega)] at hu
          rw [elCells_length, h1] at hu hjl
          have hlt := (List.getElem?_eq_some_iff.1 hu).1
          have hl3 : (elCells [(⟨xs.items[k].kind, xs.items[k].text, v1, v2, v3⟩ : El)]).length = 5 := rfl
          rw [hl3] at hlt
          have hx : ∀ o, off + (k * 5 + o) = off + k * 5 + o := fun o => by omega
          rw [add_none]
          obtain ⟨o, ho, rfl⟩ : ∃ o, o < 5 ∧ j = k * 5 + o := ⟨j - k * 5, hlt, by omega⟩
          rw [Nat.add_sub_cancel_left] at hu
          rw [hx]
          match o, ho with
          | 0, _ => cases hu; exact hF.d0
          | 1, _ => cases hu; exact hF.d1
          | 2, _ => cases hu; exact hF.d2
          | 3, _ => cases hu; exact hF.d3
          | 4, _ => cases hu; exact hF.d4
  obtain ⟨els, h1, h2, h3⟩ := step xs.items.length (Nat.le_refl _)
  refine ⟨els, h1, h2, a, c, by rw [h1], fun ha => ?_, h3⟩
  cases els with
  | nil => rfl
  | cons x l =>
    have h0 : 0 < xs.items.length := by rw [← h1]; simp
    obtain ⟨_, _, _, _, _, e, _⟩ := hc 0 h0
    rw [ha] at e; cases e
theorem NdSrc.src {w : World} {B : Nat} {v : Value} {els : List El} (h : NdSrc w B v els) (hz : ∀ n c, v = .slice none n c → c = 0) : Src w 5 v els.length (elCells els) := by
  obtain ⟨a, c, rfl, h2, h3⟩ := h
  refine ⟨elCells_length els, ?_⟩
  cases a with
  | none =>
    have e1 := h2 rfl
    have e2 := hz _ _ rfl
    subst e1
    subst e2
    exact .inl ⟨rfl, rfl⟩
  | some ad => exact .inr ⟨ad, c, rfl, fun j u hu => (h3 ad rfl j u hu).2⟩
theorem FlSrc.src0 {w : World} {B : Nat} {v : Value} {els : List Fl} (h : FlSrc w B v els) (hz : ∀ n c, v = .slice none n c → c = 0) : Src w 3 v els.length (flCells els) := by
  obtain ⟨a, c, rfl, h2, h3⟩ := h
  refine ⟨flCells_length els, ?_⟩
  cases a with
  | none =>
    have e1 := h2 rfl
    have e2 := hz _ _ rfl
    subst e1
    subst e2
    exact .inl ⟨rfl, rfl⟩
  | some ad => exact .inr ⟨ad, c, rfl, fun j u hu => (h3 ad rfl j u hu).2⟩
theorem el_one (els : List El) (h : ∀ e ∈ els, e.v1.oneCell' = true ∧ e.v2.oneCell' = true ∧ e.v3.oneCell' = true) : ∀ u ∈ elCells els, u.oneCell' = true := by
  induction els with
  | nil => intro u h; simp [elCells] at h
  | cons e els ih =>
    intro u hu
    rw [elCells_cons] at hu
    simp only [List.mem_cons] at hu
    have h0 := h e (by simp)
    rcases hu with rfl | rfl | rfl | rfl | rfl | hu
    · rfl
    · rfl
    · exact h0.1
    · exact h0.2.1
    · exact h0.2.2
    · exact ih (fun x hx => h x (List.mem_cons_of_mem _ hx)) u hu
theorem els_one {w : World} {S : Nat → Prop} {tw : Bool} {els : List El} {xs : Ns} (h1 : els.length = xs.items.length) (h2 : ∀ j (h1 : j < els.length) (h2 : j < xs.items.length), ElIs w S tw els[j] xs.items[j]) : ∀ u ∈ elCells els, u.oneCell' = true :=
  el_one els fun e he => by
    obtain ⟨i, hi, rfl⟩ := List.getElem_of_mem he
    have := h2 i hi (by omega)
    obtain ⟨_, _, e1, _⟩ := this.l
    obtain ⟨_, _, e2, _⟩ := this.body
    obtain ⟨_, _, e3, _⟩ := this.els
    exact ⟨by rw [e1]; rfl, by rw [e2]; rfl, by rw [e3]; rfl⟩
theorem nodes_of_owns {w : World} {g : Tags} {t B : Nat} {e : TypeId} {v : Value} {n : Nat} {els : List El} {xs : Ns} (h : Owns w g t e 5 v n (elCells els)) (h1 : els.length = n) (h2 : xs.items.length = n) (hR : n * 96 ≤ 140737488351232)
    (hA : ∀ j (h1 : j < els.length) (h2 : j < xs.items.length), ElIs w (· < B) false els[j] xs.items[j]) (hB : w.heap.size ≤ B) : Nodes w (· < B) false v xs := by
  have hlen : xs.len = n := h2
  rcases Nat.eq_zero_or_pos n with h0 | h0
  · subst h0
    have hx : xs = .nil := by cases xs with | nil => rfl | cons => simp [Ns.items_cons] at h2
    subst hx
    obtain ⟨ao, cap, rfl⟩ := h.form
    obtain ⟨k, ⟨_, (⟨e1, _, _⟩ | ⟨b, off, cap', cur, e1, _, _, h5, h6, _⟩)⟩, _⟩ := h
    · cases e1
      exact Go.Proofs.YtmkhfonafcikdaaGreatDoor.nil_nodes _ _
    · cases e1
      exact ⟨_, _, rfl, ⟨Nat.zero_le _, h6, by decide, fun e => by cases e⟩, .nil _ fun e => by cases e⟩
  · obtain ⟨b, off, c, hv, hg, h3, h4, hlt, hc⟩ := h.cell h0
    subst hv
    refine ⟨some ⟨b, off, none⟩, c, by rw [hlen], ⟨by rw [hlen]; exact h3, h4, by rw [hlen]; exact hR, fun e => by cases e⟩, ?_⟩
    refine nodesAt_of (tw := false) (S := (· < B)) (Nat.lt_of_lt_of_le hlt hB) xs els off (by rw [h1, h2]) hA (fun j u hu => ?_) (fun e => by cases e)
    have hj : j < n * 5 := by
      have := (List.getElem?_eq_some_iff.1 hu).1
      rw [elCells_length, h1] at this; exact this
    rw [(hc j hj).1]; exact hu
end Go.My
