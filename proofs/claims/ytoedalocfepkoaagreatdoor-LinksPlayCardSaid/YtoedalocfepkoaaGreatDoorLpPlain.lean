/- Links, plainly: what came too early, as the document keeps it: a list. No program in sight. -/
import Derived.Test.YtoedalocfepkoaaGreatDoorLiPlain
namespace Go.Li

abbrev Es := List (Nat × List UInt8)
def keyIs (n : Nat) (p : Nat × List UInt8) : Bool := p.1 == n
def findE (es : Es) (n : Nat) : Option (List UInt8) := (es.find? (keyIs n)).map (·.2)

/-- The list tells what the map tells; no key is there twice. -/
structure Rel (es : Es) (f : Nat → Option (List UInt8)) : Prop where
  find : ∀ n, f n = findE es n
  once : (es.map (·.1)).Nodup

theorem rel_nil : Rel [] (fun _ => none) := ⟨fun _ => rfl, List.nodup_nil⟩

theorem find_none {es : Es} {n : Nat} (h : ∀ i (hi : i < es.length), (es[i]).1 ≠ n) : findE es n = none := by
  unfold findE
  rw [List.find?_eq_none.2 ?_]
  · rfl
  · intro x hx
    obtain ⟨i, hi, rfl⟩ := List.getElem_of_mem hx
    simpa [keyIs] using h i hi
theorem find_some {es : Es} {n : Nat} {k : Nat} (hk : k < es.length) (h : (es[k]).1 = n) (hb : ∀ i (hi : i < k), (es[i]'(Nat.lt_trans hi hk)).1 ≠ n) : findE es n = some (es[k]).2 := by
  unfold findE
  have : es.find? (keyIs n) = some es[k] := by
    rw [List.find?_eq_some_iff_getElem]
    refine ⟨by simpa [keyIs] using h, k, hk, rfl, fun j hj => by simpa [keyIs] using hb j hj⟩
  rw [this]; rfl

theorem findE_append (es es' : Es) (n : Nat) : findE (es ++ es') n = (findE es n).or (findE es' n) := by
  unfold findE
  rw [List.find?_append]
  cases es.find? (keyIs n) <;> simp

theorem mem_of_findE {es : Es} {n : Nat} (h : n ∈ es.map (·.1)) : findE es n ≠ none := by
  intro e
  unfold findE at e
  rw [Option.map_eq_none_iff, List.find?_eq_none] at e
  obtain ⟨x, hx, rfl⟩ := List.mem_map.1 h
  exact e x hx (by simp [keyIs])

theorem Rel.snoc {es : Es} {f : Nat → Option (List UInt8)} (h : Rel es f) {n : Nat} (hn : f n = none) (b : List UInt8) : Rel (es ++ [(n, b)]) (withAt f n b) := by
  have hne : findE es n = none := by rw [← h.find]; exact hn
  refine ⟨fun i => ?_, ?_⟩
  · rw [findE_append]
    unfold withAt
    by_cases e : i = n
    · subst e
      rw [if_pos rfl, hne]; simp [findE, keyIs]
    · rw [if_neg e, h.find]
      have : findE [(n, b)] i = none := find_none (fun j hj => by
        have : j = 0 := by simp at hj; exact hj
        subst this; exact fun e' => e e'.symm)
      rw [this]; simp
  · rw [List.map_append, List.nodup_append]
    refine ⟨h.once, by simp, fun a ha b' hb' => ?_⟩
    rintro rfl
    simp at hb'
    subst hb'
    exact mem_of_findE ha hne

theorem split_at {es : Es} {k : Nat} (hk : k < es.length) : es = es.take k ++ es[k] :: es.drop (k + 1) := by
  rw [← List.drop_eq_getElem_cons hk, List.take_append_drop]

theorem Rel.erase {es : Es} {f : Nat → Option (List UInt8)} (h : Rel es f) {k : Nat} (hk : k < es.length) : f (es[k]).1 = some (es[k]).2 ∧ Rel (es.take k ++ es.drop (k + 1)) (without f (es[k]).1) := by
  have hs := split_at hk
  generalize hx : es[k] = x at *
  generalize es.take k = a at *
  generalize es.drop (k + 1) = c at *
  subst hs
  have ho := h.once
  rw [List.map_append, List.map_cons, List.nodup_append, List.nodup_cons] at ho
  obtain ⟨h1, ⟨h2, h3⟩, h4⟩ := ho
  have key : ∀ (l : Es), x.1 ∉ l.map (·.1) → findE l x.1 = none := fun l hl => find_none fun i hi e => hl (List.mem_map.2 ⟨_, List.getElem_mem hi, e⟩)
  have ha : findE a x.1 = none := key a fun hm => h4 _ hm _ (List.mem_cons_self ..) rfl
  have hc : findE c x.1 = none := key c h2
  refine ⟨?_, ⟨fun i => ?_, ?_⟩⟩
  · rw [h.find, findE_append, ha]; simp [findE, keyIs]
  · unfold without
    by_cases e : i = x.1
    · subst e
      rw [if_pos rfl, findE_append, ha, hc]; rfl
    · rw [if_neg e, h.find, findE_append, findE_append]
      have : findE (x :: c) i = findE c i := by
        unfold findE
        rw [List.find?_cons_of_neg]
        simp only [keyIs, beq_iff_eq]; exact fun e' => e e'.symm
      rw [this]
  · rw [List.map_append, List.nodup_append]
    exact ⟨h1, h3, fun a ha b hb => h4 a ha b (List.mem_cons_of_mem _ hb)⟩
end Go.Li
