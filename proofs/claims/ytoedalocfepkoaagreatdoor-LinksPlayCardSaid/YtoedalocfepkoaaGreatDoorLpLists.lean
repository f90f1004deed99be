/- Lists of lists of bytes, the outer one owned, each one in it by an owner of its own. -/
import Derived.Test.YtoedalocfepkoaaGreatDoorLiLib
namespace Go.Proofs.YtoedalocfepkoaaGreatDoor
open Go.RowKit Go.My

/-- A list of lists of bytes, the outer one owned. -/
def Lists (w : World) (g : Tags) (t : Nat) (t' : Nat → Nat) (v : Value) (ls : List (List UInt8)) : Prop :=
  ∃ us : List Value, Owns w g t 42 1 v ls.length us ∧ us.length = ls.length ∧ ∀ (j : Nat) (h : j < us.length) (h' : j < ls.length), Owns w g (t' j) 5 1 us[j] (ls[j]).length ((ls[j]).map byteCell)

theorem Lists.turn {w w' : World} {g g' : Tags} {T : List Nat} {t : Nat} {t' : Nat → Nat} {v : Value} {ls : List (List UInt8)} (h : Lists w g t t' v ls) (k : Turn w g w' g' T) (ht : t ∉ T) (ht' : ∀ j, t' j ∉ T) : Lists w' g' t t' v ls := by
  obtain ⟨us, h1, h2, h3⟩ := h
  exact ⟨us, h1.turn k ht, h2, fun j a b => (h3 j a b).turn k (ht' j)⟩

theorem Lists.nil (w : World) (g : Tags) (t : Nat) (t' : Nat → Nat) : Lists w g t t' (.slice none 0 0) [] := ⟨[], Owns.nil _ _ _ _ _, rfl, fun _ h => absurd h (Nat.not_lt_zero _)⟩

theorem Lists.reads {w : World} {g : Tags} {t : Nat} {t' : Nat → Nat} {v : Value} {ls : List (List UInt8)} (h : Lists w g t t' v ls) : FramesIn w (fun _ => True) v ls := by
  obtain ⟨us, h1, h2, h3⟩ := h
  exact ⟨us, RowIn.mono h1.row (fun _ _ _ => trivial), h2, fun j a b => BytesIn.mono (h3 j a b).bytes (fun _ _ _ => trivial)⟩

theorem Lists.form {w : World} {g : Tags} {t : Nat} {t' : Nat → Nat} {v : Value} {ls : List (List UInt8)} (h : Lists w g t t' v ls) : ∃ ao cap, v = .slice ao ls.length cap := by
  obtain ⟨us, h1, h2, h3⟩ := h
  exact h1.form

theorem Lists.snoc {w' : World} {g' : Tags} {t : Nat} {t' : Nat → Nat} {v' u : Value} {us : List Value} {ls : List (List UInt8)} {b : List UInt8} {n : Nat} (ho : Owns w' g' t 42 1 v' n (us ++ [u])) (hn : n = (us ++ [u]).length) (h2 : us.length = ls.length)
    (h3 : ∀ (j : Nat) (h : j < us.length) (h' : j < ls.length), Owns w' g' (t' j) 5 1 us[j] (ls[j]).length ((ls[j]).map byteCell)) (hu : Owns w' g' (t' ls.length) 5 1 u b.length (b.map byteCell)) : Lists w' g' t t' v' (ls ++ [b]) := by
  have e : n = (ls ++ [b]).length := by rw [hn]; simp [h2]
  refine ⟨us ++ [u], e ▸ ho, by simp [h2], fun j a a' => ?_⟩
  rcases Nat.lt_or_ge j us.length with hj | hj
  · have hj' : j < ls.length := by omega
    rw [List.getElem_append_left hj, List.getElem_append_left hj']
    exact h3 j hj hj'
  · have hj' : ls.length ≤ j := by omega
    have ej : j = ls.length := by simp at a'; omega
    subst ej
    rw [List.getElem_append_right hj, List.getElem_append_right hj']
    simpa using hu

theorem listsElem : Elem Tryz.prog 48 42 1 24 (.slice none 0 0) := Elem.mk' Tryz.underlying48 (by kernel_rfl) rfl (by decide)

theorem slice_one {w : World} {S : Nat → Prop} {v : Value} {l : List UInt8} (h : BytesIn w S v l) : v.oneCell' = true := by
  obtain ⟨ao, cap, rfl, _⟩ := h.open_; rfl

/-- ONE MORE, AS ONE STEP OF A REGION THAT DRAWS ITS ORDER. -/
theorem step_lists_one {w : World} {ops : Array Oper} {o : Oper} {a : Act} {K : Act → World → Prop} {Q : Exit → Act → World → Prop} {X : Prop} (hgd : o.guard = none) (s x : Operand)
    (ho : o.op = .call { callee := .builtin .append, args := #[s, x], argTypes := #[48, 48] }) {g : Tags} {t : Nat} {t' : Nat → Nat} {v u : Value} {ls : List (List UInt8)} {b : List UInt8} (hs : a.eval s = v) {k : Nat} (hown : Lists (w.alloc (.cells #[u] 42)) g t t' v ls)
    (hy : a.eval x = .slice (some ⟨k, 0, none⟩) 1 1) (hk : k = w.heap.size) (hu : Owns (w.alloc (.cells #[u] 42)) g (t' ls.length) 5 1 u b.length (b.map byteCell)) (ht : ∀ j, t' j ≠ t) (hm : ls.length + 1 ≤ 1000000000)
    (h : ∀ ao cap w' g', Lists w' g' t t' (.slice ao (ls.length + 1) cap) (ls ++ [b]) → Turn (w.alloc (.cells #[u] 42)) g w' g' [t] → K (a.put o.dst (.slice ao (ls.length + 1) cap)) w') :
    if Region.wanted o (yielded ops a.tmps) = true then Oper.wp Tryz.prog o a (w.alloc (.cells #[u] 42)) K Q else X := by
  obtain ⟨us, h1, h2, h3⟩ := hown
  have hsrc : Go.My.Src (w.alloc (.cells #[u] 42)) 1 (.slice (some ⟨k, 0, none⟩) 1 1) 1 [u] := Src.lit #[u] 42 hk rfl
  refine step_append_t hgd s x ho listsElem hs h1 hy hsrc (fun x hx => by rw [List.mem_singleton.1 hx]; exact slice_one hu.bytes) (by unfold maxLen; omega) (by omega) fun ao cap w' g' ho' hT => ?_
  exact h ao cap w' g' (Lists.snoc ho' (by simp [h2]) h2 (fun j a b => (h3 j a b).turn hT (by simpa using ht j)) (hu.turn hT (by simpa using ht _))) hT

/-- ONE MORE, FOR THE WALK. -/
theorem append_one {w : World} {ops : Array Oper} {rest : List Oper} {o : Oper} {a : Act} {Q : Exit → Act → World → Prop} (hgd : o.guard = none) (s x : Operand)
    (ho : o.op = .call { callee := .builtin .append, args := #[s, x], argTypes := #[48, 48] }) {g : Tags} {t : Nat} {t' : Nat → Nat} {v u : Value} {ls : List (List UInt8)} {b : List UInt8} (hs : a.eval s = v) {k : Nat} (hown : Lists (w.alloc (.cells #[u] 42)) g t t' v ls)
    (hy : a.eval x = .slice (some ⟨k, 0, none⟩) 1 1) (hk : k = w.heap.size) (hu : Owns (w.alloc (.cells #[u] 42)) g (t' ls.length) 5 1 u b.length (b.map byteCell)) (ht : ∀ j, t' j ≠ t) (hm : ls.length + 1 ≤ 1000000000)
    (h : ∀ ao cap w' g', Lists w' g' t t' (.slice ao (ls.length + 1) cap) (ls ++ [b]) → Turn (w.alloc (.cells #[u] 42)) g w' g' [t] → wpList Tryz.prog ops Q rest (a.put o.dst (.slice ao (ls.length + 1) cap)) w') :
    wpList Tryz.prog ops Q (o :: rest) a (w.alloc (.cells #[u] 42)) := by
  obtain ⟨us, h1, h2, h3⟩ := hown
  have hsrc : Go.My.Src (w.alloc (.cells #[u] 42)) 1 (.slice (some ⟨k, 0, none⟩) 1 1) 1 [u] := Src.lit #[u] 42 hk rfl
  refine wpList_append_t _ hgd s x ho listsElem hs h1 hy hsrc (fun x hx => by rw [List.mem_singleton.1 hx]; exact slice_one hu.bytes) (by unfold maxLen; omega) (by omega) fun ao cap w' g' ho' hT => ?_
  exact h ao cap w' g' (Lists.snoc ho' (by simp [h2]) h2 (fun j a b => (h3 j a b).turn hT (by simpa using ht j)) (hu.turn hT (by simpa using ht _))) hT

/-- 'x[l:]', l of whatever kind, as a fact for the walk. -/
theorem slice_lk {P : Program} {t e : TypeId} (ht : P.underlying t = some (.slice e)) (h1 : (P.info? e).map (·.size) = some 1) (kl : IntKind) (a : Option Addr) (n cap k : Nat) (l : Int) (hl : l = k) (hk : k ≤ n) :
    ∃ ad : Option Addr, (∀ wx, (Instr.slice t (.slice a n cap) (some (.int kl l)) none none).run P wx = .ok (.slice ad (n - k) (cap - k)) wx) ∧ (k < cap → ad = a.map (·.add k)) ∧ (k = cap → ad = a) := by
  subst hl
  have he : P.elem t = e := by simp [Program.elem, ht]
  obtain ⟨i, hi, hs⟩ : ∃ i, P.info? e = some i ∧ i.size = 1 := by
    cases h : P.info? e with
    | none => rw [h] at h1; cases h1
    | some i => rw [h] at h1; exact ⟨i, rfl, by simpa using h1⟩
  refine ⟨if cap = k then a else a.map (·.add k), fun wx => ?_, fun h => by rw [if_neg (by omega)], fun h => by rw [if_pos h.symm]⟩
  rw [run_slice_l wx t _ _ _ (by rw [he]; exact ht) kl _ (by omega) (by omega), he]
  by_cases hc : cap = k <;> simp [sizeOf, typeInfo, hi, hs, sliced, hc]

/-- What stands behind k lists. -/
theorem Lists.drop {w : World} {g : Tags} {t : Nat} {t' : Nat → Nat} {a ad : Option Addr} {cap : Nat} {ls : List (List UInt8)} (h : Lists w g t t' (.slice a ls.length cap) ls) (k : Nat) (hk : k ≤ ls.length) (h1 : k < cap → ad = a.map (·.add k)) (h2 : k = cap → ad = a) :
    Lists w g t (fun j => t' (k + j)) (.slice ad (ls.length - k) (cap - k)) (ls.drop k) := by
  obtain ⟨us, ⟨r, ho, hr⟩, hl, hb⟩ := h
  refine ⟨us.drop k, ⟨r, ?_, hr⟩, by simp [hl], fun j a b => ?_⟩
  · rw [List.length_drop]
    rcases ho.2 with ⟨hv, hn, hg⟩ | ⟨b, off, c, cur, hv, hg, hh, h3, h4, h5, h6⟩
    · simp only [Value.slice.injEq] at hv
      obtain ⟨rfl, hn', rfl⟩ := hv
      have hk0 : k = 0 := by omega
      subst hk0
      rw [h2 rfl]
      exact ho
    · simp only [Value.slice.injEq] at hv
      obtain ⟨rfl, _, rfl⟩ := hv
      by_cases hc : k < cap
      · rw [h1 hc, Option.map_some, add_none]
        exact ho.drop k hk
      · rw [h2 (by omega)]
        exact ho.drop_all k (by omega) hk
  · have hj : k + j < us.length := by rw [List.length_drop] at a; omega
    simp only [List.getElem_drop]
    exact hb (k + j) hj (by omega)
end Go.Proofs.YtoedalocfepkoaaGreatDoor
