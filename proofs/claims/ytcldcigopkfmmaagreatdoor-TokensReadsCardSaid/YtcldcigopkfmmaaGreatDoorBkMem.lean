/- Lists that a book keeps, each in memory of its own: what an append leaves of the shorter list. No program in sight. -/
import Derived.Test.YtcldcigopkfmmaaGreatDoorTag
namespace Go.My
open Go.RowKit

section
variable {P : Program} (w : World)

/-- APPEND, and where the longer list lies: at the old place, or in a new block (then all old blocks are as they were). -/
theorem run_append_at {t e : TypeId} {size bytes : Nat} {z : Value} (E : Elem P t e size bytes z) (ty : TypeId)
    {v : Value} {n : Nat} {xs : List Value} {g : Option Nat} (hown : Own w e size v n xs g) {ad : Addr} {c : Nat} {m : Nat} {news : List Value} (hl : news.length = m * size) (hnews : ∀ j u, news[j]? = some u → w.cell? (ad.add j) = some u) (h1 : ∀ u ∈ news, u.oneCell' = true)
    (h63 : n + m ≤ maxLen) (hbytes : (n + m) * bytes ≤ 140737488355328) (hm : 0 < m) :
    ∃ v' w' g', (Builtin.append_ #[t, t] ty #[v, .slice (some ad) m c]).run P w = .ok v' w' ∧ Own w' e size v' (n + m) (xs ++ news) g' ∧
      ((∃ b off cap, v = .slice (some ⟨b, off, none⟩) n cap ∧ v' = .slice (some ⟨b, off, none⟩) (n + m) cap ∧ g = some b ∧ g' = some b ∧ Step w w' (some b)) ∨
       (Below w.heap.size w w' ∧ ∃ k cap, v' = .slice (some ⟨k, 0, none⟩) (n + m) cap ∧ g' = some k ∧ w.heap.size ≤ k)) := by
  obtain ⟨ht, ⟨i, hi, hz, hsize, hby⟩, hzs, hsz⟩ := E
  subst hsize
  subst hby
  have hsmall : n + m ≤ 9223372036854775807 := by simp only [maxLen] at h63; omega
  have hlen : (xs ++ news).length = (n + m) * i.size := by rw [List.length_append, hown.1, hl, Nat.add_mul]
  have grown : ∀ (old : Nat), old < n + m →
      Own (w.drew.alloc (.cells (xs.toArray ++ news.toArray ++ Builtin.zeroCells z.cells (grownCap w (n + m) old e - (n + m))) e)) e i.size
        (.slice (some ⟨w.heap.size, 0, none⟩) (n + m) (grownCap w (n + m) old e)) (n + m) (xs ++ news) (some w.heap.size) ∧
      Below w.heap.size w (w.drew.alloc (.cells (xs.toArray ++ news.toArray ++ Builtin.zeroCells z.cells (grownCap w (n + m) old e - (n + m))) e)) := by
    intro old ho
    have hge := grownCap_ge w (n + m) old e
    have hcm : grownCap w (n + m) old e ≤ maxLen := grownCap_le_maxLen w (n + m) old e h63
    refine ⟨⟨hlen, .inr ⟨w.heap.size, 0, _, _, rfl, rfl, heap_alloc_new w.drew _, hge, hcm, ?_, ?_⟩⟩, ⟨rfl, rfl, rfl, by simp, fun k hk => Below.heap_alloc w.drew _ k hk⟩⟩
    · simp only [Array.size_append, List.size_toArray, size_zeroCells, hzs, hown.1, hl, ← Nat.add_mul, Nat.zero_add]
      apply Nat.mul_le_mul_right
      omega
    · simp only [Array.toList_append, List.append_assoc, List.drop_zero]
      rw [← List.append_assoc, ← hlen]
      exact List.take_left
  rcases hown.2 with ⟨rfl, rfl, rfl⟩ | ⟨b, off, cap, cur, rfl, rfl, hh, h3, h4, h5, h6⟩
  · have hxs : xs = [] := List.eq_nil_of_length_eq_zero (by simpa using hown.1)
    subst hxs
    have hr := run_append_nil (P := P) w t ty e i z ht hi hz ad m c news hl hnews (by omega) (by omega) (by have hb := hbytes; simp only [Nat.zero_add] at hb; omega)
    have hgr := grown 0 (by omega)
    simp only [Nat.zero_add, List.nil_append, Array.empty_append] at hgr ⊢
    exact ⟨_, _, _, hr, hgr.1, .inr ⟨hgr.2, _, _, rfl, rfl, Nat.le_refl _⟩⟩
  · by_cases hroom : n + m ≤ cap
    · have hfit : off + n * i.size + news.length ≤ cur.size := by
        have := Nat.mul_le_mul_right i.size hroom
        rw [hl]; rw [Nat.add_mul] at this; omega
      have hf := run_firstCells_some (P := P) w i.size m ad m c news hl hnews
      have hst := run_storeCells_at P b (off + n * i.size) e news 0 cur w hh (by simpa using hfit) h1
      simp only [Nat.add_zero] at hst
      have hr : (Builtin.append_ #[t, t] ty #[.slice (some ⟨b, off, none⟩) n cap, .slice (some ad) m c]).run P w =
          .ok (.slice (some ⟨b, off, none⟩) (n + m) cap) (w.setRow b (cur.toList.take (off + n * i.size) ++ news ++ cur.toList.drop (off + n * i.size + news.length)).toArray) := by
        simp [Builtin.append_, run_underlying ht, sizeOf, typeInfo, hi, Builtin.lenOf, hroom, hf, Addr.add_lit, hst]
      refine ⟨_, _, some b, hr, ⟨hlen, .inr ⟨b, off, cap, _, rfl, rfl, setRow_heap w b cur _ e _ hh, hroom, h4, ?_, ?_⟩⟩,
        .inl ⟨b, off, cap, rfl, rfl, rfl, rfl, rfl, rfl, rfl, by simp, fun k _ hk => setRow_other w b k _ (fun e => hk (by simp [e]))⟩⟩
      · simp only [List.size_toArray, List.length_append, List.length_take, List.length_drop, Array.length_toList]
        omega
      · have hx1 : xs.length = n * i.size := hown.1
        have hpre : (cur.toList.take (off + n * i.size)).drop off = xs := by
          rw [List.drop_take, ← h6]; congr 1; omega
        have hlo : off ≤ (cur.toList.take (off + n * i.size)).length := by simp; omega
        show List.take ((n + m) * i.size) (List.drop off (cur.toList.take (off + n * i.size) ++ news ++ cur.toList.drop (off + n * i.size + news.length))) = xs ++ news
        rw [List.append_assoc, List.drop_append_of_le_length hlo, hpre, ← List.append_assoc, ← hlen]
        exact List.take_left
    · have holds : ∀ j u, xs[j]? = some u → w.cell? ((⟨b, off, none⟩ : Addr).add j) = some u := by
        intro j u hj
        rw [add_none, cell_of_row w b (off + j) cur e (0, 0) hh, ← hj, ← h6, List.getElem?_take, List.getElem?_drop]
        rw [if_pos (by have := (List.getElem?_eq_some_iff.1 hj).1; rw [hown.1] at this; exact this)]; simp
      have hr := run_append_grow (P := P) w t ty e i z ht hi hz ⟨b, off, none⟩ n cap xs hown.1 holds ad m c news hl hnews (by omega) (by omega) (growslice_fits (by omega) hbytes)
      have hgr := grown cap (by omega)
      exact ⟨_, _, _, hr, hgr.1, .inr ⟨hgr.2, _, _, rfl, rfl, Nat.le_refl _⟩⟩
end

/-- A list v of n elements, and a longer one, u, that began as it: the first reads as xs, the second as xs and more. Both are t's. -/
def Grown (w : World) (g : Tags) (t : Nat) (e : TypeId) (size : Nat) (v : Value) (n : Nat) (xs : List Value) (u : Value) (m : Nat) (more : List Value) : Prop :=
  xs.length = n * size ∧ Owns w g t e size u (n + m) (xs ++ more) ∧
  ∃ ao cap, v = .slice ao n cap ∧ ((ao = none ∧ n = 0) ∨ ∃ b off, ao = some ⟨b, off, none⟩ ∧ g b = t ∧ b < w.heap.size ∧ ∀ j c, xs[j]? = some c → w.cell? ⟨b, off + j, none⟩ = some c) ∧
    (∀ b off c, u = .slice (some ⟨b, off, none⟩) (n + m) c → ao = some ⟨b, off, none⟩ ∨ ∀ o, ao = some o → o.block ≠ b)

theorem Owns.grown {w : World} {g : Tags} {t : Nat} {e : TypeId} {size : Nat} {v : Value} {n : Nat} {xs : List Value} (h : Owns w g t e size v n xs) : Grown w g t e size v n xs v 0 [] := by
  obtain ⟨k, ho, hk⟩ := h
  refine ⟨ho.1, ⟨k, by simpa using ho, hk⟩, ?_⟩
  rcases ho.2 with ⟨rfl, rfl, _⟩ | ⟨b, off, cap, cur, rfl, hg, hh, h3, h4, h5, h6⟩
  · exact ⟨none, 0, rfl, .inl ⟨rfl, rfl⟩, fun b off c hu => by cases hu⟩
  · refine ⟨_, cap, rfl, .inr ⟨b, off, rfl, hk b hg, (Array.getElem?_eq_some_iff.1 hh).1, fun j c hj => ?_⟩, fun b' off' c hu => by cases hu; exact .inl rfl⟩
    rw [cell_of_row w b (off + j) cur e (0, 0) hh, ← hj, ← h6, List.getElem?_take, List.getElem?_drop]
    rw [if_pos (by have := (List.getElem?_eq_some_iff.1 hj).1; rw [ho.1] at this; exact this)]; simp

/-- The shorter one reads as it did. -/
theorem Grown.cell {w : World} {g : Tags} {t : Nat} {e : TypeId} {size : Nat} {v : Value} {n : Nat} {xs : List Value} {u : Value} {m : Nat} {more : List Value} (h : Grown w g t e size v n xs u m more) (hn : 0 < n) :
    ∃ b off cap, v = .slice (some ⟨b, off, none⟩) n cap ∧ ∀ j c, xs[j]? = some c → w.cell? ⟨b, off + j, none⟩ = some c := by
  obtain ⟨_, _, ao, cap, hv, hc, _⟩ := h
  rcases hc with ⟨_, h0⟩ | ⟨b, off, rfl, _, _, hcell⟩
  · omega
  · exact ⟨b, off, cap, hv, hcell⟩

theorem Grown.turn {w w' : World} {g g' : Tags} {T : List Nat} {t : Nat} {e : TypeId} {size : Nat} {v : Value} {n : Nat} {xs : List Value} {u : Value} {m : Nat} {more : List Value} (h : Grown w g t e size v n xs u m more) (k : Turn w g w' g' T) (ht : t ∉ T) : Grown w' g' t e size v n xs u m more := by
  obtain ⟨hl, ho, ao, cap, hv, hc, hu⟩ := h
  refine ⟨hl, ho.turn k ht, ao, cap, hv, ?_, hu⟩
  rcases hc with h0 | ⟨b, off, ha, hg, hb, hcell⟩
  · exact .inl h0
  refine .inr ⟨b, off, ha, (k.old b hb).trans hg, Nat.lt_of_lt_of_le hb k.size, fun j c hj => ?_⟩
  exact (World.cell?_of_block (k.block b hb (by rw [hg]; exact ht))).trans (hcell j c hj)

section
variable {P : Program} (w : World)
/-- ONE MORE BEHIND THE LONGER ONE, FOR THE WALK. -/
theorem wpList_append_grown {ops : Array Oper} {rest : List Oper} {o : Oper} {a : Act} {Q : Exit → Act → World → Prop} (hgd : o.guard = none) (s x : Operand) {t e : TypeId}
    (ho : o.op = .call { callee := .builtin .append, args := #[s, x], argTypes := #[t, t] }) {size bytes : Nat} {z : Value} (E : Elem P t e size bytes z)
    {v u : Value} {n m : Nat} {xs more : List Value} {g : Tags} {tg : Nat} (hs : a.eval s = u) (hG : Grown w g tg e size v n xs u m more) {y : Value} {ad : Addr} {c : Nat} {news : List Value} (hy : a.eval x = y) (hyy : y = .slice (some ad) 1 c) (hl : news.length = size) (hnews : ∀ j q, news[j]? = some q → w.cell? (ad.add j) = some q) (h1 : ∀ q ∈ news, q.oneCell' = true)
    (h63 : n + m + 1 ≤ maxLen) (hbytes : (n + m + 1) * bytes ≤ 140737488355328)
    (h : ∀ ao cap w' g', Grown w' g' tg e size v n xs (.slice ao (n + (m + 1)) cap) (m + 1) (more ++ news) → Turn w g w' g' [tg] → wpList P ops Q rest (a.put o.dst (.slice ao (n + (m + 1)) cap)) w') : wpList P ops Q (o :: rest) a w := by
  obtain ⟨hxl, ⟨k, hown, hk⟩, ao, cap, hv, hcell, hap⟩ := hG
  subst hyy
  obtain ⟨v', w', g', hr, hown', hor⟩ := run_append_at w E o.type hown (m := 1) (c := c) (by omega) hnews h1 h63 hbytes (by decide)
  refine wpList_plain hgd fun _ hK => ?_
  unfold Oper.wp execOp
  simp only [ho, resolve, invoke, builtin, Sem.run_bind, Sem.run_pure, Result.andThen_ok, List.map_toArray, List.map_cons, List.map_nil, hs, hy, hr]
  refine hK _ _ ?_
  rw [List.append_assoc] at hown'
  rcases hor with ⟨b, off, cp, hu, hv', hkb, hkb', hst⟩ | ⟨hb, k', cp, hv', hk', hge⟩
  · subst hv'
    have hT := Turn.of_step hst g tg (fun q e => by cases e; exact hk b hkb)
    refine h _ _ w' _ ⟨hxl, ⟨g', hown', fun q hq => ?_⟩, ao, cap, hv, ?_, fun b2 off2 c2 h2 => ?_⟩ hT
    · rw [hkb'] at hq; cases hq
      rw [Tags.ext_old _ _ _ _ (hown.lt b hkb)]; exact hk b hkb
    · rcases hcell with h0 | ⟨b3, off3, ha3, hg3, hlt3, hc3⟩
      · exact .inl h0
      refine .inr ⟨b3, off3, ha3, by rw [Tags.ext_old _ _ _ _ hlt3]; exact hg3, Nat.lt_of_lt_of_le hlt3 hst.size, fun j q hj => ?_⟩
      rcases hap b off cp (by rw [hu]) with h4 | h4
      · rw [ha3] at h4; cases h4
        rcases hown'.2 with ⟨e1, _⟩ | ⟨b5, off5, cap5, cur5, e5, _, hh5, h35, h45, h55, h65⟩
        · cases e1
        · cases e5
          have hj2 := (List.getElem?_eq_some_iff.1 hj).1
          rw [cell_of_row w' b (off + j) cur5 e (0, 0) hh5]
          have h7 : (xs ++ (more ++ news))[j]? = some q := by rw [List.getElem?_append_left hj2]; exact hj
          rw [← h65, List.getElem?_take] at h7
          split at h7
          · rw [List.getElem?_drop, Array.getElem?_toList] at h7; exact h7
          · cases h7
      · have hne : b3 ≠ b := h4 _ ha3
        exact (hst.cell (a := ⟨b3, off3 + j, none⟩) hlt3 (fun e => hne (by cases e; rfl))).trans (hc3 j q hj)
    · cases h2
      rcases hap b off cp (by rw [hu]) with h4 | h4
      · exact .inl h4
      · exact .inr h4
  · subst hv'
    have hT := (Turn.of_below hb g tg)
    refine h _ _ w' _ ⟨hxl, ⟨g', hown', fun q hq => ?_⟩, ao, cap, hv, ?_, fun b2 off2 c2 h2 => ?_⟩ (hT.mono (by simp))
    · rw [hk'] at hq; cases hq
      exact Tags.ext_new _ _ _ _ hge
    · rcases hcell with h0 | ⟨b3, off3, ha3, hg3, hlt3, hc3⟩
      · exact .inl h0
      refine .inr ⟨b3, off3, ha3, by rw [Tags.ext_old _ _ _ _ hlt3]; exact hg3, Nat.lt_of_lt_of_le hlt3 hb.size, fun j q hj => ?_⟩
      exact (World.cell?_of_block (hb.block b3 hlt3)).trans (hc3 j q hj)
    · cases h2
      rcases hcell with ⟨h0, _⟩ | ⟨b3, off3, ha3, hg3, hlt3, hc3⟩
      · exact .inr fun q hq => by rw [h0] at hq; cases hq
      · refine .inr fun q hq => ?_
        rw [ha3] at hq; cases hq
        show b3 ≠ k'
        omega
end

theorem oneCell_set {w : World} {b o : Nat} {cur : Array Value} {e : TypeId} (u : Value) (h : w.heap[b]? = some (.cells cur e (0, 0))) : (w.setCell ⟨b, o, none⟩ u).heap[b]? = some (.cells (cur.setIfInBounds o u) e (0, 0)) := heap_setCell_same w b o _ _ u h

theorem drop_set_take (l : List Value) (off j n : Nat) (u : Value) (hj : j < n) (_ : off + n ≤ l.length) : ((l.set (off + j) u).drop off).take n = ((l.drop off).take n).set j u := by
  apply List.ext_getElem
  · simp
  · intro i h1 h2
    simp only [List.getElem_take, List.getElem_drop, List.getElem_set]
    by_cases hij : i = j
    · subst hij; simp
    · rw [if_neg (by omega), if_neg (by omega)]

/-- A cell of a list that the call owns. -/
theorem Owns.cell {w : World} {g : Tags} {t : Nat} {e : TypeId} {size : Nat} {v : Value} {n : Nat} {xs : List Value} (h : Owns w g t e size v n xs) (hn : 0 < n) :
    ∃ b off cap, v = .slice (some ⟨b, off, none⟩) n cap ∧ g b = t ∧ n ≤ cap ∧ cap ≤ maxLen ∧ b < w.heap.size ∧ ∀ j, j < n * size → w.cell? ⟨b, off + j, none⟩ = xs[j]? ∧ w.frozen? ⟨b, off + j, none⟩ = false := by
  obtain ⟨k, ho, hk⟩ := h
  rcases ho.2 with ⟨_, rfl, _⟩ | ⟨b, off, cap, cur, rfl, hg, hh, h3, h4, h5, h6⟩
  · exact absurd hn (Nat.lt_irrefl _)
  · refine ⟨b, off, cap, rfl, hk b hg, h3, h4, (Array.getElem?_eq_some_iff.1 hh).1, fun j hj => ⟨?_, frozen_of_row w b (off + j) _ _ hh⟩⟩
    rw [cell_of_row w b (off + j) cur e (0, 0) hh, ← h6, List.getElem?_take, if_pos hj, List.getElem?_drop, Array.getElem?_toList]

/-- A STORE INTO IT. -/
theorem Owns.set {w : World} {g : Tags} {t : Nat} {e : TypeId} {size b off n cap : Nat} {xs : List Value} (h : Owns w g t e size (.slice (some ⟨b, off, none⟩) n cap) n xs) (j : Nat) (hj : j < n * size) (u : Value) :
    Owns (w.setCell ⟨b, off + j, none⟩ u) g t e size (.slice (some ⟨b, off, none⟩) n cap) n (xs.set j u) ∧ Turn w g (w.setCell ⟨b, off + j, none⟩ u) g [t] := by
  obtain ⟨k, ho, hk⟩ := h
  rcases ho.2 with ⟨hv, _⟩ | ⟨b', off', cap', cur, hv, hg, hh, h3, h4, h5, h6⟩
  · cases hv
  · cases hv
    have hb : g b = t := hk b hg
    refine ⟨⟨k, ⟨by rw [List.length_set]; exact ho.1, .inr ⟨b, off, cap, _, rfl, hg, oneCell_set u hh, h3, h4, by simpa using h5, ?_⟩⟩, hk⟩, ?_⟩
    · have h7 : n * size ≤ cap * size := Nat.mul_le_mul_right _ h3
      rw [← h6, Array.toList_setIfInBounds]
      exact drop_set_take _ _ _ _ _ hj (by rw [Array.length_toList]; omega)
    · have := Turn.setCell w g ⟨b, off + j, none⟩ u (by simp) rfl rfl rfl
      rw [hb] at this; exact this

/-- Many are not one of many. -/
theorem not_mem_upto (t m k : Nat) (h : t < k ∨ k + m ≤ t) : t ∉ (List.range m).map (k + ·) := by
  intro hm
  obtain ⟨j, hj, he⟩ := List.mem_map.1 hm
  have := List.mem_range.1 hj
  omega

/-- A block of cells that the call made. -/
def Bx (w : World) (g : Tags) (b : Nat) (ty : TypeId) (t : Nat) (cs : Array Value) : Prop := w.heap[b]? = some (.cells cs ty (0, 0)) ∧ g b = t
theorem Bx.lt {w : World} {g : Tags} {b : Nat} {ty : TypeId} {t : Nat} {cs : Array Value} (h : Bx w g b ty t cs) : b < w.heap.size := (Array.getElem?_eq_some_iff.1 h.1).1
theorem Bx.turn {w w' : World} {g g' : Tags} {T : List Nat} {b : Nat} {ty : TypeId} {t : Nat} {cs : Array Value} (h : Bx w g b ty t cs) (k : Turn w g w' g' T) (ht : t ∉ T) : Bx w' g' b ty t cs :=
  ⟨(k.block b h.lt (by rw [h.2]; exact ht)).trans h.1, (k.old b h.lt).trans h.2⟩
theorem Bx.cell {w : World} {g : Tags} {b : Nat} {ty : TypeId} {t : Nat} {cs : Array Value} (h : Bx w g b ty t cs) (i : Nat) : w.cell? ⟨b, i, none⟩ = cs[i]? ∧ w.frozen? ⟨b, i, none⟩ = false :=
  ⟨cell_of_row w b i _ _ _ h.1, frozen_of_row w b i _ _ h.1⟩
theorem Bx.alloc (w : World) (g : Tags) (ty : TypeId) (t : Nat) (cs : Array Value) : Bx (w.alloc (.cells cs ty)) (g.ext w.heap.size t) w.heap.size ty t cs :=
  ⟨heap_alloc_new w _, Tags.ext_new _ _ _ _ (Nat.le_refl _)⟩
theorem Bx.store {w : World} {g : Tags} {b : Nat} {ty : TypeId} {t : Nat} {cs : Array Value} (h : Bx w g b ty t cs) (i : Nat) (v : Value) :
    Turn w g (w.setCell ⟨b, i, none⟩ v) g [t] ∧ Bx (w.setCell ⟨b, i, none⟩ v) g b ty t (cs.setIfInBounds i v) := by
  refine ⟨?_, heap_setCell_same w b i _ _ v h.1, h.2⟩
  have := Turn.setCell w g ⟨b, i, none⟩ v (by simp) rfl rfl rfl
  rw [h.2] at this; exact this
end Go.My
