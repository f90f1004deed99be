/- Trees: lists of twins, as they grow (NdTwinM), and their blocks. -/
import Derived.Test.YtmkhfonafcikdaaGreatDoorTwAV
import Derived.Test.YtmkhfonafcikdaaGreatDoorTrC3
import Derived.Laws.MakeOwn
namespace Go.My
open Go.RowKit Go.Nd
section
variable {P : Program}
/-- A shorter piece of what the call owns. -/
theorem Owns.lessN {w : World} {g : Tags} {t : Nat} {e : TypeId} {size b off n m cap : Nat} {xs ys : List Value} (h : Owns w g t e size (.slice (some ⟨b, off, none⟩) (n + m) cap) (n + m) (xs ++ ys)) (hx : xs.length = n * size) : Owns w g t e size (.slice (some ⟨b, off, none⟩) n cap) n xs := by
  obtain ⟨k, ho, hk⟩ := h
  rcases ho.2 with ⟨hv, _⟩ | ⟨b', off', cap', cur, hv, hg, hh, h3, h4, h5, h6⟩
  · cases hv
  · cases hv
    refine ⟨k, ⟨hx, .inr ⟨b, off, cap, cur, rfl, hg, hh, by omega, h4, h5, ?_⟩⟩, hk⟩
    have h7 : ((cur.toList.drop off).take ((n + m) * size)).take (n * size) = (xs ++ ys).take (n * size) := by rw [h6]
    rw [List.take_take, Nat.min_eq_left (Nat.mul_le_mul_right _ (Nat.le_add_right _ _)), ← hx, List.take_left] at h7
    rw [← hx]; exact h7

/-- 'x[:h]', as a fact for the walk, whatever the elements' size. -/
theorem slice_hs {t e : TypeId} {size : Nat} (ht : P.underlying t = some (.slice e)) (h1 : (P.info? e).map (·.size) = some size) (b off n cap j : Nat) (h : Int) (hh : h = j) (hn : j ≤ cap) :
    ∀ wx, (Instr.slice t (.slice (some ⟨b, off, none⟩) n cap) none (some (.int .i64 h)) none).run P wx = .ok (.slice (some ⟨b, off, none⟩) j cap) wx := by
  subst hh
  have he : P.elem t = e := by simp [Program.elem, ht]
  obtain ⟨i, hi, hs⟩ : ∃ i, P.info? e = some i ∧ i.size = size := by
    cases h : P.info? e with
    | none => rw [h] at h1; cases h1
    | some i => rw [h] at h1; exact ⟨i, rfl, by simpa using h1⟩
  intro wx
  rw [run_slice_h wx t _ _ _ (by rw [he]; exact ht) .i64 _ (by omega) (by omega), he]
  simp [sizeOf, typeInfo, hi, sliced, add_none]

/-- A new row, nothing in it yet. -/
theorem owns_madeN (w : World) (g : Tags) (t : Nat) (e : TypeId) (z : Array Value) (m size : Nat) (hm : m ≤ maxLen) : Owns (w.alloc (.cells (madeCells z (m * size)) e)) (g.ext w.heap.size t) t e size (.slice (some ⟨w.heap.size, 0, none⟩) 0 m) 0 [] := by
  refine ⟨some w.heap.size, ⟨by simp, .inr ⟨w.heap.size, 0, m, _, rfl, rfl, heap_alloc_new w _, Nat.zero_le _, hm, ?_, by simp⟩⟩, fun b hb => by cases hb; exact Tags.ext_new _ _ _ _ (Nat.le_refl _)⟩
  rw [size_madeCells]; omega

theorem owns_someN {w : World} {g : Tags} {t : Nat} {e : TypeId} {size n : Nat} {xs : List Value} {ao : Option Addr} {cap : Nat} (h : Owns w g t e size (.slice ao (n + 1) cap) (n + 1) xs) : ∃ b off c, ao = some ⟨b, off, none⟩ ∧ c = cap ∧ n + 1 ≤ c := by
  obtain ⟨b, off, cap', hv, _, h1, _⟩ := Owns.cell h (Nat.succ_pos n)
  cases hv
  exact ⟨b, off, cap, rfl, rfl, h1⟩
/-- MAKE WITH ROOM, NOTHING IN IT YET, FOR THE WALK. -/
theorem wpList_make_t (w : World) {ops : Array Oper} {rest : List Oper} {o : Oper} {a : Act} {Q : Exit → Act → World → Prop} (hgd : o.guard = none) (s s' : Operand) {t e : TypeId}
    (ho : o.op = .makeSlice t s s') {size bytes : Nat} {z : Value} (E : Elem P t e size bytes z) {kl kc : IntKind} {ci : Int} {cn : Nat} (g : Tags) (tg : Nat) (hs : a.eval s = .int kl 0) (hs' : a.eval s' = .int kc ci)
    (hc : ci = (cn : Int)) (hbytes : (bytes : Int) * ci ≤ 281474976710656) (hm : cn ≤ maxLen)
    (h : ∀ b w' g', Owns w' g' tg e size (.slice (some ⟨b, 0, none⟩) 0 cn) 0 [] → Turn w g w' g' [] → wpList P ops Q rest (a.put o.dst (.slice (some ⟨b, 0, none⟩) 0 cn)) w') : wpList P ops Q (o :: rest) a w := by
  subst hc
  have hm' : cn ≤ 9223372036854775807 := by simp only [maxLen] at hm; omega
  refine wpList_make w hgd s s' ho E hs hs' (by omega) (by omega) hbytes (by omega) ?_
  have := h w.heap.size _ _ (owns_madeN w g tg e z.cells cn size hm) (Turn.alloc w g tg _)
  simpa using this
end

/-- The first nodes of a list have twins, in blocks of owner 1. -/
def ElsAre (w : World) (g : Tags) (els : List El) (xs : Ns) : Prop := ∀ j (h : j < els.length) (h' : j < xs.items.length), ElIs w (fun b => g b = 1) true els[j] xs.items[j]

theorem ElIs.turn {w w' : World} {g g' : Tags} {T : List Nat} {e : El} {x : Nd} (h : ElIs w (fun b => g b = 1) true e x) (k : Turn w g w' g' T) (h1 : 1 ∉ T) : ElIs w' (fun b => g' b = 1) true e x :=
  (h.mono (T := fun b => g' b = 1) fun b hb hg => (k.old b hb).trans hg).frame fun b hb hlt => k.keeps h1 b hb hlt
theorem ElsAre.turn {w w' : World} {g g' : Tags} {T : List Nat} {els : List El} {xs : Ns} (h : ElsAre w g els xs) (k : Turn w g w' g' T) (h1 : 1 ∉ T) : ElsAre w' g' els xs := fun j hj hj' => (h j hj hj').turn k h1
theorem ElsAre.snoc {w : World} {g : Tags} {els : List El} {xs : Ns} {e : El} (h : ElsAre w g els xs) (hlt : els.length < xs.items.length) (he : ElIs w (fun b => g b = 1) true e xs.items[els.length]) : ElsAre w g (els ++ [e]) xs := by
  intro j hj hj'
  by_cases hje : j = els.length
  · subst hje; simpa using he
  · have hj2 : j < els.length := by rw [List.length_append, List.length_singleton] at hj; omega
    rw [List.getElem_append_left hj2]; exact h j hj2 hj'

/-- The cells with the mark behind read as the nodes, all in what is new. -/
theorem nodes_made {w w2 : World} {g2 : Tags} {e : TypeId} {b off c n : Nat} {els : List El} {xs : Ns} (hn : n = xs.items.length) (hE : els.length = n) (hS : Since w w2 g2) (hA : ElsAre w2 g2 els xs)
    (hO : Owns w2 g2 2 e 5 (.slice (some ⟨b, off, none⟩) (n + 1) c) (n + 1) (elCells els ++ [.int .u8 0, .string (tx spare), .slice none 0 0, .slice none 0 0, .slice none 0 0])) (hR : n * 96 ≤ 140737488351232) :
    Nodes w2 (fun b => w.heap.size ≤ b) true (.slice (some ⟨b, off, none⟩) n c) xs := by
  have new : ∀ k t, t ≠ 0 → g2 k = t → w.heap.size ≤ k := fun k t ht hk => Nat.le_of_not_lt fun hlt => ht (hk.symm.trans (hS.zero k hlt))
  obtain ⟨b', off', c', hv, hg, h1, h2, _, hc⟩ := hO.cell (Nat.succ_pos n)
  cases hv
  have hb := new b 2 (by decide) hg
  have hlen : (elCells els).length = n * 5 := by rw [elCells_length, hE]
  refine ⟨_, c, by rw [hn]; rfl, ⟨by have : xs.len = n := hn.symm; omega, h2, by have : xs.len = n := hn.symm; omega, fun _ => by have : xs.len = n := hn.symm; omega⟩, ?_⟩
  refine nodesAt_of (S := fun b => w.heap.size ≤ b) hb xs els off (by omega) (fun j h h' => (hA j h h').mono fun k _ hk => new k 1 (by decide) hk) (fun j u hu => ?_) fun _ => ?_
  · have hj : j < n * 5 := by rw [← hlen]; exact (List.getElem?_eq_some_iff.1 hu).1
    rw [(hc j (by omega)).1, List.getElem?_append_left (by omega)]; exact hu
  · have q : ∀ o, o < 5 → w2.cell? ⟨b, off + n * 5 + o, none⟩ = [Value.int .u8 0, .string (tx spare), .slice none 0 0, .slice none 0 0, .slice none 0 0][o]? := fun o ho => by
      have := (hc (n * 5 + o) (by omega)).1
      rw [List.getElem?_append_right (by omega), hlen, Nat.add_sub_cancel_left, ← Nat.add_assoc] at this
      exact this
    rw [hE]
    exact ⟨q 0 (by decide), q 1 (by decide), q 2 (by decide), q 3 (by decide), q 4 (by decide)⟩

/-- Of the first nodes' twins: the blocks of all lists in them: each once, all new, of owner 1. -/
def NE (w : World) (g : Tags) (T : TypeId) (lo : Nat) (els : List El) (xs : Ns) : Prop :=
  ∃ Fs : Nat → List Nat, (∀ j (h : j < els.length) (h' : j < xs.items.length), NF w T (Fs j) els[j] xs.items[j]) ∧ InR lo w.heap.size ((List.range els.length).flatMap Fs) ∧ ∀ b ∈ (List.range els.length).flatMap Fs, g b = 1
theorem NE.nil (w : World) (g : Tags) (T : TypeId) (lo : Nat) (xs : Ns) : NE w g T lo [] xs := ⟨fun _ => [], (fun j h => absurd h (Nat.not_lt_zero _)), InR.nil _ _, fun b h => by simp at h⟩
theorem NE.turn {w w' : World} {g g' : Tags} {T : TypeId} {V : List Nat} {lo : Nat} {els : List El} {xs : Ns} (h : NE w g T lo els xs) (k : Turn w g w' g' V) (h1 : 1 ∉ V) : NE w' g' T lo els xs := by
  obtain ⟨Fs, h2, h3, h4⟩ := h
  refine ⟨Fs, fun j hj hj' => (h2 j hj hj').frame fun b hb => ?_, h3.mono (Nat.le_refl _) k.size, fun b hb => (k.old b (h3.2 b hb).2).trans (h4 b hb)⟩
  have hm : b ∈ (List.range els.length).flatMap Fs := List.mem_flatMap.2 ⟨j, List.mem_range.2 hj, hb⟩
  exact k.block b (h3.2 b hm).2 (by rw [h4 b hm]; exact h1)
theorem flat_snoc {els : List El} {e : El} {Fs : Nat → List Nat} {F : List Nat} : (List.range (els ++ [e]).length).flatMap (fun j => if j = els.length then F else Fs j) = (List.range els.length).flatMap Fs ++ F := by
  rw [List.length_append, List.length_singleton, List.range_succ, List.flatMap_append, List.flatMap_singleton, if_pos rfl]
  congr 1
  exact flatMap_same fun j hj => if_neg (by have := List.mem_range.1 hj; omega)
theorem NE.snoc {w w1 : World} {g g1 : Tags} {T : TypeId} {lo : Nat} {els : List El} {xs : Ns} {e : El} {F : List Nat} (h : NE w g T lo els xs) (hlo : lo ≤ w.heap.size) (k : Turn w g w1 g1 []) (hlt : els.length < xs.items.length) (hN : NF w1 T F e xs.items[els.length]) (hr : InR w.heap.size w1.heap.size F) (hg : ∀ b ∈ F, g1 b = 1) : NE w1 g1 T lo (els ++ [e]) xs := by
  obtain ⟨Fs, h2, h3, h4⟩ := h
  refine ⟨fun j => if j = els.length then F else Fs j, fun j hj hj' => ?_, ?_, fun b hb => ?_⟩
  · by_cases hje : j = els.length
    · subst hje
      simp only [if_pos]
      rw [List.getElem_append_right (Nat.le_refl _)]
      simpa using hN
    · have hj2 : j < els.length := by rw [List.length_append, List.length_singleton] at hj; omega
      rw [List.getElem_append_left hj2]
      simp only [if_neg hje]
      refine (h2 j hj2 hj').frame fun b hb => ?_
      exact k.block b (h3.2 b (List.mem_flatMap.2 ⟨j, List.mem_range.2 hj2, hb⟩)).2 (by simp)
  · rw [flat_snoc]; exact h3.app hr hlo k.size
  · rw [flat_snoc] at hb
    rcases List.mem_append.1 hb with hb | hb
    · exact (k.old b (h3.2 b hb).2).trans (h4 b hb)
    · exact hg b hb
theorem nf_of {w : World} {T : TypeId} {m0 m1 m2 m3 k : Nat} {t : List UInt8} {u1 u2 u3 : Value} {l b e : Ns} (hk : k < 256) (ht : t.length ≤ 140737488351232) (h1 : LR w T m0 m1 u1 l) (h2 : LR w T m1 m2 u2 b) (h3 : LR w T m2 m3 u3 e) (l1 : m0 ≤ m1) (l2 : m1 ≤ m2) (l3 : m2 ≤ m3) :
    ∃ F, NF w T F ⟨k, t, u1, u2, u3⟩ ⟨k, t, l, b, e⟩ ∧ InR m0 m3 F := by
  obtain ⟨F1, a1, r1⟩ := h1
  obtain ⟨F2, a2, r2⟩ := h2
  obtain ⟨F3, a3, r3⟩ := h3
  exact ⟨F1 ++ (F2 ++ F3), ⟨F1, F2, F3, rfl, ⟨⟨rfl, hk⟩, rfl, ht⟩, a1, a2, a3⟩, r1.app (r2.app r3 l2 l3) l1 (by omega)⟩
/-- The list of the twins, and its blocks. -/
theorem lr_made {w w2 : World} {g2 : Tags} {T : TypeId} {b off c n : Nat} {els : List El} {xs : Ns} {mk : List Value} (hn : n = xs.items.length) (hE : els.length = n) (hS : Since w w2 g2) (hA : NE w2 g2 T w.heap.size els xs)
    (hO : Owns w2 g2 2 T 5 (.slice (some ⟨b, off, none⟩) (n + 1) c) (n + 1) (elCells els ++ mk)) (hR : n * 96 ≤ 140737488351232) : LR w2 T w.heap.size w2.heap.size (.slice (some ⟨b, off, none⟩) n c) xs := by
  have hlen : xs.len = n := hn.symm
  obtain ⟨k, ho, hk⟩ := hO.lessN (by rw [elCells_length, hE])
  obtain ⟨Fs, h2, h3, h4⟩ := hA
  refine ⟨_, LF.of_nodes Fs (by rw [hlen]; exact ho) (by rw [hlen]; exact hR) (by rw [hE, hn]) h2, ?_, ?_⟩
  · refine List.nodup_append.2 ⟨by cases k <;> simp, h3.1, fun a ha b hb e => ?_⟩
    subst e
    have h5 := h4 a hb
    have h6 := hk a (by simpa using ha)
    omega
  · intro a ha
    rcases List.mem_append.1 ha with ha | ha
    · have h6 := hk a (by simpa using ha)
      exact ⟨Nat.le_of_not_lt fun hlt => by have := hS.zero a hlt; omega, ho.lt a (by simpa using ha)⟩
    · exact h3.2 a ha
end Go.My
