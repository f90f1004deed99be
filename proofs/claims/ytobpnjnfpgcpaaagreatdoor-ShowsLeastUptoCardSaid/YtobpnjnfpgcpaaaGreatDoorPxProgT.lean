/- Trees: the reader: functions and a program in new memory; how a program's reading ends. -/
import Derived.Test.YtobpnjnfpgcpaaaGreatDoorPxCatchT
namespace Go.Proofs.YtobpnjnfpgcpaaaGreatDoor
open Go.RowKit Go.My Go.Nd

theorem fnEl : Elem Tryz.prog 22 50 3 64 (.agg #[.string ⟨#[]⟩, .slice none 0 0, .slice none 0 0]) := Elem.mk' Tryz.underlying22 (by kernel_rfl) rfl (by decide)

/-- A list of functions; F: the blocks of it, and of all in it. -/
def FsF (w : World) (F : List Nat) (v : Value) (fs : List Nd.Fn) : Prop :=
  ∃ (els : List FV) (k : Option Nat), F = k.toList ++ els.flatMap (fun x => x.F1 ++ x.F2) ∧ els.map (·.f) = fs ∧ Own w TFn 3 v els.length (els.flatMap FV.cells) k ∧ els.length * 64 ≤ 140737488351232 ∧ ∀ x ∈ els, x.Ok w
def FsR (w : World) (lo hi : Nat) (v : Value) (fs : List Nd.Fn) : Prop := ∃ F, FsF w F v fs ∧ InR lo hi F

theorem FsF.frame {w w' : World} {F : List Nat} {v : Value} {fs : List Nd.Fn} (h : FsF w F v fs) (hs : ∀ b ∈ F, w'.heap[b]? = w.heap[b]?) : FsF w' F v fs := by
  obtain ⟨els, k, rfl, h1, h2, h3, h4⟩ := h
  refine ⟨els, k, rfl, h1, h2.frame fun b hb => hs b (by subst hb; simp), h3, fun x hx => (h4 x hx).frame fun b hb => hs b (List.mem_append_right _ (List.mem_flatMap.2 ⟨x, hx, hb⟩))⟩
theorem FsR.frame {w w' : World} {lo hi : Nat} {v : Value} {fs : List Nd.Fn} (h : FsR w lo hi v fs) (hs : ∀ b, lo ≤ b → b < hi → w'.heap[b]? = w.heap[b]?) : FsR w' lo hi v fs := by
  obtain ⟨F, h1, h2⟩ := h
  exact ⟨F, h1.frame fun b hb => hs b (h2.2 b hb).1 (h2.2 b hb).2, h2⟩
theorem FsR.mono {w : World} {lo hi lo' hi' : Nat} {v : Value} {fs : List Nd.Fn} (h : FsR w lo hi v fs) (h1 : lo' ≤ lo) (h2 : hi ≤ hi') : FsR w lo' hi' v fs := by obtain ⟨F, k1, k2⟩ := h; exact ⟨F, k1, k2.mono h1 h2⟩
theorem FsR.nil (w : World) (lo hi : Nat) : FsR w lo hi (.slice none 0 0) [] := ⟨[], ⟨[], none, rfl, rfl, Own.nil w TFn 3, Nat.zero_le _, fun _ h => by cases h⟩, InR.nil _ _⟩
theorem FsR.form {w : World} {lo hi : Nat} {v : Value} {fs : List Nd.Fn} (h : FsR w lo hi v fs) : ∃ a c, v = .slice a fs.length c := by
  obtain ⟨F, ⟨els, k, _, h1, h2, _⟩, _⟩ := h
  have := own_form h2
  rwa [show els.length = fs.length by rw [← h1, List.length_map]] at this
theorem FsR.later {w w' : World} {lo hi : Nat} {v : Value} {fs : List Nd.Fn} (h : FsR w lo hi v fs) (hb : Below w.heap.size w w') (hh : hi ≤ w.heap.size) : FsR w' lo hi v fs := h.frame fun b _ hb' => hb.block b (by omega)
theorem FsR.kept {w w' : World} {rb lo hi : Nat} {v : Value} {fs : List Nd.Fn} (h : FsR w lo hi v fs) (hs : Step w w' (some rb)) (hrb : rb < lo) (hh : hi ≤ w.heap.size) : FsR w' lo hi v fs := h.frame fun b h1 h2 => hs.kept (by omega) (by omega)

/-- One more, appended: what is so behind it. -/
theorem FsR.app {w : World} {lo hi hi2 : Nat} {v : Value} {fs : List Nd.Fn} {cs : Array Value} {f : Nd.Fn} (h : FsR w lo hi v fs) (hN : FR w hi hi2 (.agg cs) f) (h1 : lo ≤ hi) (h2 : hi ≤ hi2) (h3 : hi2 ≤ w.heap.size) (hn : (fs.length + 1) * 64 ≤ 140737488351232) :
    (∀ u ∈ cs.toList, u.oneCell' = true) ∧ ∃ xs k, Own w TFn 3 v fs.length xs k ∧ (∀ b, k = some b → lo ≤ b ∧ b < hi) ∧ ∀ w' v' k', Own w' TFn 3 v' (fs.length + 1) (xs ++ cs.toList) k' → Step w w' k → (k' = k ∨ ∃ j, k' = some j ∧ w.heap.size ≤ j) → FsR w' lo w'.heap.size v' (fs ++ [f]) := by
  obtain ⟨F, ⟨els, k, rfl, hmap, ho, hle, hok⟩, hr⟩ := h
  obtain ⟨x, h0, hx, hf, kr⟩ := hN
  cases h0
  have hlen : els.length = fs.length := by rw [← hmap, List.length_map]
  have hc1 : ∀ u ∈ x.cells, u.oneCell' = true := by
    intro u hu
    obtain ⟨k1, _, ha, _⟩ := hx.args
    obtain ⟨a1, c1, e1⟩ := own_form ha
    obtain ⟨a2, c2, e2⟩ := hx.body.form
    unfold FV.cells at hu
    simp at hu
    rcases hu with rfl | rfl | rfl
    · rfl
    · rw [e1]; rfl
    · rw [e2]; rfl
  refine ⟨by simpa using hc1, els.flatMap FV.cells, k, hlen ▸ ho, fun b hb => hr.2 b (by subst hb; simp), fun w' v' k' ho' st hk' => ?_⟩
  have hk1 : ∀ b, k = some b → lo ≤ b ∧ b < hi := fun b hb => hr.2 b (by subst hb; simp)
  have hC : InR lo hi (els.flatMap fun x => x.F1 ++ x.F2) := ⟨(List.nodup_append.1 hr.1).2.1, fun b hb => hr.2 b (List.mem_append_right _ hb)⟩
  have hkC : ∀ b, k = some b → b ∉ els.flatMap (fun x => x.F1 ++ x.F2) := fun b hb hm => by
    subst hb
    exact (List.nodup_append.1 hr.1).2.2 b (by simp) b hm rfl
  have hx' : x.Ok w' := hx.frame fun b hb => st.block b (by have := (kr.2 b hb).2; omega) fun hbk => by have := (hk1 b hbk.symm).2; have := (kr.2 b hb).1; omega
  have hok' : ∀ y ∈ els, y.Ok w' := fun y hy => (hok y hy).frame fun b hb => by
    have hm : b ∈ els.flatMap (fun x => x.F1 ++ x.F2) := List.mem_flatMap.2 ⟨y, hy, hb⟩
    exact st.block b (by have := (hC.2 b hm).2; omega) fun hbk => hkC b hbk.symm hm
  refine ⟨k'.toList ++ (els ++ [x]).flatMap (fun x => x.F1 ++ x.F2), ⟨els ++ [x], k', rfl, by rw [List.map_append, hmap]; simp [hf], ?_, by rw [List.length_append, List.length_singleton, hlen]; exact hn, fun y hy => ?_⟩, ?_⟩
  · rw [List.length_append, List.length_singleton, List.flatMap_append, List.flatMap_singleton, hlen]; simpa using ho'
  · rcases List.mem_append.1 hy with hy | hy
    · exact hok' y hy
    · simp at hy; subst hy; exact hx'
  · rw [List.flatMap_append, List.flatMap_singleton]
    have hs := st.size
    rcases hk' with rfl | ⟨j, rfl, hj⟩
    · rw [← List.append_assoc]
      exact (hr.app kr h1 h2).mono (Nat.le_refl _) (by omega)
    · have hjlt := ho'.lt j rfl
      exact (((hC.app kr h1 h2).mono (Nat.le_refl _) (show hi2 ≤ j by omega)).app (InR.one.mono (Nat.le_refl j) hjlt) (by omega) (by omega)).perm (by
        show List.Perm (_ ++ [j]) ([j] ++ _)
        exact List.perm_append_comm)

/-- It reads as these functions. -/
theorem FsR.funcs {w : World} {lo hi : Nat} {v : Value} {fs : List Nd.Fn} {S : Nat → Prop} (h : FsR w lo hi v fs) (hS : ∀ b, lo ≤ b → b < hi → S b) : FuncsIn w S false v fs := by
  obtain ⟨F, ⟨els, k, rfl, hmap, ho, hle, hok⟩, hr⟩ := h
  have hlen : els.length = fs.length := by rw [← hmap, List.length_map]
  have hS' : ∀ b ∈ k.toList ++ els.flatMap (fun x => x.F1 ++ x.F2), S b := fun b hb => hS b (hr.2 b hb).1 (hr.2 b hb).2
  obtain ⟨h1, h2⟩ := ho
  rcases h2 with ⟨rfl, h0, _⟩ | ⟨b, off, cap, cur, rfl, rfl, hh, h5, h6, h7, h8⟩
  · have : fs = [] := List.eq_nil_of_length_eq_zero (by omega)
    subst this
    exact ⟨none, 0, rfl, Nat.le_refl _, Nat.zero_le _, Nat.zero_le _, fun e => (by cases e), fun i hi => absurd hi (Nat.not_lt_zero _)⟩
  · rw [hlen]
    refine ⟨_, cap, rfl, hlen ▸ h5, h6, hlen ▸ hle, fun e => (by cases e), fun i hi => ?_⟩
    have hi' : i < els.length := by omega
    have hx := hok _ (List.getElem_mem hi')
    have hfi : els[i].f = fs[i] := by
      have : (els.map (·.f))[i]? = fs[i]? := by rw [hmap]
      simpa [List.getElem?_map, List.getElem?_eq_getElem hi', List.getElem?_eq_getElem hi] using this
    have hcell : ∀ j (hj : j < 3), w.cell? ⟨b, off + i * 3 + j, none⟩ = (els[i].cells)[j]? := by
      intro j hj
      have hidx : ∀ (l : List FV) (i : Nat) (hi : i < l.length), (l.flatMap FV.cells)[i * 3 + j]? = (l[i].cells)[j]? := by
        intro l
        induction l with
        | nil => intro i hi; exact absurd hi (Nat.not_lt_zero _)
        | cons y l ih =>
          intro i hi
          rw [List.flatMap_cons]
          have hy : y.cells.length = 3 := rfl
          cases i with
          | zero => rw [List.getElem?_append_left (by rw [hy]; omega)]; simp
          | succ i =>
            rw [List.getElem?_append_right (by rw [hy]; omega), hy, show (i + 1) * 3 + j - 3 = i * 3 + j by omega, ih i (by simpa using hi)]
            simp
      have hlt : i * 3 + j < els.length * 3 := by omega
      have e1 := hidx els i hi'
      rw [cell_of_row w b (off + i * 3 + j) cur TFn (0, 0) hh, ← e1, ← h8, List.getElem?_take, List.getElem?_drop, if_pos hlt]
      simp [Nat.add_assoc]
    have m1 : ∀ b ∈ els[i].F1 ++ els[i].F2, S b := fun b hb => hS' b (List.mem_append_right _ (List.mem_flatMap.2 ⟨els[i], List.getElem_mem hi', hb⟩))
    refine ⟨b, off, els[i].va, els[i].vb, rfl, hS' b (by simp), ?_⟩
    rw [← hfi]
    exact ⟨hx.name, hcell 0 (by decide), hcell 1 (by decide), hcell 2 (by decide), hx.args.texts fun b hb => m1 b (List.mem_append_left _ hb), hx.body.nodes fun b hb => m1 b (List.mem_append_right _ hb)⟩

/-- A program's value. -/
def PrR (w : World) (lo hi : Nat) (v : Value) (p : Pr) : Prop := ∃ m v1 v2, v = .agg #[v1, v2] ∧ lo ≤ m ∧ m ≤ hi ∧ FsR w lo m v1 p.funcs ∧ LR w TN m hi v2 p.body

def GotP (w : World) (rb : Nat) (tv : Value) (xs : List To.T) (r : R Pr) (e : Ending) (w' : World) : Prop :=
  Step w w' (some rb) ∧ (∃ inn, Rd w' rb tv xs r.rest inn) ∧ match r with | .ok p _ => ∃ v, e = .returned (.tuple #[v, .bool true]) ∧ PrR w' w.heap.size w'.heap.size v p | .bad _ => e = .returned (.tuple #[.agg #[.slice none 0 0, .slice none 0 0], .bool false])
end Go.Proofs.YtobpnjnfpgcpaaaGreatDoor
