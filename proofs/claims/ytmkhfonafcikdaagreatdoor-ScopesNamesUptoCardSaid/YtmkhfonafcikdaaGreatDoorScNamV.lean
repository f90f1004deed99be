/- Scopes: names, each once, in order. -/
import Derived.Test.YtmkhfonafcikdaaGreatDoorTrC1
import Derived.Test.YtmkhfonafcikdaaGreatDoorTrC3
namespace Go.Proofs.YtmkhfonafcikdaaGreatDoor
open Go.RowKit Go.Maps Go.My Go.Nd

theorem strElN : Elem Tryz.prog 32 9 1 16 (.string ⟨#[]⟩) := Elem.mk' Tryz.underlying32 (by kernel_rfl) rfl (by decide)
def strCells (l : List Tx) : List Value := l.map fun s => .string (bs s)

/-- How often each was added: more than never, where it is there. -/
def CntOk (k : Nat) (cur : List Tx) (f : Tx → Option Value) : Prop :=
  ∀ s, s.length ≤ maxLen → (s ∈ cur → ∃ c : Nat, 1 ≤ c ∧ c ≤ k ∧ f s = some (.int .i64 (c : Int))) ∧ (s ∉ cur → f s = none)

/-- The struct in block nb; so many were added so far. -/
structure NamM (w : World) (g : Tags) (t nb mb : Nat) (a : Option Addr) (c : Nat) (cur : List Tx) (k : Nat) (f : Tx → Option Value) : Prop where
  row : Blk w g nb t (.cells #[.slice a cur.length c, .map (some mb)] 74 (0, 0))
  list : Owns w g (t + 1) 9 1 (.slice a cur.length c) cur.length (strCells cur)
  mtag : g mb = t + 2
  map : MapS Tryz.prog 9 w mb k f
  cnt : CntOk k cur f
structure NamO (w : World) (g : Tags) (t nb : Nat) : Prop where
  row : Blk w g nb t (.cells #[.slice none 0 0, .map none] 74 (0, 0))
def NamAt (w : World) (g : Tags) (t nb : Nat) (cur : List Tx) (k : Nat) : Prop :=
  cur.length ≤ k ∧ (∀ s ∈ cur, s.length ≤ 140737488351232) ∧ ((cur = [] ∧ NamO w g t nb) ∨ ∃ mb a c f, NamM w g t nb mb a c cur k f)

theorem NamM.turn {w w' : World} {g g' : Tags} {T : List Nat} {t nb mb : Nat} {a : Option Addr} {c : Nat} {cur : List Tx} {k : Nat} {f : Tx → Option Value} (h : NamM w g t nb mb a c cur k f) (T' : Turn w g w' g' T) (h0 : t ∉ T) (h1 : t + 1 ∉ T) (h2 : t + 2 ∉ T) : NamM w' g' t nb mb a c cur k f :=
  ⟨h.row.turn T' h0, h.list.turn T' h1, (T'.old mb h.map.lt).trans h.mtag, h.map.frame (T'.block mb h.map.lt (by rw [h.mtag]; exact h2)), h.cnt⟩
theorem NamAt.turn {w w' : World} {g g' : Tags} {T : List Nat} {t nb : Nat} {cur : List Tx} {k : Nat} (h : NamAt w g t nb cur k) (T' : Turn w g w' g' T) (h0 : t ∉ T) (h1 : t + 1 ∉ T) (h2 : t + 2 ∉ T) : NamAt w' g' t nb cur k := by
  obtain ⟨h3, h4, (⟨h5, h6⟩ | ⟨mb, a, c, f, h5⟩)⟩ := h
  · exact ⟨h3, h4, .inl ⟨h5, ⟨h6.row.turn T' h0⟩⟩⟩
  · exact ⟨h3, h4, .inr ⟨mb, a, c, f, h5.turn T' h0 h1 h2⟩⟩

theorem CntOk.new {k : Nat} {cur : List Tx} {f : Tx → Option Value} (h : CntOk k cur f) {s : Tx} (hs : s ∉ cur) : CntOk (k + 1) (cur ++ [s]) (fun j => if j = s then some (.int .i64 1) else f j) := by
  intro j hj
  by_cases e : j = s
  · subst e
    exact ⟨fun _ => ⟨1, Nat.le_refl _, by omega, if_pos rfl⟩, fun h => absurd (by simp) h⟩
  · simp only [List.mem_append, List.mem_cons, List.not_mem_nil, or_false, e]
    refine ⟨fun h1 => ?_, (h j hj).2⟩
    obtain ⟨c, h2, h3, h4⟩ := (h j hj).1 h1
    exact ⟨c, h2, by omega, h4⟩
theorem CntOk.more {k : Nat} {cur : List Tx} {f : Tx → Option Value} (h : CntOk k cur f) {s : Tx} (hs : s ∈ cur) {c : Nat} (hc : c ≤ k) : CntOk (k + 1) cur (fun j => if j = s then some (.int .i64 ((c : Int) + 1)) else f j) := by
  intro j hj
  by_cases e : j = s
  · subst e
    refine ⟨fun _ => ⟨c + 1, by omega, by omega, by simp⟩, fun h => absurd hs h⟩
  · simp only [if_neg e]
    refine ⟨fun h1 => ?_, (h j hj).2⟩
    obtain ⟨c, h2, h3, h4⟩ := (h j hj).1 h1
    exact ⟨c, h2, by omega, h4⟩
theorem addN_new {cur : List Tx} {s : Tx} (h : s ∉ cur) : addN cur s = cur ++ [s] ∧ (!cur.contains s) = true := by
  have : cur.contains s = false := by cases hc : cur.contains s with | false => rfl | true => simp only [List.contains_iff_mem] at hc; exact absurd hc h
  unfold addN
  rw [this]
  exact ⟨rfl, rfl⟩
theorem addN_old {cur : List Tx} {s : Tx} (h : s ∈ cur) : addN cur s = cur ∧ (!cur.contains s) = false := by
  have : cur.contains s = true := by simp only [List.contains_iff_mem]; exact h
  unfold addN
  rw [this]
  exact ⟨rfl, rfl⟩
end Go.Proofs.YtmkhfonafcikdaaGreatDoor
