/- The memory of ScopesApart behind its loop: two statements, a program, lists put together of them. No program in sight. -/
import Derived.Test.YtmkhfonafcikdaaGreatDoorScElsU
import Derived.Test.YtmkhfonafcikdaaGreatDoorTrB3
import Derived.Test.YtmkhfonafcikdaaGreatDoorScCallsU
import Derived.Test.YtmkhfonafcikdaaGreatDoorTrB2
namespace Go.Proofs.YtmkhfonafcikdaaGreatDoor
open Go.RowKit Go.My Go.Nd

/-- What was there, and what stays. -/
def SG (g : Tags) (b : Nat) : Prop := g b = 0 ∨ g b = 4 ∨ g b = 15
def Quiet (T : List Nat) : Prop := 0 ∉ T ∧ 4 ∉ T ∧ 15 ∉ T
theorem SG.old {W W' : World} {g g' : Tags} {T : List Nat} (k : Turn W g W' g' T) {b : Nat} (hb : b < W.heap.size) (h : SG g b) : SG g' b := by
  unfold SG; rw [k.old b hb]; exact h
theorem SG.keep {W W' : World} {g g' : Tags} {T : List Nat} (k : Turn W g W' g' T) (q : Quiet T) {b : Nat} (h : SG g b) (hlt : b < W.heap.size) : W'.heap[b]? = W.heap[b]? :=
  k.block b hlt (by rcases h with h | h | h <;> rw [h]; exact q.1; exact q.2.1; exact q.2.2)
theorem nodes_turn {W W' : World} {g g' : Tags} {T : List Nat} {v : Value} {xs : Ns} (h : Nodes W (SG g) false v xs) (k : Turn W g W' g' T) (q : Quiet T) : Nodes W' (SG g') false v xs :=
  (h.mono fun b hb hS => (show SG g' b from SG.old k hb hS)).frame fun b hb hlt => SG.keep k q (show SG g b by have := hb; unfold SG at this ⊢; rw [k.old b hlt] at this; exact this) hlt
theorem texts_turn {W W' : World} {g g' : Tags} {T : List Nat} {v : Value} {xs : List Tx} (h : TextsIn W (SG g) false v xs) (k : Turn W g W' g' T) (q : Quiet T) : TextsIn W' (SG g') false v xs :=
  (h.mono fun b hb hS => (show SG g' b from SG.old k hb hS)).frame fun b hb hlt => SG.keep k q (show SG g b by have := hb; unfold SG at this ⊢; rw [k.old b hlt] at this; exact this) hlt

/-- Nodes' cells, and functions' cells. -/
def ElsOk (W : World) (S : Nat → Prop) (els : List El) (xs : Ns) : Prop := els.length = xs.items.length ∧ ∀ j (h1 : j < els.length) (h2 : j < xs.items.length), ElIs W S false els[j] xs.items[j]
def FlsOk (W : World) (S : Nat → Prop) (els : List Fl) (fs : List Nd.Fn) : Prop := els.length = fs.length ∧ ∀ j (h1 : j < els.length) (h2 : j < fs.length), FlIs W S false els[j] fs[j]
theorem ElsOk.turn {W W' : World} {g g' : Tags} {T : List Nat} {els : List El} {xs : Ns} (h : ElsOk W (SG g) els xs) (k : Turn W g W' g' T) (q : Quiet T) : ElsOk W' (SG g') els xs :=
  ⟨h.1, fun j h1 h2 => ⟨(h.2 j h1 h2).kind, (h.2 j h1 h2).text, nodes_turn (h.2 j h1 h2).l k q, nodes_turn (h.2 j h1 h2).body k q, nodes_turn (h.2 j h1 h2).els k q⟩⟩
theorem FlsOk.turn {W W' : World} {g g' : Tags} {T : List Nat} {els : List Fl} {xs : List Nd.Fn} (h : FlsOk W (SG g) els xs) (k : Turn W g W' g' T) (q : Quiet T) : FlsOk W' (SG g') els xs :=
  ⟨h.1, fun j h1 h2 => ⟨(h.2 j h1 h2).name, texts_turn (h.2 j h1 h2).args k q, nodes_turn (h.2 j h1 h2).body k q⟩⟩
theorem ElsOk.app {W : World} {S : Nat → Prop} {a b : List El} {x y : Ns} (h : ElsOk W S a x) (k : ElsOk W S b y) : ElsOk W S (a ++ b) (x.app y) := by
  refine ⟨by rw [app_items, List.length_append, List.length_append, h.1, k.1], fun j h1 h2 => ?_⟩
  have e : (x.app y).items = x.items ++ y.items := app_items x y
  by_cases hj : j < a.length
  · have e2 : (x.app y).items[j]'h2 = x.items[j]'(by have := h.1; omega) := by
      have : (x.app y).items[j]? = x.items[j]? := by rw [e, List.getElem?_append_left (by have := h.1; omega)]
      rw [List.getElem?_eq_getElem h2, List.getElem?_eq_getElem (by have := h.1; omega)] at this
      exact Option.some.inj this
    rw [List.getElem_append_left hj, e2]
    exact h.2 j hj _
  · have hl := h.1
    have e2 : (x.app y).items[j]'h2 = y.items[j - a.length]'(by have := k.1; rw [List.length_append] at h1; omega) := by
      have : (x.app y).items[j]? = y.items[j - a.length]? := by rw [e, List.getElem?_append_right (by omega), hl]
      rw [List.getElem?_eq_getElem h2, List.getElem?_eq_getElem (by have := k.1; rw [List.length_append] at h1; omega)] at this
      exact Option.some.inj this
    rw [List.getElem_append_right (by omega), e2]
    exact k.2 _ _ _
theorem FlsOk.app {W : World} {S : Nat → Prop} {a b : List Fl} {x y : List Nd.Fn} (h : FlsOk W S a x) (k : FlsOk W S b y) : FlsOk W S (a ++ b) (x ++ y) := by
  refine ⟨by rw [List.length_append, List.length_append, h.1, k.1], fun j h1 h2 => ?_⟩
  have hl := h.1
  by_cases hj : j < a.length
  · rw [List.getElem_append_left hj, List.getElem_append_left (by omega)]
    exact h.2 j hj _
  · rw [List.getElem_append_right (by omega), List.getElem_append_right (by omega)]
    simp only [← hl]
    exact k.2 _ _ _
theorem ElsOk.wide {W : World} {g : Tags} {els : List El} {xs : Ns} (h : ElsOk W (SG g) els xs) : ElsOk W (· < W.heap.size) els xs :=
  ⟨h.1, fun j h1 h2 => (h.2 j h1 h2).mono fun _ hb _ => hb⟩
theorem FlsOk.wide {W : World} {g : Tags} {els : List Fl} {xs : List Nd.Fn} (h : FlsOk W (SG g) els xs) : FlsOk W (· < W.heap.size) els xs :=
  ⟨h.1, fun j h1 h2 => ⟨(h.2 j h1 h2).name, (h.2 j h1 h2).args.mono fun _ hb _ => hb, (h.2 j h1 h2).body.mono fun _ hb _ => hb⟩⟩
theorem ElsOk.nodes {W : World} {g : Tags} {t : Nat} {e : TypeId} {v : Value} {n : Nat} {els : List El} {xs : Ns} (h : ElsOk W (SG g) els xs) (hO : Owns W g t e 5 v n (elCells els)) (h1 : els.length = n) (hn : n ≤ 4000000) : Nodes W (· < W.heap.size) false v xs :=
  nodes_of_owns hO h1 (by rw [← h.1]; exact h1) (by omega) h.wide.2 (Nat.le_refl _)
theorem FlsOk.funcs {W : World} {g : Tags} {t : Nat} {e : TypeId} {v : Value} {n : Nat} {els : List Fl} {xs : List Nd.Fn} (h : FlsOk W (SG g) els xs) (hO : Owns W g t e 3 v n (flCells els)) (h1 : els.length = n) (hn : n ≤ 4000000) : FuncsIn W (· < W.heap.size) false v xs :=
  funcs_of_owns hO h1 (by rw [← h.1]; exact h1) (by omega) h.wide.2 (Nat.le_refl _)

def uEl (vu : Value) : El := ⟨13, [], vu, .slice none 0 0, .slice none 0 0⟩
def sEl (N : Tx) (vs : Value) : El := ⟨8, N, vs, .slice none 0 0, .slice none 0 0⟩
def newFl (N : Tx) (va vb : Value) : Fl := ⟨N, va, vb⟩

/-- Behind the loop. -/
structure ApSt (w0 W : World) (g : Tags) (B ub sb qb : Nat) (N : Tx) (vu vs v1 v2 x1 x2 : Value) (els : List El) (fls : List Fl) (p : Pr) : Prop where
  since : Since w0 W g
  base : B ≤ w0.heap.size
  nl : N.length ≤ 140737488351232
  ubox : Blk W g ub 1 (.cells #[.int .u8 13, .string ⟨#[]⟩, vu, .slice none 0 0, .slice none 0 0] 61 (0, 0))
  sbox : Blk W g sb 2 (.cells #[.int .u8 8, .string (tx N), vs, .slice none 0 0, .slice none 0 0] 61 (0, 0))
  qbox : Blk W g qb 3 (.cells #[x1, x2] 25 (0, 0))
  nu : Nodes W (SG g) false vu (Ns.of [leaf 2 N])
  ns : Nodes W (SG g) false vs (Ns.of [leaf 1 [48]])
  elok : ElsOk W (SG g) els p.body
  flok : FlsOk W (SG g) fls p.funcs
  src : NdSrc W B v2 els
  fsrc : FlSrc W B v1 fls
theorem ApSt.turn {w0 W W' : World} {g g' : Tags} {T : List Nat} {B ub sb qb : Nat} {N : Tx} {vu vs v1 v2 x1 x2 : Value} {els : List El} {fls : List Fl} {p : Pr} (h : ApSt w0 W g B ub sb qb N vu vs v1 v2 x1 x2 els fls p) (k : Turn W g W' g' T) (q : Quiet T) (h1 : 1 ∉ T) (h2 : 2 ∉ T) (h3 : 3 ∉ T) :
    ApSt w0 W' g' B ub sb qb N vu vs v1 v2 x1 x2 els fls p := by
  have hbB : Below B W W' := ⟨k.os, k.tape, k.output, k.size, fun b hb => k.block b (Nat.lt_of_lt_of_le (Nat.lt_of_lt_of_le hb h.base) h.since.below.size) (by rw [h.since.zero b (Nat.lt_of_lt_of_le hb h.base)]; exact q.1)⟩
  exact ⟨h.since.turn k q.1, h.base, h.nl, h.ubox.turn k h1, h.sbox.turn k h2, h.qbox.turn k h3, nodes_turn h.nu k q, nodes_turn h.ns k q, h.elok.turn k q, h.flok.turn k q, h.src.below hbB, h.fsrc.below hbB⟩
/-- A cell of the program is set. -/
theorem ApSt.put {w0 W : World} {g : Tags} {B ub sb qb : Nat} {N : Tx} {vu vs v1 v2 x1 x2 : Value} {els : List El} {fls : List Fl} {p : Pr} (h : ApSt w0 W g B ub sb qb N vu vs v1 v2 x1 x2 els fls p) (v : Value) :
    (ApSt w0 (W.setCell ⟨qb, 0, none⟩ v) g B ub sb qb N vu vs v1 v2 v x2 els fls p ∧ Turn W g (W.setCell ⟨qb, 0, none⟩ v) g [3]) ∧ (ApSt w0 (W.setCell ⟨qb, 1, none⟩ v) g B ub sb qb N vu vs v1 v2 x1 v els fls p ∧ Turn W g (W.setCell ⟨qb, 1, none⟩ v) g [3]) := by
  have one : ∀ i y1 y2, Blk (W.setCell ⟨qb, i, none⟩ v) g qb 3 (.cells #[y1, y2] 25 (0, 0)) → Turn W g (W.setCell ⟨qb, i, none⟩ v) g [3] → ApSt w0 (W.setCell ⟨qb, i, none⟩ v) g B ub sb qb N vu vs v1 v2 y1 y2 els fls p ∧ Turn W g (W.setCell ⟨qb, i, none⟩ v) g [3] := by
    intro i y1 y2 hq k
    have q : Quiet [3] := ⟨by decide, by decide, by decide⟩
    have hbB : Below B W (W.setCell ⟨qb, i, none⟩ v) := ⟨k.os, k.tape, k.output, k.size, fun b hb => k.block b (Nat.lt_of_lt_of_le (Nat.lt_of_lt_of_le hb h.base) h.since.below.size) (by rw [h.since.zero b (Nat.lt_of_lt_of_le hb h.base)]; exact q.1)⟩
    exact ⟨⟨h.since.turn k q.1, h.base, h.nl, h.ubox.turn k (by decide), h.sbox.turn k (by decide), hq, nodes_turn h.nu k q, nodes_turn h.ns k q, h.elok.turn k q, h.flok.turn k q, h.src.below hbB, h.fsrc.below hbB⟩, k⟩
  have s0 := blk_store h.qbox 0 v
  have s1 := blk_store h.qbox 1 v
  exact ⟨one 0 v x2 (by simpa using s0.2) s0.1, one 1 x1 v (by simpa using s1.2) s1.1⟩

theorem els_uses {W : World} {S : Nat → Prop} {N : Tx} {vu : Value} (h : Nodes W S false vu (Ns.of [leaf 2 N])) : ElsOk W S [uEl vu] (usesN N .nil) := by
  refine ⟨rfl, fun j h1 h2 => ?_⟩
  obtain rfl : j = 0 := by simp at h1; omega
  exact ⟨⟨rfl, (by decide : 13 < 256)⟩, ⟨rfl, Nat.zero_le _⟩, h, nil_nodes _ _, nil_nodes _ _⟩
theorem els_sets {W : World} {S : Nat → Prop} {N : Tx} {vs : Value} (hN : N.length ≤ 140737488351232) (h : Nodes W S false vs (Ns.of [leaf 1 [48]])) : ElsOk W S [sEl N vs] (setsN N) := by
  refine ⟨rfl, fun j h1 h2 => ?_⟩
  obtain rfl : j = 0 := by simp at h1; omega
  exact ⟨⟨rfl, (by decide : 8 < 256)⟩, ⟨rfl, hN⟩, h, nil_nodes _ _, nil_nodes _ _⟩

/-- The two statements, and the program, are made. -/
theorem ap_start {W : World} {B : Nat} {N : Tx} {v1 v2 : Value} {els : List El} {fls : List Fl} {p : Pr} (hB : B ≤ W.heap.size) (hN : N.length ≤ 140737488351232) (he : ElsOk W (· < B) els p.body) (hf : FlsOk W (· < B) fls p.funcs) (hs : NdSrc W B v2 els) (hfs : FlSrc W B v1 fls) :
    ∃ g, ApSt W (((((W.alloc (.cells #[.int .u8 2, .string (tx N), .slice none 0 0, .slice none 0 0, .slice none 0 0] 61)).alloc (.cells #[.int .u8 13, .string ⟨#[]⟩, .slice (some ⟨W.heap.size, 0, none⟩) 1 1, .slice none 0 0, .slice none 0 0] 61)).alloc (.cells #[.int .u8 1, .string ⟨#[48]⟩, .slice none 0 0, .slice none 0 0, .slice none 0 0] 61)).alloc (.cells #[.int .u8 8, .string (tx N), .slice (some ⟨W.heap.size + 1 + 1, 0, none⟩) 1 1, .slice none 0 0, .slice none 0 0] 61)).alloc (.cells #[v1, v2] 25))
      g B (W.heap.size + 1) (W.heap.size + 1 + 1 + 1) (W.heap.size + 1 + 1 + 1 + 1) N (.slice (some ⟨W.heap.size, 0, none⟩) 1 1) (.slice (some ⟨W.heap.size + 1 + 1, 0, none⟩) 1 1) v1 v2 v1 v2 els fls p := by
  have mk : ∀ (V : World) (g : Tags) (k : Nat) (t : Tx), k < 256 → t.length ≤ 140737488351232 → Nodes (V.alloc (.cells #[.int .u8 (k : Int), .string (tx t), .slice none 0 0, .slice none 0 0, .slice none 0 0] 61)) (SG (g.ext V.heap.size 4)) false (.slice (some ⟨V.heap.size, 0, none⟩) 1 1) (Ns.of [leaf k t]) := by
    intro V g k t hk ht
    have n := node_litS (W := V) (S := fun _ => False) (k := k) (t := t) (l := .nil) (b := .nil) (e := .nil) (v1 := .slice none 0 0) (v2 := .slice none 0 0) (v3 := .slice none 0 0) 61 (fun b hb => hb.elim) hk ht (nil_nodes V _) (nil_nodes V _) (nil_nodes V _)
    exact n.mono fun b _ hb => by
      rcases hb with hb | rfl
      · exact hb.elim
      · exact .inr (.inl (Tags.ext_new _ _ _ _ (Nat.le_refl _)))
  have q0 : Quiet [] := ⟨by simp, by simp, by simp⟩
  obtain ⟨W1, e1⟩ : ∃ W1, W1 = W.alloc (.cells #[.int .u8 2, .string (tx N), .slice none 0 0, .slice none 0 0, .slice none 0 0] 61) := ⟨_, rfl⟩
  have z1 : W1.heap.size = W.heap.size + 1 := by rw [e1]; exact World.size_alloc _ _
  have T1 : Turn W (fun _ => 0) W1 (Tags.ext (fun _ => 0) W.heap.size 4) [] := by rw [e1]; exact Turn.alloc _ _ 4 _
  have n1 : Nodes W1 (SG (Tags.ext (fun _ => 0) W.heap.size 4)) false (.slice (some ⟨W.heap.size, 0, none⟩) 1 1) (Ns.of [leaf 2 N]) := by rw [e1]; exact mk W (fun _ => 0) 2 N (by decide) hN
  obtain ⟨g1, hg1⟩ : ∃ g1, g1 = Tags.ext (fun _ => 0) W.heap.size 4 := ⟨_, rfl⟩
  rw [← hg1] at T1 n1
  rw [← e1]
  obtain ⟨W2, e2⟩ : ∃ W2, W2 = W1.alloc (.cells #[.int .u8 13, .string ⟨#[]⟩, .slice (some ⟨W.heap.size, 0, none⟩) 1 1, .slice none 0 0, .slice none 0 0] 61) := ⟨_, rfl⟩
  have z2 : W2.heap.size = W.heap.size + 1 + 1 := by rw [e2, World.size_alloc, z1]
  have T2 : Turn W1 g1 W2 (g1.ext W1.heap.size 1) [] := by rw [e2]; exact Turn.alloc _ _ 1 _
  have b2 : Blk W2 (g1.ext W1.heap.size 1) W1.heap.size 1 (.cells #[.int .u8 13, .string ⟨#[]⟩, .slice (some ⟨W.heap.size, 0, none⟩) 1 1, .slice none 0 0, .slice none 0 0] 61 (0, 0)) := by rw [e2]; exact Blk.alloc _ _ _ _
  obtain ⟨g2, hg2⟩ : ∃ g2, g2 = g1.ext W1.heap.size 1 := ⟨_, rfl⟩
  rw [← hg2] at T2 b2
  rw [← e2]
  obtain ⟨W3, e3⟩ : ∃ W3, W3 = W2.alloc (.cells #[.int .u8 1, .string ⟨#[48]⟩, .slice none 0 0, .slice none 0 0, .slice none 0 0] 61) := ⟨_, rfl⟩
  have z3 : W3.heap.size = W.heap.size + 1 + 1 + 1 := by rw [e3, World.size_alloc, z2]
  have T3 : Turn W2 g2 W3 (g2.ext W2.heap.size 4) [] := by rw [e3]; exact Turn.alloc _ _ 4 _
  have n3 : Nodes W3 (SG (g2.ext W2.heap.size 4)) false (.slice (some ⟨W2.heap.size, 0, none⟩) 1 1) (Ns.of [leaf 1 [48]]) := by rw [e3]; exact mk W2 g2 1 [48] (by decide) (by decide)
  obtain ⟨g3, hg3⟩ : ∃ g3, g3 = g2.ext W2.heap.size 4 := ⟨_, rfl⟩
  rw [← hg3] at T3 n3
  rw [← e3]
  obtain ⟨W4, e4⟩ : ∃ W4, W4 = W3.alloc (.cells #[.int .u8 8, .string (tx N), .slice (some ⟨W.heap.size + 1 + 1, 0, none⟩) 1 1, .slice none 0 0, .slice none 0 0] 61) := ⟨_, rfl⟩
  have z4 : W4.heap.size = W.heap.size + 1 + 1 + 1 + 1 := by rw [e4, World.size_alloc, z3]
  have T4 : Turn W3 g3 W4 (g3.ext W3.heap.size 2) [] := by rw [e4]; exact Turn.alloc _ _ 2 _
  have b4 : Blk W4 (g3.ext W3.heap.size 2) W3.heap.size 2 (.cells #[.int .u8 8, .string (tx N), .slice (some ⟨W.heap.size + 1 + 1, 0, none⟩) 1 1, .slice none 0 0, .slice none 0 0] 61 (0, 0)) := by rw [e4]; exact Blk.alloc _ _ _ _
  obtain ⟨g4, hg4⟩ : ∃ g4, g4 = g3.ext W3.heap.size 2 := ⟨_, rfl⟩
  rw [← hg4] at T4 b4
  rw [← e4]
  have T5 := Turn.alloc W4 g4 3 (.cells #[v1, v2] 25)
  have b5 := Blk.alloc W4 g4 3 (.cells #[v1, v2] 25)
  have T15 := (((T1.trans T2 (V := []) (by simp) (by simp)).trans T3 (V := []) (by simp) (by simp)).trans T4 (V := []) (by simp) (by simp)).trans T5 (V := []) (by simp) (by simp)
  have T25 := ((T2.trans T3 (V := []) (by simp) (by simp)).trans T4 (V := []) (by simp) (by simp)).trans T5 (V := []) (by simp) (by simp)
  have T35 := (T3.trans T4 (V := []) (by simp) (by simp)).trans T5 (V := []) (by simp) (by simp)
  have T45 := T4.trans T5 (V := []) (by simp) (by simp)
  have he' : ElsOk W (SG (fun _ => 0)) els p.body := ⟨he.1, fun j h1 h2 => (he.2 j h1 h2).mono fun b _ _ => .inl rfl⟩
  have hf' : FlsOk W (SG (fun _ => 0)) fls p.funcs := ⟨hf.1, fun j h1 h2 => ⟨(hf.2 j h1 h2).name, (hf.2 j h1 h2).args.mono fun b _ _ => .inl rfl, (hf.2 j h1 h2).body.mono fun b _ _ => .inl rfl⟩⟩
  have hbB : Below B W (W4.alloc (.cells #[v1, v2] 25)) := ⟨T15.os, T15.tape, T15.output, T15.size, fun b hb => T15.block b (Nat.lt_of_lt_of_le hb hB) (by simp)⟩
  refine ⟨g4.ext W4.heap.size 3, ⟨(Since.start W).turn T15 (by simp), hB, hN, ?_, ?_, ?_, nodes_turn n1 T25 q0, ?_, he'.turn T15 q0, hf'.turn T15 q0, hs.below hbB, hfs.below hbB⟩⟩
  · have := b2.turn T35 (by simp); rw [z1] at this; exact this
  · have := b4.turn T5 (by simp); rw [z3] at this; exact this
  · rw [z4] at b5; rw [z4]; exact b5
  · have := nodes_turn n3 T45 q0; rw [z2] at this; exact this
theorem owns_litN (w : World) (g : Tags) (t : Nat) (e : TypeId) (size : Nat) (cs : Array Value) (h : cs.size = size) : Owns (w.alloc (.cells cs e)) (g.ext w.heap.size t) t e size (.slice (some ⟨w.heap.size, 0, none⟩) 1 1) 1 cs.toList :=
  ⟨some w.heap.size, ⟨by simp [h], .inr ⟨w.heap.size, 0, 1, cs, rfl, rfl, heap_alloc_new w _, Nat.le_refl _, by decide, by omega, by rw [List.drop_zero, Nat.one_mul, ← h, ← Array.length_toList, List.take_length]⟩⟩, fun b hb => by cases hb; exact Tags.ext_new _ _ _ _ (Nat.le_refl _)⟩
theorem items_flat : ∀ xs : Ns, xs.items.length ≤ xs.flat.length := by
  intro xs
  induction xs with
  | nil => exact Nat.le_refl _
  | cons k t l b e r ihl ihb ihe ihr =>
    rw [Ns.items_cons]
    show _ ≤ (⟨k, t, l, b, e⟩ :: (l.flat ++ (b.flat ++ (e.flat ++ r.flat))) : List Nd).length
    simp only [List.length_cons, List.length_append]
    omega
theorem ApSt.uc {w0 W : World} {g : Tags} {B ub sb qb : Nat} {N : Tx} {vu vs v1 v2 x1 x2 : Value} {els : List El} {fls : List Fl} {p : Pr} (h : ApSt w0 W g B ub sb qb N vu vs v1 v2 x1 x2 els fls p) :
    W.cell? ⟨ub, 0, none⟩ = some (.int .u8 13) ∧ W.cell? ⟨ub, 1, none⟩ = some (.string ⟨#[]⟩) ∧ W.cell? ⟨ub, 2, none⟩ = some vu ∧ W.cell? ⟨ub, 3, none⟩ = some (.slice none 0 0) ∧ W.cell? ⟨ub, 4, none⟩ = some (.slice none 0 0) :=
  ⟨cell_of_row _ _ _ _ _ _ h.ubox.1, cell_of_row _ _ _ _ _ _ h.ubox.1, cell_of_row _ _ _ _ _ _ h.ubox.1, cell_of_row _ _ _ _ _ _ h.ubox.1, cell_of_row _ _ _ _ _ _ h.ubox.1⟩
theorem ApSt.sc {w0 W : World} {g : Tags} {B ub sb qb : Nat} {N : Tx} {vu vs v1 v2 x1 x2 : Value} {els : List El} {fls : List Fl} {p : Pr} (h : ApSt w0 W g B ub sb qb N vu vs v1 v2 x1 x2 els fls p) :
    W.cell? ⟨sb, 0, none⟩ = some (.int .u8 8) ∧ W.cell? ⟨sb, 1, none⟩ = some (.string (tx N)) ∧ W.cell? ⟨sb, 2, none⟩ = some vs ∧ W.cell? ⟨sb, 3, none⟩ = some (.slice none 0 0) ∧ W.cell? ⟨sb, 4, none⟩ = some (.slice none 0 0) :=
  ⟨cell_of_row _ _ _ _ _ _ h.sbox.1, cell_of_row _ _ _ _ _ _ h.sbox.1, cell_of_row _ _ _ _ _ _ h.sbox.1, cell_of_row _ _ _ _ _ _ h.sbox.1, cell_of_row _ _ _ _ _ _ h.sbox.1⟩
theorem ApSt.qc {w0 W : World} {g : Tags} {B ub sb qb : Nat} {N : Tx} {vu vs v1 v2 x1 x2 : Value} {els : List El} {fls : List Fl} {p : Pr} (h : ApSt w0 W g B ub sb qb N vu vs v1 v2 x1 x2 els fls p) :
    W.cell? ⟨qb, 0, none⟩ = some x1 ∧ W.cell? ⟨qb, 1, none⟩ = some x2 ∧ W.frozen? ⟨qb, 0, none⟩ = false ∧ W.frozen? ⟨qb, 1, none⟩ = false :=
  ⟨cell_of_row _ _ _ _ _ _ h.qbox.1, cell_of_row _ _ _ _ _ _ h.qbox.1, frozen_of_row _ _ _ _ _ h.qbox.1, frozen_of_row _ _ _ _ _ h.qbox.1⟩
theorem quiet_one {t : Nat} (h : 15 < t) : Quiet [t] := ⟨by simp; omega, by simp; omega, by simp; omega⟩
theorem quiet_nil : Quiet [] := ⟨by simp, by simp, by simp⟩
/-- More is made, or written in lists of owners above 15. -/
theorem ApSt.next {w0 W W' : World} {g g' : Tags} {T : List Nat} {B ub sb qb : Nat} {N : Tx} {vu vs v1 v2 x1 x2 : Value} {els : List El} {fls : List Fl} {p : Pr} (h : ApSt w0 W g B ub sb qb N vu vs v1 v2 x1 x2 els fls p) (k : Turn W g W' g' T) (hT : ∀ t ∈ T, 15 < t) : ApSt w0 W' g' B ub sb qb N vu vs v1 v2 x1 x2 els fls p :=
  h.turn k ⟨fun h => absurd (hT _ h) (by decide), fun h => absurd (hT _ h) (by decide), fun h => absurd (hT _ h) (by decide)⟩ (fun h => absurd (hT _ h) (by decide)) (fun h => absurd (hT _ h) (by decide)) (fun h => absurd (hT _ h) (by decide))
theorem step_append_0 {P : Program} {w : World} {ops : Array Oper} {o : Oper} {a : Act} {K : Act → World → Prop} {Q : Exit → Act → World → Prop} {X : Prop} (hgd : o.guard = none) (s x : Operand) {t e : TypeId}
    (ho : o.op = .call { callee := .builtin .append, args := #[s, x], argTypes := #[t, t] }) {size bytes : Nat} {z : Value} (E : Elem P t e size bytes z)
    {g : Tags} {tg : Nat} (hs : a.eval s = .slice none 0 0) {y : Value} {m : Nat} {news : List Value} (hy : a.eval x = y) (hx : Src w size y m news) (h1 : ∀ u ∈ news, u.oneCell' = true)
    (h63 : m ≤ maxLen) (hbytes : m * bytes ≤ 140737488355328)
    (h : ∀ ao cap w' g', Owns w' g' tg e size (.slice ao m cap) m news → Turn w g w' g' [tg] → K (a.put o.dst (.slice ao m cap)) w') :
    if Region.wanted o (yielded ops a.tmps) = true then Oper.wp P o a w K Q else X :=
  step_append_t hgd s x ho E hs (Owns.nil w g tg e size) hy hx h1 (by omega) (by rw [Nat.zero_add]; exact hbytes) fun ao cap w' g' hO hT => by
    rw [Nat.zero_add] at hO ⊢
    exact h ao cap w' g' (by simpa using hO) hT
/-- A literal is as it was made. -/
theorem src_lit_turn {W w' : World} {g g' : Tags} {T : List Nat} {n size : Nat} (o : Array Value) (e : TypeId) (t : Nat) (h : o.size = n * size) (k : Turn (W.alloc (.cells o e)) (g.ext W.heap.size t) w' g' T) (ht : t ∉ T) : Src w' size (.slice (some ⟨W.heap.size, 0, none⟩) n n) n o.toList := by
  refine ⟨by simp [h], .inr ⟨_, _, rfl, fun j u hu => ?_⟩⟩
  have hb : (W.alloc (.cells o e)).heap[W.heap.size]? = some (.cells o e (0, 0)) := heap_alloc_new W _
  rw [add_none, cell_of_row w' W.heap.size (0 + j) o e (0, 0) ((k.block _ (Array.getElem?_eq_some_iff.1 hb).1 (by rw [Tags.ext_new _ _ _ _ (Nat.le_refl _)]; exact ht)).trans hb), ← hu]
  simp
theorem src_lit_at {W w' : World} {g g' : Tags} {T : List Nat} {n size k : Nat} (o : Array Value) (e : TypeId) (t : Nat) (hk : k = W.heap.size) (h : o.size = n * size) (T9 : Turn (W.alloc (.cells o e)) (g.ext W.heap.size t) w' g' T) (ht : t ∉ T) : Src w' size (.slice (some ⟨k, 0, none⟩) n n) n o.toList := by
  subst hk
  exact src_lit_turn o e t h T9 ht
/-- The program with the body that both statements stand in. -/
def ApBody (w0 W : World) (B ub sb qb : Nat) (N : Tx) (vu vs v1 v2 : Value) (els : List El) (fls : List Fl) (p : Pr) : Prop :=
  ∃ g ao cap, ApSt w0 W g B ub sb qb N vu vs v1 v2 v1 (.slice ao (1 + els.length + 1) cap) els fls p ∧ Owns W g 17 61 5 (.slice ao (1 + els.length + 1) cap) (1 + els.length + 1) (elCells ([uEl vu] ++ els ++ [sEl N vs]))
theorem ap_body {w0 W : World} {g : Tags} {B ub sb qb : Nat} {N : Tx} {vu vs v1 v2 x2 : Value} {els : List El} {fls : List Fl} {p : Pr} {ao : Option Addr} {cap : Nat} (h : ApSt w0 W g B ub sb qb N vu vs v1 v2 v1 x2 els fls p)
    (hO : Owns W g 17 61 5 (.slice ao (1 + els.length + 1) cap) (1 + els.length + 1) ((#[.int .u8 13, .string ⟨#[]⟩, vu, .slice none 0 0, .slice none 0 0] : Array Value).toList ++ elCells els ++ (#[.int .u8 8, .string (tx N), vs, .slice none 0 0, .slice none 0 0] : Array Value).toList)) :
    ApBody w0 (W.setCell ⟨qb, 1, none⟩ (.slice ao (1 + els.length + 1) cap)) B ub sb qb N vu vs v1 v2 els fls p := by
  obtain ⟨_, h1, h2⟩ := h.put (.slice ao (1 + els.length + 1) cap)
  refine ⟨g, ao, cap, h1, ?_⟩
  rw [elCells_append, elCells_append]
  exact hO.turn h2 (by simp)
/-- It reads as the second program's body. -/
theorem ApBody.nodes {w0 W : World} {g : Tags} {B ub sb qb : Nat} {N : Tx} {vu vs v1 v2 x1 x2 v : Value} {els : List El} {fls : List Fl} {p : Pr} (h : ApSt w0 W g B ub sb qb N vu vs v1 v2 x1 x2 els fls p) (hO : Owns W g 17 61 5 v (1 + els.length + 1) (elCells ([uEl vu] ++ els ++ [sEl N vs]))) (hN : N = bigName p) (hl : els.length ≤ 524288) :
    Nodes W (· < W.heap.size) false v (apart2 p).body := by
  have := (ElsOk.app (ElsOk.app (els_uses h.nu) h.elok) (els_sets h.nl h.ns)).nodes hO (by simp; omega) (by omega)
  rw [hN] at this; exact this
/-- The program with one more function. -/
def ApFun (w0 W : World) (B ub sb qb : Nat) (N : Tx) (vu vs v1 v2 : Value) (els : List El) (fls : List Fl) (p : Pr) : Prop :=
  ∃ g ao cap x2 vb, ApSt w0 W g B ub sb qb N vu vs v1 v2 (.slice ao (fls.length + 1) cap) x2 els fls p ∧ Owns W g 17 61 5 x2 (1 + els.length + 1) (elCells ([uEl vu] ++ els ++ [sEl N vs])) ∧
    Owns W g 19 57 3 (.slice ao (fls.length + 1) cap) (fls.length + 1) (flCells (fls ++ [newFl N (.slice none 0 0) vb])) ∧ Nodes W (SG g) false vb (usesN N .nil)
theorem ap_fun {w0 W : World} {g : Tags} {B ub sb qb : Nat} {N : Tx} {vu vs v1 v2 x1 x2 vb : Value} {els : List El} {fls : List Fl} {p : Pr} {ao : Option Addr} {cap : Nat} (h : ApSt w0 W g B ub sb qb N vu vs v1 v2 x1 x2 els fls p)
    (hB : Owns W g 17 61 5 x2 (1 + els.length + 1) (elCells ([uEl vu] ++ els ++ [sEl N vs])))
    (hO : Owns W g 19 57 3 (.slice ao (fls.length + 1) cap) (fls.length + 1) (flCells fls ++ (#[.string (tx N), .slice none 0 0, vb] : Array Value).toList)) (hN : Nodes W (SG g) false vb (usesN N .nil)) :
    ApFun w0 (W.setCell ⟨qb, 0, none⟩ (.slice ao (fls.length + 1) cap)) B ub sb qb N vu vs v1 v2 els fls p := by
  obtain ⟨⟨h1, h2⟩, _⟩ := h.put (.slice ao (fls.length + 1) cap)
  refine ⟨g, ao, cap, x2, vb, h1, hB.turn h2 (by simp), ?_, nodes_turn hN h2 ⟨by simp, by simp, by simp⟩⟩
  rw [flCells_append]
  exact hO.turn h2 (by simp)
/-- It reads as the third program's functions, and, once the argument is set, as the fourth one's. -/
theorem ApFun.funcs {w0 W : World} {g : Tags} {B ub sb qb : Nat} {N : Tx} {vu vs v1 v2 x1 x2 v va vb : Value} {els : List El} {fls : List Fl} {p : Pr} {args : List Tx} (h : ApSt w0 W g B ub sb qb N vu vs v1 v2 x1 x2 els fls p)
    (hO : Owns W g 19 57 3 v (fls.length + 1) (flCells (fls ++ [newFl N va vb]))) (hA : TextsIn W (SG g) false va args) (hN : Nodes W (SG g) false vb (usesN N .nil)) (hn : N = bigName p) (hl : fls.length ≤ 524288) :
    FuncsIn W (· < W.heap.size) false v (p.funcs ++ [⟨bigName p, args, usesN (bigName p) .nil⟩]) := by
  have hk : FlsOk W (SG g) [newFl N va vb] [⟨N, args, usesN N .nil⟩] := by
    refine ⟨rfl, fun j h1 h2 => ?_⟩
    obtain rfl : j = 0 := by simp at h1; omega
    exact ⟨⟨rfl, h.nl⟩, hA, hN⟩
  have := (FlsOk.app h.flok hk).funcs hO (by simp) (by omega)
  rw [hn] at this; exact this
/-- A literal of the first statement. -/
theorem uses_lit {W : World} {g : Tags} {N : Tx} {vu : Value} (h : Nodes W (SG g) false vu (Ns.of [leaf 2 N])) :
    Nodes (W.alloc (.cells #[.int .u8 13, .string ⟨#[]⟩, vu, .slice none 0 0, .slice none 0 0] 61)) (SG (g.ext W.heap.size 15)) false (.slice (some ⟨W.heap.size, 0, none⟩) 1 1) (usesN N .nil) := by
  have h' : Nodes W (fun b => SG g b ∧ b < W.heap.size) false vu (Ns.of [leaf 2 N]) := h.mono fun b hlt hS => ⟨hS, hlt⟩
  have n := node_litS (k := 13) (t := []) (v2 := .slice none 0 0) (v3 := .slice none 0 0) 61 (fun b hS => hS.2) (by decide) (by simp) h' (nil_nodes W _) (nil_nodes W _)
  exact n.mono fun b _ hS => by
    rcases hS with hS | rfl
    · have := hS.1
      unfold SG at this ⊢
      rw [Tags.ext_old _ _ _ _ hS.2]; exact this
    · exact .inr (.inr (Tags.ext_new _ _ _ _ (Nat.le_refl _)))
theorem fin_wide {W : World} {B : Nat} {v : Value} {fs : List Nd.Fn} (h : FuncsIn W (· < B) false v fs) : FuncsIn W (· < W.heap.size) false v fs := h.mono fun _ hb _ => hb
theorem turn_ex {W W' : World} (hb : Below W.heap.size W W') (g : Tags) : ∃ g', Turn W g W' g' [] := ⟨_, Turn.of_below hb g 20⟩
theorem texts_none (W : World) (S : Nat → Prop) : TextsIn W S false (.slice none 0 0) [] := ⟨none, 0, rfl, Nat.le_refl _, by decide, by simp, (fun e => by cases e), fun i hi => absurd hi (Nat.not_lt_zero _)⟩
theorem texts_lit1 {W : World} {g : Tags} {N : Tx} (T : TypeId) (hN : N.length ≤ 140737488351232) : TextsIn (W.alloc (.cells #[.string (tx N)] T)) (SG (g.ext W.heap.size 15)) false (.slice (some ⟨W.heap.size, 0, none⟩) 1 1) [N] := by
  refine ⟨_, _, rfl, Nat.le_refl _, by decide, by simp, (fun e => by cases e), fun i hi => ⟨W.heap.size, 0, rfl, .inr (.inr (Tags.ext_new _ _ _ _ (Nat.le_refl _))), ?_, ?_⟩⟩
  · obtain rfl : i = 0 := by simp at hi; omega
    rw [cell_of_row _ _ _ _ _ _ (heap_alloc_new W _)]; simp
  · obtain rfl : i = 0 := by simp at hi; omega
    exact hN
/-- The new function's arguments are set. -/
theorem fl_set (fls : List Fl) (N : Tx) (va vb v : Value) : (flCells (fls ++ [newFl N va vb])).set (fls.length * 3 + 1) v = flCells (fls ++ [newFl N v vb]) := by
  rw [flCells_append, flCells_append, List.set_append_right _ _ (by rw [flCells_length]; omega), flCells_length, Nat.add_sub_cancel_left]
  rfl
end Go.Proofs.YtmkhfonafcikdaaGreatDoor
