/- Scopes: a statement of one expression, written as a literal. -/
import Derived.Test.YtmkhfonafcikdaaGreatDoorScCallsU
namespace Go.Proofs.YtmkhfonafcikdaaGreatDoor
open Go.RowKit Go.My Go.Nd

/-- A literal of one node, whatever blocks its lists lie in. -/
theorem node_litS {W : World} {S : Nat → Prop} {k : Nat} {t : Tx} {l b e : Ns} {v1 v2 v3 : Value} (T : TypeId) (hS : ∀ b, S b → b < W.heap.size) (hk : k < 256) (ht : t.length ≤ 140737488351232) (h1 : Nodes W S false v1 l) (h2 : Nodes W S false v2 b) (h3 : Nodes W S false v3 e) :
    Nodes (W.alloc (.cells #[.int .u8 (k : Int), .string (tx t), v1, v2, v3] T)) (fun b => S b ∨ b = W.heap.size) false (.slice (some ⟨W.heap.size, 0, none⟩) 1 1) (.cons k t l b e .nil) := by
  have hA := Below.alloc (Below.refl W.heap.size W) (Nat.le_refl _) (.cells #[.int .u8 (k : Int), .string (tx t), v1, v2, v3] T)
  have up : ∀ {v : Value} {x : Ns}, Nodes W S false v x → Nodes (W.alloc (.cells #[.int .u8 (k : Int), .string (tx t), v1, v2, v3] T)) (fun b => S b ∨ b = W.heap.size) false v x := fun h => (Nodes.frame h fun b hb _ => hA.block b (hS b hb)).mono fun b _ hb => .inl hb
  have n1 := up h1
  have n2 := up h2
  have n3 := up h3
  obtain ⟨a1, c1, e1, r1, m1⟩ := n1
  obtain ⟨a2, c2, e2, r2, m2⟩ := n2
  obtain ⟨a3, c3, e3, r3, m3⟩ := n3
  subst e1
  subst e2
  subst e3
  have hc : ∀ j, (W.alloc (.cells #[.int .u8 (k : Int), .string (tx t), .slice a1 l.len c1, .slice a2 b.len c2, .slice a3 e.len c3] T)).cell? ⟨W.heap.size, j, none⟩ = (#[.int .u8 (k : Int), .string (tx t), .slice a1 l.len c1, .slice a2 b.len c2, .slice a3 e.len c3] : Array Value)[j]? := fun j => cell_of_row _ _ _ _ _ _ (heap_alloc_new W _)
  exact ⟨some ⟨W.heap.size, 0, none⟩, 1, rfl, ⟨Nat.le_refl _, by decide, (by show 1 * 96 ≤ _; decide), fun e => by cases e⟩, .cons (.inr rfl) hk ht (hc 0) (hc 1) (hc 2) (hc 3) (hc 4) r1 r2 r3 m1 m2 m3 (.nil _ fun e => by cases e)⟩

/-- A statement of one expression: two literals. -/
theorem stmt_litS {W : World} {S : Nat → Prop} {k : Nat} {t : Tx} {l : Ns} {v1 : Value} (kind : Nat) (hkd : kind < 256) (hS : ∀ b, S b → b < W.heap.size) (hk : k < 256) (ht : t.length ≤ 140737488351232) (h1 : Nodes W S false v1 l) :
    Nodes ((W.alloc (.cells #[.int .u8 (k : Int), .string (tx t), v1, .slice none 0 0, .slice none 0 0] 61)).alloc (.cells #[.int .u8 (kind : Int), .string ⟨#[]⟩, .slice (some ⟨W.heap.size, 0, none⟩) 1 1, .slice none 0 0, .slice none 0 0] 61)) (fun b => S b ∨ W.heap.size ≤ b) false (.slice (some ⟨W.heap.size + 1, 0, none⟩) 1 1) (oneSt kind ⟨k, t, l, .nil, .nil⟩) := by
  have n1 := node_litS 61 hS hk ht h1 (nil_nodes W S) (nil_nodes W S)
  have z1 : (W.alloc (.cells #[.int .u8 (k : Int), .string (tx t), v1, .slice none 0 0, .slice none 0 0] 61)).heap.size = W.heap.size + 1 := World.size_alloc _ _
  generalize W.alloc (.cells #[.int .u8 (k : Int), .string (tx t), v1, .slice none 0 0, .slice none 0 0] 61) = W1 at *
  have n2 := node_litS (k := kind) (t := []) 61 (S := fun b => S b ∨ b = W.heap.size) (fun b hb => hb.elim (fun h => by have := hS b h; omega) (fun h => by omega)) hkd (by simp) n1 (nil_nodes W1 _) (nil_nodes W1 _)
  rw [z1] at n2
  exact n2.mono fun b _ hb => by
    rcases hb with (hb | hb) | hb
    · exact .inl hb
    · exact .inr (by omega)
    · exact .inr (by omega)
theorem nodes_repS {w : World} {g : Tags} {t : Nat} {e : TypeId} {v : Value} {n k : Nat} {tt : Tx} (h : Owns w g t e 5 v n (elCells (List.replicate n (leafEl k tt)))) (hk : k < 256) (ht : tt.length ≤ 1000) (hn : n ≤ 1000) : Nodes w (fun b => b < w.heap.size ∧ g b = t) false v (Ns.of (List.replicate n (leaf k tt))) := by
  have hlen : (Ns.of (List.replicate n (leaf k tt))).len = n := by show (Ns.of _).items.length = n; rw [rep_items]; simp
  obtain ⟨k0, ⟨_, (⟨e1, e2, _⟩ | ⟨b, off, cap, cur, e1, eg, hh, h5, h6, h7, h8⟩)⟩, hk0⟩ := h
  · subst e2
    rw [e1]
    exact nil_nodes _ _
  · subst e1
    have hb : b < w.heap.size := (Array.getElem?_eq_some_iff.1 hh).1
    refine ⟨some ⟨b, off, none⟩, cap, by rw [hlen], ⟨by rw [hlen]; exact h5, h6, by rw [hlen]; omega, fun e => by cases e⟩, ?_⟩
    refine nodesAt_of (tw := false) (S := fun b => b < w.heap.size ∧ g b = t) ⟨hb, hk0 b eg⟩ (Ns.of (List.replicate n (leaf k tt))) (List.replicate n (leafEl k tt)) off (by rw [rep_items]; simp) (fun j h1 h2 => ?_) (fun j u hu => ?_) (fun e => by cases e)
    · simp only [rep_items, List.getElem_replicate]
      exact ⟨⟨rfl, hk⟩, ⟨rfl, by show tt.length ≤ _; omega⟩, nil_nodes _ _, nil_nodes _ _, nil_nodes _ _⟩
    · rw [← h8] at hu
      rw [cell_of_row w b (off + j) _ e (0, 0) hh]
      rw [List.getElem?_take] at hu
      split at hu
      · rw [List.getElem?_drop] at hu
        rw [← hu]; simp
      · cases hu
/-- Behind the loop: the function's body is set. -/
structure ClEnd (w0 W : World) (g : Tags) (fb cb lb : Nat) (nm : Tx) (va vb vc vl : Value) (n k : Nat) : Prop where
  since : Since w0 W g
  fbox : Blk W g fb 770 (.cells #[.string ⟨#[102]⟩, va, vb] 57 (0, 0))
  cbox : Blk W g cb 771 (.cells #[.int .u8 4, .string ⟨#[102]⟩, vc, .slice none 0 0, .slice none 0 0] 61 (0, 0))
  lbox : Blk W g lb 772 (.cells #[.int .u8 4, .string (tx nm), vl, .slice none 0 0, .slice none 0 0] 61 (0, 0))
  args : TextsIn W (· < W.heap.size) false va (args6.take n)
  body : Nodes W (· < W.heap.size) false vb (oneSt 11 (callN k))
  call : Nodes W (· < W.heap.size) false vc (Ns.of (List.replicate k (leaf 1 [49])))
  lib : Nodes W (· < W.heap.size) false vl (Ns.of (List.replicate k (leaf 2 [120])))
theorem ClEnd.later {w0 W W' : World} {g : Tags} {fb cb lb : Nat} {nm : Tx} {va vb vc vl : Value} {n k : Nat} (h : ClEnd w0 W g fb cb lb nm va vb vc vl n k) (hb : Below W.heap.size W W') : ClEnd w0 W' (g.ext W.heap.size 790) fb cb lb nm va vb vc vl n k := by
  have T := Turn.of_below hb g 790
  have up : ∀ b, b < W.heap.size → b < W'.heap.size := fun b hb1 => Nat.lt_of_lt_of_le hb1 hb.size
  exact ⟨h.since.turn T (by simp), h.fbox.turn T (by simp), h.cbox.turn T (by simp), h.lbox.turn T (by simp), (h.args.below hb).mono fun b _ hb => up b hb, (h.body.below hb).mono fun b _ hb => up b hb, (h.call.below hb).mono fun b _ hb => up b hb, (h.lib.below hb).mono fun b _ hb => up b hb⟩
theorem cl_end {w0 W : World} {g : Tags} {fb cb lb : Nat} {nm : Tx} {va vl : Value} {vca : Option Addr} {vcc n k : Nat} (h : ClSt w0 W g fb cb lb nm va (.slice vca k vcc) vl n k) (hn : n ≤ 6) (hk : k ≤ 6) :
    ∃ g3, ClEnd w0 (((W.alloc (.cells #[.int .u8 4, .string ⟨#[102]⟩, .slice vca k vcc, .slice none 0 0, .slice none 0 0] 61)).alloc (.cells #[.int .u8 11, .string ⟨#[]⟩, .slice (some ⟨W.heap.size, 0, none⟩) 1 1, .slice none 0 0, .slice none 0 0] 61)).setCell ⟨fb, 2, none⟩ (.slice (some ⟨W.heap.size + 1, 0, none⟩) 1 1)) g3 fb cb lb nm va (.slice (some ⟨W.heap.size + 1, 0, none⟩) 1 1) (.slice vca k vcc) vl n k := by
  have hN := nodes_repS h.call (by decide) (by decide) (by omega)
  have hL := nodes_repS h.lib (by decide) (by decide) (by omega)
  have hst : Nodes ((W.alloc (.cells #[.int .u8 4, .string ⟨#[102]⟩, .slice vca k vcc, .slice none 0 0, .slice none 0 0] 61)).alloc (.cells #[.int .u8 11, .string ⟨#[]⟩, .slice (some ⟨W.heap.size, 0, none⟩) 1 1, .slice none 0 0, .slice none 0 0] 61)) (fun b => (b < W.heap.size ∧ g b = 774) ∨ W.heap.size ≤ b) false (.slice (some ⟨W.heap.size + 1, 0, none⟩) 1 1) (oneSt 11 (callN k)) := stmt_litS (k := 4) (t := [102]) 11 (by decide) (fun b hb => hb.1) (by decide) (by decide) hN
  have z2 : ((W.alloc (.cells #[.int .u8 4, .string ⟨#[102]⟩, .slice vca k vcc, .slice none 0 0, .slice none 0 0] 61)).alloc (.cells #[.int .u8 11, .string ⟨#[]⟩, .slice (some ⟨W.heap.size, 0, none⟩) 1 1, .slice none 0 0, .slice none 0 0] 61)).heap.size = W.heap.size + 2 := by rw [World.size_alloc, World.size_alloc]
  have T1 := Turn.alloc W g 783 (.cells #[.int .u8 4, .string ⟨#[102]⟩, .slice vca k vcc, .slice none 0 0, .slice none 0 0] 61)
  have T2 := Turn.alloc (W.alloc (.cells #[.int .u8 4, .string ⟨#[102]⟩, .slice vca k vcc, .slice none 0 0, .slice none 0 0] 61)) (g.ext W.heap.size 783) 783 (.cells #[.int .u8 11, .string ⟨#[]⟩, .slice (some ⟨W.heap.size, 0, none⟩) 1 1, .slice none 0 0, .slice none 0 0] 61)
  have T12 := T1.trans T2 (V := []) (by simp) (by simp)
  have flt : fb < W.heap.size := h.fbox.lt
  have b2 := h.fbox.turn T12 (by simp)
  generalize (g.ext W.heap.size 783).ext (W.alloc (.cells #[.int .u8 4, .string ⟨#[102]⟩, .slice vca k vcc, .slice none 0 0, .slice none 0 0] 61)).heap.size 783 = g2 at *
  generalize (W.alloc (.cells #[.int .u8 4, .string ⟨#[102]⟩, .slice vca k vcc, .slice none 0 0, .slice none 0 0] 61)).alloc (.cells #[.int .u8 11, .string ⟨#[]⟩, .slice (some ⟨W.heap.size, 0, none⟩) 1 1, .slice none 0 0, .slice none 0 0] 61) = W2 at *
  obtain ⟨TS, hb3⟩ := blk_store b2 2 (.slice (some ⟨W.heap.size + 1, 0, none⟩) 1 1)
  have TT := T12.trans TS (V := [770]) (by simp) (by simp)
  have zs : (W2.setCell ⟨fb, 2, none⟩ (.slice (some ⟨W.heap.size + 1, 0, none⟩) 1 1)).heap.size = W2.heap.size := by simp
  have oth : ∀ b, b ≠ fb → (W2.setCell ⟨fb, 2, none⟩ (.slice (some ⟨W.heap.size + 1, 0, none⟩) 1 1)).heap[b]? = W2.heap[b]? := fun b hb => Below.heap_setCell W2 _ _ b (fun e => hb (by simpa using e))
  have lt3 : ∀ b, b < W.heap.size → b < (W2.setCell ⟨fb, 2, none⟩ (.slice (some ⟨W.heap.size + 1, 0, none⟩) 1 1)).heap.size := fun b hb => by rw [zs, z2]; omega
  have hal : ∀ s ∈ args6.take n, s.length ≤ 140737488351232 := fun s hs => (show ∀ s ∈ args6, s.length ≤ 140737488351232 by decide) s (List.mem_of_mem_take hs)
  have hll : (args6.take n).length = n := by rw [List.length_take]; show min n 6 = n; omega
  have hO3 := h.args.turn TT (by simp)
  rw [← hll] at hO3
  have hva : va = va := rfl
  have a3 := (texts_of_owns (cur := args6.take n) (by rw [hll] at hO3 ⊢; exact hO3) hal (by rw [hll]; omega)).mono (T := (· < (W2.setCell ⟨fb, 2, none⟩ (.slice (some ⟨W.heap.size + 1, 0, none⟩) 1 1)).heap.size)) fun b hb _ => hb
  have keep : ∀ t, t ≠ 770 → ∀ b, (b < W.heap.size ∧ g b = t) → b < W.heap.size → (W2.setCell ⟨fb, 2, none⟩ (.slice (some ⟨W.heap.size + 1, 0, none⟩) 1 1)).heap[b]? = W.heap[b]? := fun t ht b hb hlt => TT.block b hlt (by simp only [List.mem_cons, List.not_mem_nil, or_false]; rw [hb.2]; exact ht)
  refine ⟨g2, h.since.turn TT (by simp), by simpa using hb3, h.cbox.turn TT (by simp), h.lbox.turn TT (by simp), a3, ?_, (hN.frame (keep 774 (by decide))).mono fun b hb _ => hb, (hL.frame (keep 775 (by decide))).mono fun b hb _ => hb⟩
  refine (Nodes.frame hst fun b hb _ => oth b ?_).mono fun b hb _ => hb
  rintro rfl
  rcases hb with hb | hb
  · have := h.fbox.2; omega
  · omega
/-- A program of one statement, of one expression. -/
theorem one_lit {W : World} {k : Nat} {t : Tx} {l : Ns} {v1 : Value} {cs cs2 : Array Value} (kind : Nat) (hkd : kind < 256) (hk : k < 256) (ht : t.length ≤ 140737488351232) (h1 : Nodes W (· < W.heap.size) false v1 l) (e1 : cs = #[.int .u8 (k : Int), .string (tx t), v1, .slice none 0 0, .slice none 0 0])
    (e2 : cs2 = #[.int .u8 (kind : Int), .string ⟨#[]⟩, .slice (some ⟨W.heap.size, 0, none⟩) 1 1, .slice none 0 0, .slice none 0 0]) :
    Below W.heap.size W ((W.alloc (.cells cs 61)).alloc (.cells cs2 61)) ∧ Nodes ((W.alloc (.cells cs 61)).alloc (.cells cs2 61)) (· < ((W.alloc (.cells cs 61)).alloc (.cells cs2 61)).heap.size) false (.slice (some ⟨W.heap.size + 1, 0, none⟩) 1 1) (oneSt kind ⟨k, t, l, .nil, .nil⟩) := by
  subst e1 e2
  have h := stmt_litS kind hkd (fun b hb => hb) hk ht h1
  refine ⟨?_, h.mono fun b hb _ => hb⟩
  have hb1 := Below.alloc (Below.refl W.heap.size W) (Nat.le_refl _) (.cells #[.int .u8 (k : Int), .string (tx t), v1, .slice none 0 0, .slice none 0 0] 61)
  exact hb1.alloc (by simp) _
theorem flat_one (kind n k : Nat) (t u : Tx) (e : Nat) (hk : k ≤ 6) : (oneSt kind ⟨e, t, Ns.of (List.replicate k (leaf n u)), .nil, .nil⟩).flat.length ≤ 1000 := by
  match k, hk with
  | 0, _ => exact (show (2 : Nat) ≤ 1000 by decide)
  | 1, _ => exact (show (3 : Nat) ≤ 1000 by decide)
  | 2, _ => exact (show (4 : Nat) ≤ 1000 by decide)
  | 3, _ => exact (show (5 : Nat) ≤ 1000 by decide)
  | 4, _ => exact (show (6 : Nat) ≤ 1000 by decide)
  | 5, _ => exact (show (7 : Nat) ≤ 1000 by decide)
  | 6, _ => exact (show (8 : Nat) ≤ 1000 by decide)
theorem callP_small (n k : Nat) (hn : n ≤ 6) (hk : k ≤ 6) : SmallP (callP n k) := by
  have h1 := flat_one 11 1 k [102] [49] 4 hk
  have h2 := flat_one 12 1 k [102] [49] 4 hk
  have hl : (args6.take n).length = n := by rw [List.length_take]; show min n 6 = n; omega
  refine ⟨(show (2 : Nat) ≤ 1048576 by decide), fun f hf => ?_, Nat.le_trans h2 (by decide)⟩
  have hf2 : f = ⟨[103], [], oneSt 11 (callN k)⟩ ∨ f = ⟨[102], args6.take n, oneSt 11 (callN k)⟩ := by simpa [callP] using hf
  have h1' : (oneSt 11 (callN k)).flat.length ≤ 1000 := h1
  rcases hf2 with rfl | rfl
  · exact ⟨Nat.zero_le _, by simp only [List.length_nil]; omega⟩
  · simp only [hl]; omega
theorem one_small {x : Ns} (h : x.flat.length ≤ 1000) : SmallP ⟨[], x⟩ := ⟨Nat.zero_le _, (fun f hf => by cases hf), by simp only; omega⟩
theorem funcs_none (w : World) (S : Nat → Prop) : FuncsIn w S false (.slice none 0 0) [] := ⟨none, 0, rfl, Nat.le_refl _, by decide, by simp, (fun e => by cases e), fun i hi => absurd hi (Nat.not_lt_zero _)⟩
end Go.Proofs.YtmkhfonafcikdaaGreatDoor
