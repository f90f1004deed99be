/- Programs: twins of functions. -/
import Derived.Test.YtmkhfonafcikdaaGreatDoorTwCV
import Derived.Test.YtmkhfonafcikdaaGreatDoorTrC3
namespace Go.My
open Go.RowKit Go.Nd
def FlsAre (w : World) (g : Tags) (els : List Fl) (fs : List Nd.Fn) : Prop := ∀ j (h : j < els.length) (h' : j < fs.length), FlIs w (fun b => g b = 1) true els[j] fs[j]

theorem FlIs.turn {w w' : World} {g g' : Tags} {T : List Nat} {e : Fl} {f : Nd.Fn} (h : FlIs w (fun b => g b = 1) true e f) (k : Turn w g w' g' T) (h1 : 1 ∉ T) : FlIs w' (fun b => g' b = 1) true e f :=
  have hm : ∀ b, b < w.heap.size → g b = 1 → g' b = 1 := fun b hb hg => (k.old b hb).trans hg
  have hf : ∀ b, g' b = 1 → b < w.heap.size → w'.heap[b]? = w.heap[b]? := fun b hb hlt => k.keeps h1 b hb hlt
  ⟨h.name, (h.args.mono (T := fun b => g' b = 1) hm).frame hf, (h.body.mono (T := fun b => g' b = 1) hm).frame hf⟩
theorem FlsAre.turn {w w' : World} {g g' : Tags} {T : List Nat} {els : List Fl} {xs : List Nd.Fn} (h : FlsAre w g els xs) (k : Turn w g w' g' T) (h1 : 1 ∉ T) : FlsAre w' g' els xs := fun j hj hj' => (h j hj hj').turn k h1
theorem FlsAre.snoc {w : World} {g : Tags} {els : List Fl} {xs : List Nd.Fn} {e : Fl} (h : FlsAre w g els xs) (hlt : els.length < xs.length) (he : FlIs w (fun b => g b = 1) true e xs[els.length]) : FlsAre w g (els ++ [e]) xs := by
  intro j hj hj'
  by_cases hje : j = els.length
  · subst hje; simpa using he
  · have hj2 : j < els.length := by rw [List.length_append, List.length_singleton] at hj; omega
    rw [List.getElem_append_left hj2]; exact h j hj2 hj'

theorem funcs_made {w w2 : World} {g2 : Tags} {e : TypeId} {b off c n : Nat} {els : List Fl} {xs : List Nd.Fn} (hn : n = xs.length) (hE : els.length = n) (hS : Since w w2 g2) (hA : FlsAre w2 g2 els xs)
    (hO : Owns w2 g2 2 e 3 (.slice (some ⟨b, off, none⟩) (n + 1) c) (n + 1) (flCells els ++ [.string (tx spare), .slice none 0 0, .slice none 0 0])) (hR : n * 64 ≤ 140737488351232) :
    FuncsIn w2 (fun b => w.heap.size ≤ b) true (.slice (some ⟨b, off, none⟩) n c) xs := by
  have new : ∀ k t, t ≠ 0 → g2 k = t → w.heap.size ≤ k := fun k t ht hk => Nat.le_of_not_lt fun hlt => ht (hk.symm.trans (hS.zero k hlt))
  obtain ⟨b', off', c', hv, hg, h1, h2, _, hc⟩ := hO.cell (Nat.succ_pos n)
  cases hv
  have hb := new b 2 (by decide) hg
  have hlen : (flCells els).length = n * 3 := by rw [flCells_length, hE]
  have q : ∀ o, o < 3 → w2.cell? ⟨b, off + n * 3 + o, none⟩ = [Value.string (tx spare), .slice none 0 0, .slice none 0 0][o]? := fun o ho => by
    have := (hc (n * 3 + o) (by omega)).1
    rw [List.getElem?_append_right (by omega), hlen, Nat.add_sub_cancel_left, ← Nat.add_assoc] at this
    exact this
  have r : ∀ j u, (flCells els)[j]? = some u → w2.cell? ⟨b, off + j, none⟩ = some u := fun j u hu => by
    have hj : j < n * 3 := by rw [← hlen]; exact (List.getElem?_eq_some_iff.1 hu).1
    rw [(hc j (by omega)).1, List.getElem?_append_left (by omega)]; exact hu
  refine ⟨_, c, by rw [hn], by omega, h2, by omega, fun _ => ⟨by omega, b, off, rfl, hb, ?_⟩, fun i hi => ?_⟩
  · rw [← hn]; exact ⟨q 0 (by decide), q 1 (by decide), q 2 (by decide)⟩
  · have hi' : i < els.length := by omega
    obtain ⟨r0, r1, r2⟩ := flCells_at els i hi'
    have hI := hA i hi' hi
    have d0 := r _ _ r0
    rw [hI.name.1] at d0
    exact ⟨b, off, els[i].v1, els[i].v2, rfl, hb, ⟨hI.name.2, d0, r _ _ r1, r _ _ r2, hI.args.mono fun k _ hk => new k 1 (by decide) hk, hI.body.mono fun k _ hk => new k 1 (by decide) hk⟩⟩
end Go.My
namespace Go.Proofs.YtmkhfonafcikdaaGreatDoor
open Go.RowKit Go.My Go.Nd


theorem FreshT.earlier {w w0 w1 : World} {v : Value} {x : List (List UInt8)} (h : FreshT w w1 v x) (hb : w0.heap.size ≤ w.heap.size) : FreshT w0 w1 v x := TextsIn.mono h fun _ _ hS => Nat.le_trans hb hS
theorem tr_at {wb w3 wz : World} {lo : Nat} {v : Value} {x : List Tx} {c : Nat} (f : TR wb lo wb.heap.size v x) (hb : Below wb.heap.size wb w3) (ho : ∀ k, k ≠ c → wz.heap[k]? = w3.heap[k]?) (hc : c < lo) : TR wz lo wb.heap.size v x :=
  (f.later hb (Nat.le_refl _)).frame fun b h1 _ => ho b (by omega)
theorem freshT_at {w wa wb w3 wz : World} {v : Value} {x : List (List UInt8)} {c : Nat} (f : FreshT wa wb v x) (hb : Below wb.heap.size wb w3) (ho : ∀ k, k ≠ c → wz.heap[k]? = w3.heap[k]?) (hc : c < wa.heap.size) (hw : w.heap.size ≤ wa.heap.size) : FreshT w wz v x :=
  TextsIn.mono (TextsIn.frame (f.later hb) fun b hS _ => ho b (by have : wa.heap.size ≤ b := hS; omega)) fun b _ hS => Nat.le_trans hw hS

theorem store3 {w : World} {b : Nat} {z0 z1 z2 : Value} {ty : TypeId} (h : w.heap[b]? = some (.cells #[z0, z1, z2] ty (0, 0))) (v0 v1 v2 : Value) :
    (w.cell? ⟨b, 0, none⟩ = some z0 ∧ w.frozen? ⟨b, 0, none⟩ = false) ∧
    ((w.setCell ⟨b, 0, none⟩ v0).cell? ⟨b, 1, none⟩ = some z1 ∧ (w.setCell ⟨b, 0, none⟩ v0).frozen? ⟨b, 1, none⟩ = false) ∧
    (((w.setCell ⟨b, 0, none⟩ v0).setCell ⟨b, 1, none⟩ v1).cell? ⟨b, 2, none⟩ = some z2 ∧ ((w.setCell ⟨b, 0, none⟩ v0).setCell ⟨b, 1, none⟩ v1).frozen? ⟨b, 2, none⟩ = false) ∧
    (((w.setCell ⟨b, 0, none⟩ v0).setCell ⟨b, 1, none⟩ v1).setCell ⟨b, 2, none⟩ v2).heap[b]? = some (.cells #[v0, v1, v2] ty (0, 0)) := by
  have r1 := heap_setCell_same w b 0 _ _ v0 h
  have r2 := heap_setCell_same _ b 1 _ _ v1 r1
  have r3 := heap_setCell_same _ b 2 _ _ v2 r2
  refine ⟨⟨?_, frozen_of_row _ b _ _ _ h⟩, ⟨?_, frozen_of_row _ b _ _ _ r1⟩, ⟨?_, frozen_of_row _ b _ _ _ r2⟩, ?_⟩
  · rw [cell_of_row _ b _ _ _ _ h]; rfl
  · rw [cell_of_row _ b _ _ _ _ r1]; rfl
  · rw [cell_of_row _ b _ _ _ _ r2]; rfl
  · rw [r3]; rfl

def HeldF (w : World) (b : Nat) (w' : World) : Prop := Below w.heap.size w w' ∧ ∃ z0 z1 z2, w'.heap[b]? = some (.cells #[z0, z1, z2] 57 (0, 0))
theorem HeldF.later {w w' w'' : World} {b : Nat} (h : HeldF w b w') (hk : Below w'.heap.size w' w'') : HeldF w b w'' := by
  obtain ⟨h1, z0, z1, z2, h2⟩ := h
  exact ⟨h1.trans (hk.mono h1.size), z0, z1, z2, (hk.block b (Array.getElem?_eq_some_iff.1 h2).1).trans h2⟩
theorem keepF {w w' w'' : World} {b c : Nat} {u0 u1 u2 : Value}
    (hS : (w'.cell? ⟨b, 0, none⟩ = some u0 ∧ w'.cell? ⟨b, 1, none⟩ = some u1 ∧ w'.cell? ⟨b, 2, none⟩ = some u2) ∧ HeldF w c w') (hk : Below w'.heap.size w' w'') :
    (w''.cell? ⟨b, 0, none⟩ = some u0 ∧ w''.cell? ⟨b, 1, none⟩ = some u1 ∧ w''.cell? ⟨b, 2, none⟩ = some u2) ∧ HeldF w c w'' := by
  obtain ⟨⟨h0, h1, h2⟩, hb⟩ := hS
  have e : ∀ o, w''.cell? ⟨b, o, none⟩ = w'.cell? ⟨b, o, none⟩ := fun o => World.cell?_of_block (hk.block b (World.block_lt_of_cell? _ _ h0))
  exact ⟨⟨(e _).trans h0, (e _).trans h1, (e _).trans h2⟩, hb.later hk⟩
theorem wroteF {w w' : World} {b c : Nat} {u0 u1 u2 : Value}
    (hS : (w'.cell? ⟨b, 0, none⟩ = some u0 ∧ w'.cell? ⟨b, 1, none⟩ = some u1 ∧ w'.cell? ⟨b, 2, none⟩ = some u2) ∧ HeldF w c w') (hbc : b ≠ c) (hc : w.heap.size ≤ c) (v0 v1 v2 : Value) :
    ∃ z0 z1 z2, ((w'.cell? ⟨c, 0, none⟩ = some z0 ∧ w'.frozen? ⟨c, 0, none⟩ = false) ∧
    ((w'.setCell ⟨c, 0, none⟩ v0).cell? ⟨c, 1, none⟩ = some z1 ∧ (w'.setCell ⟨c, 0, none⟩ v0).frozen? ⟨c, 1, none⟩ = false) ∧
    (((w'.setCell ⟨c, 0, none⟩ v0).setCell ⟨c, 1, none⟩ v1).cell? ⟨c, 2, none⟩ = some z2 ∧ ((w'.setCell ⟨c, 0, none⟩ v0).setCell ⟨c, 1, none⟩ v1).frozen? ⟨c, 2, none⟩ = false)) ∧
    (∀ wz, wz = ((w'.setCell ⟨c, 0, none⟩ v0).setCell ⟨c, 1, none⟩ v1).setCell ⟨c, 2, none⟩ v2 → wz.heap[c]? = some (.cells #[v0, v1, v2] 57 (0, 0)) ∧ Below w.heap.size w wz ∧ wz.heap.size = w'.heap.size ∧ (∀ k, k ≠ c → wz.heap[k]? = w'.heap[k]?) ∧
      ((wz.cell? ⟨b, 0, none⟩ = some u0 ∧ wz.cell? ⟨b, 1, none⟩ = some u1 ∧ wz.cell? ⟨b, 2, none⟩ = some u2) ∧ HeldF w c wz)) := by
  obtain ⟨⟨h0, h1, h2⟩, hb, z0, z1, z2, hr⟩ := hS
  have s5 := store3 hr v0 v1 v2
  refine ⟨z0, z1, z2, ⟨s5.1, s5.2.1, s5.2.2.1⟩, fun wz hw => ?_⟩
  have hrow := s5.2.2.2
  have hbel := below_set (below_set (below_set hb hc 0 v0) hc 1 v1) hc 2 v2
  have hoth : ∀ k, k ≠ c → (((w'.setCell ⟨c, 0, none⟩ v0).setCell ⟨c, 1, none⟩ v1).setCell ⟨c, 2, none⟩ v2).heap[k]? = w'.heap[k]? := fun k hk => by
    rw [Below.heap_setCell _ _ _ k (by simpa using hk), Below.heap_setCell _ _ _ k (by simpa using hk), Below.heap_setCell _ _ _ k (by simpa using hk)]
  have hsz : (((w'.setCell ⟨c, 0, none⟩ v0).setCell ⟨c, 1, none⟩ v1).setCell ⟨c, 2, none⟩ v2).heap.size = w'.heap.size := by simp
  rw [← hw] at hrow hbel hoth hsz
  have e : ∀ o, wz.cell? ⟨b, o, none⟩ = w'.cell? ⟨b, o, none⟩ := fun o => World.cell?_of_block (hoth b hbc)
  exact ⟨hrow, hbel, hsz, hoth, ⟨(e _).trans h0, (e _).trans h1, (e _).trans h2⟩, hbel, _, _, _, hrow⟩

theorem texts_arm {w w' : World} {b B : Nat} {v : Value} {x : List (List UInt8)} (hB : B ≤ w.heap.size) (hN : TextsIn w (· < B) false v x) {X : Prop} (hS : X ∧ HeldF w b w') (Q : Ending → World → Prop)
    (h : ∀ v' w'', Below w'.heap.size w' w'' → FreshT w' w'' v' x ∧ TR w'' w'.heap.size w''.heap.size v' x → Q (.returned v') w'') : Calls Tryz.prog 147 #[v] w' Q :=
  twin_texts (Nat.le_trans hB hS.2.1.size) (hN.below (hS.2.1.mono hB)) h
theorem nodes_arm {w w' : World} {b B : Nat} {v : Value} {x : Ns} (hB : B ≤ w.heap.size) (hN : Nodes w (· < B) false v x) {X : Prop} (hS : X ∧ HeldF w b w') (Q : Ending → World → Prop)
    (h : ∀ v' w'', Below w'.heap.size w' w'' → Fresh w' w'' v' x → Q (.returned v') w'') : Calls Tryz.prog 31 #[v] w' Q :=
  twin_nodes x w' B v (Nat.le_trans hB hS.2.1.size) (hN.below (hS.2.1.mono hB)) Q h

set_option maxRecDepth 100000 in
set_option maxHeartbeats 6000000 in
theorem twin_func {B : Nat} {f : Nd.Fn} {w : World} {a1 a2 : Option Addr} {c1 c2 : Nat} (hB : B ≤ w.heap.size)
    (n1 : TextsIn w (· < B) false (.slice a1 f.args.length c1) f.args) (n2 : Nodes w (· < B) false (.slice a2 f.body.len c2) f.body) {Q : Ending → World → Prop}
    (h : ∀ v1 v2 w', Below w.heap.size w w' → FreshT w w' v1 f.args → FreshN w w' v2 f.body → (∃ m0 m1 m2, w.heap.size ≤ m0 ∧ m0 ≤ m1 ∧ m1 ≤ m2 ∧ m2 ≤ w'.heap.size ∧ TR w' m0 m1 v1 f.args ∧ LR w' TN m1 m2 v2 f.body) → Q (.returned (.agg #[.string (tx f.name), v1, v2])) w') :
    Calls Tryz.prog 96 #[.agg #[.string (tx f.name), .slice a1 f.args.length c1, .slice a2 f.body.len c2]] w Q := by
  obtain ⟨tt, xl, xb⟩ := f
  simp only at *
  have H := Lib.hid h
  have HB := Lib.hid hB
  have N1 := Lib.hid n1
  have N2 := Lib.hid n2
  clear h n1 n2 hB
  go_enter Tryz.func96, Tryz.ntmps96
  have hA1 := Below.alloc (Below.refl w.heap.size w) (Nat.le_refl _) (.cells #[.string (tx tt), .slice a1 xl.length c1, .slice a2 xb.len c2] 57)
  have hA := Below.alloc hA1 (Nat.le_trans (Nat.le_refl _) hA1.size) (.cells #[.string ⟨#[]⟩, .slice none 0 0, .slice none 0 0] 57)
  obtain ⟨bx, hbx⟩ : ∃ bx, bx = w.heap.size := ⟨_, rfl⟩
  obtain ⟨w0, hw0⟩ : ∃ w0, w0 = (w.alloc (.cells #[.string (tx tt), .slice a1 xl.length c1, .slice a2 xb.len c2] 57)).alloc (.cells #[.string ⟨#[]⟩, .slice none 0 0, .slice none 0 0] 57) := ⟨_, rfl⟩
  have hr0 : w0.heap[bx]? = some (.cells #[.string (tx tt), .slice a1 xl.length c1, .slice a2 xb.len c2] 57 (0, 0)) := by
    rw [hw0, hbx, Below.heap_alloc _ _ _ (by simp)]; exact heap_alloc_new w _
  have hr1 : w0.heap[bx + 1]? = some (.cells #[.string ⟨#[]⟩, .slice none 0 0, .slice none 0 0] 57 (0, 0)) := by
    have := heap_alloc_new (w.alloc (.cells #[.string (tx tt), .slice a1 xl.length c1, .slice a2 xb.len c2] 57)) (.cells #[.string ⟨#[]⟩, .slice none 0 0, .slice none 0 0] 57)
    rw [hw0, hbx]; simpa using this
  have hrow : ∀ w1, Below w0.heap.size w0 w1 → w1.heap[bx]? = _ ∧ w1.heap[bx + 1]? = _ := fun w1 hb => ⟨(hb.block _ (Array.getElem?_eq_some_iff.1 hr0).1).trans hr0, (hb.block _ (Array.getElem?_eq_some_iff.1 hr1).1).trans hr1⟩
  have hbox : ∀ w1, Below w0.heap.size w0 w1 → w1.cell? ⟨bx, 0, none⟩ = some (.string (tx tt)) ∧ w1.cell? ⟨bx, 1, none⟩ = some (.slice a1 xl.length c1) ∧ w1.cell? ⟨bx, 2, none⟩ = some (.slice a2 xb.len c2) := fun w1 hb =>
    ⟨cell_of_row w1 bx 0 _ _ _ (hrow w1 hb).1, cell_of_row w1 bx 1 _ _ _ (hrow w1 hb).1, cell_of_row w1 bx 2 _ _ _ (hrow w1 hb).1⟩
  have hres : ∀ w1, Below w0.heap.size w0 w1 → w1.heap[bx + 1]? = some (.cells #[.string ⟨#[]⟩, .slice none 0 0, .slice none 0 0] 57 (0, 0)) := fun w1 hb => (hrow w1 hb).2
  rw [← hw0] at hA
  have HX := Lib.hid hbox
  have HR := Lib.hid hres
  have Y0 := Lib.hid hA
  clear hA1 hA hr0 hr1 hrow hbox hres
  go_upto_region 1 with fail
  rw [← hbx, ← hw0]
  have hbw : w.heap.size ≤ bx + 1 := by omega
  clear hbx hw0
  obtain ⟨q0, q1, q2⟩ := HX.out w0.drew (Below.refl _ _).drew
  have hH0 : HeldF w (bx + 1) w0.drew := ⟨Y0.out.drew, _, _, _, HR.out w0.drew (Below.refl _ _).drew⟩
  have hHS : (w0.drew.cell? ⟨bx, 0, none⟩ = some (.string (tx tt)) ∧ w0.drew.cell? ⟨bx, 1, none⟩ = some (.slice a1 xl.length c1) ∧ w0.drew.cell? ⟨bx, 2, none⟩ = some (.slice a2 xb.len c2)) ∧ HeldF w (bx + 1) w0.drew := ⟨⟨q0, q1, q2⟩, hH0⟩
  clear HX HR hH0 q0 q1 q2
  go_region_held3 (fun w' => (w'.cell? ⟨bx, 0, none⟩ = some (.string (tx tt)) ∧ w'.cell? ⟨bx, 1, none⟩ = some (.slice a1 xl.length c1) ∧ w'.cell? ⟨bx, 2, none⟩ = some (.slice a2 xb.len c2)) ∧ HeldF w (bx + 1) w')
    (first | assumption | exact keepF (by assumption) (by assumption))
    (first
      | (go_at_call_of 147 (Value.slice a1 xl.length c1); refine texts_arm HB.out N1.out (by assumption) _ ?_; intro v1 w1 hb1 f1; obtain ⟨u1, k1, rfl⟩ := TextsIn.form f1.1; have G1 := Lib.hid f1; clear f1)
      | (go_at_call_of 31 (Value.slice a2 xb.len c2); refine nodes_arm HB.out N2.out (by assumption) _ ?_; intro v2 w2 hb2 f2; obtain ⟨u2, k2, rfl⟩ := Nodes.form f2.1; have G2 := Lib.hid (And.intro f2 hb2); clear f2; have hS3 := keepF (w := w) (c := bx + 1) (u0 := .string (tx tt)) (u1 := .slice a1 xl.length c1) (u2 := .slice a2 xb.len c2) (by assumption) hb2; have hst := wroteF hS3 (Nat.ne_of_lt (Nat.lt_succ_self bx)) hbw (.string (tx tt)) (.slice u1 xl.length k1) (.slice u2 xb.len k2); obtain ⟨z0, z1, z2, ⟨⟨p0, p0'⟩, ⟨p1, p1'⟩, ⟨p2, p2'⟩⟩, hz⟩ := hst; have HZ := Lib.hid hz; have hSF := (hz _ rfl).2.2.2.2; clear hz))
  all_goals
    generalize hwz : ((w2.setCell ⟨bx + 1, 0, none⟩ (.string (tx tt))).setCell ⟨bx + 1, 1, none⟩ (.slice u1 xl.length k1)).setCell ⟨bx + 1, 2, none⟩ (.slice u2 xb.len k2) = wz at *
    have hZ := HZ.out wz rfl
    obtain ⟨_, _, _, hrw⟩ := hHS.2.2
    have s0 : bx + 1 < w0.drew.heap.size := (Array.getElem?_eq_some_iff.1 hrw).1
    have s1 := hHS.2.1.size
    have s2 := hb1.size
    have c0 : wz.cell? ⟨bx + 1, 0, none⟩ = some (.string (tx tt)) := (cell_of_row wz (bx + 1) 0 _ _ _ hZ.1).trans rfl
    have c1 : wz.cell? ⟨bx + 1, 1, none⟩ = some (.slice u1 xl.length k1) := (cell_of_row wz (bx + 1) 1 _ _ _ hZ.1).trans rfl
    have c2 : wz.cell? ⟨bx + 1, 2, none⟩ = some (.slice u2 xb.len k2) := (cell_of_row wz (bx + 1) 2 _ _ _ hZ.1).trans rfl
    have e1 : FreshT w wz (.slice u1 xl.length k1) xl := freshT_at G1.out.1 hb2 hZ.2.2.2.1 s0 s1
    have e2 : FreshN w wz (.slice u2 xb.len k2) xb := fresh_at G2.out.1.1 (Below.refl _ w2) hZ.2.2.2.1 (Nat.lt_of_lt_of_le s0 s2) (Nat.le_trans s1 s2)
    have l1 := tr_at G1.out.2 hb2 hZ.2.2.2.1 s0
    have l2 := lr_at G2.out.1.2 (Below.refl _ w2) hZ.2.2.2.1 (Nat.lt_of_lt_of_le s0 s2)
    have HE := Lib.hid (And.intro hZ.2.1 (And.intro e1 (And.intro e2 (show ∃ m0 m1 m2, w.heap.size ≤ m0 ∧ m0 ≤ m1 ∧ m1 ≤ m2 ∧ m2 ≤ wz.heap.size ∧ TR wz m0 m1 (.slice u1 xl.length k1) xl ∧ LR wz TN m1 m2 (.slice u2 xb.len k2) xb from ⟨_, _, _, s1, s2, hb2.size, by rw [hZ.2.2.1]; exact Nat.le_refl _, l1, l2⟩))))
    clear l1 l2
    clear p0 p0' p1 p1' p2 p2' hSF hS3 hwz hZ e1 e2 hrw s0 s1 s2
    go_wp2_with fail
    exact bodyPost_ret (v := .agg #[.string (tx tt), .slice u1 xl.length k1, .slice u2 xb.len k2]) (by simp [results, Tryz.results96, go_sem, c0, c1, c2]) rfl (H.out _ _ _ HE.out.1 HE.out.2.1 HE.out.2.2.1 HE.out.2.2.2)
end Go.Proofs.YtmkhfonafcikdaaGreatDoor
