/- Trees: the law's small functions: the expression of a text; have two texts one; is a text refused. -/
import Derived.Test.YtiefpffccmdcoaaDoorPxParseT
import Derived.Test.YtiefpffccmdcoaaDoorNdSameT
namespace Go.Proofs.YtiefpffccmdcoaaDoor
open Go.RowKit Go.My Go.Nd

/-- v is this node. -/
def NodeV (w : World) (v : Value) (x : Nd) : Prop :=
  ∃ a1 c1 a2 c2 a3 c3, v = .agg #[.int .u8 (x.kind : Int), .string (tx x.text), .slice a1 x.l.len c1, .slice a2 x.body.len c2, .slice a3 x.els.len c3] ∧ x.kind < 256 ∧
    Nodes w (· < w.heap.size) false (.slice a1 x.l.len c1) x.l ∧ Nodes w (· < w.heap.size) false (.slice a2 x.body.len c2) x.body ∧ Nodes w (· < w.heap.size) false (.slice a3 x.els.len c3) x.els
theorem NodeV.later {w w' : World} {v : Value} {x : Nd} (h : NodeV w v x) (hb : Below w.heap.size w w') : NodeV w' v x := by
  obtain ⟨a1, c1, a2, c2, a3, c3, e, hk, h1, h2, h3⟩ := h
  have hz := hb.size
  exact ⟨a1, c1, a2, c2, a3, c3, e, hk, (h1.below hb).mono fun b _ q => Nat.lt_of_lt_of_le q hz, (h2.below hb).mono fun b _ q => Nat.lt_of_lt_of_le q hz, (h3.below hb).mono fun b _ q => Nat.lt_of_lt_of_le q hz⟩

theorem NodesAt.lt {w : World} {S : Nat → Prop} {tw : Bool} {a : Option Addr} {xs : Ns} (h : NodesAt w S tw a xs) : NodesAt w (fun b => S b ∧ b < w.heap.size) tw a xs := h.mono fun _ hb hS => ⟨hS, hb⟩
theorem nodes_lt {w : World} {S : Nat → Prop} {v : Value} {xs : Ns} (h : Nodes w S false v xs) {n : Nat} (hn : w.heap.size ≤ n) : Nodes w (· < n) false v xs := h.mono fun _ hb _ => Nat.lt_of_lt_of_le hb hn
theorem one_results {w : World} {c : Nat} {v0 v1 v2 v3 v4 : Value} {tmps : Array Value} {x : Value} (t2 : tmps.getD 2 undef = .pointer (some ⟨c, 0, none⟩)) (t3 : tmps.getD 3 undef = x)
    (h : w.heap[c]? = some (.cells #[v0, v1, v2, v3, v4] 49 (0, 0))) : (results Tryd.f39 tmps).run Tryd.prog w = .ok (.tuple #[.agg #[v0, v1, v2, v3, v4], x]) w := by
  have hv := nodeVar w c v0 v1 v2 v3 v4 h
  have t2' : tmps[2]?.getD undef = .pointer (some ⟨c, 0, none⟩) := by simpa using t2
  have t3' : tmps[3]?.getD undef = x := by simpa using t3
  simp [results, Tryd.results39, t2', t3', asAddr, Result.andThen, hv]

set_option maxRecDepth 100000 in
set_option maxHeartbeats 8000000 in
theorem one_yes {w : World} {s : Tx} {k : Nat} {t : Tx} {x : Nd} {bd el : Ns} (hp : parse wrapI s = (⟨[], Ns.of [⟨k, t, Ns.of [x], bd, el⟩]⟩, 0, 0)) {Q : Ending → World → Prop}
    (hQ : ∀ v w', Below w.heap.size w w' → NodeV w' v x → Q (.returned (.tuple #[v, .bool (k == 13)])) w') : Calls Tryd.prog 39 #[.string (bs s)] w Q := by
  have H := Lib.hid hQ
  have HP := Lib.hid hp
  obtain ⟨hA, hn, hz⟩ := Put.new w #[.int .u8 0, .string ⟨#[]⟩, .slice none 0 0, .slice none 0 0, .slice none 0 0] TN
  obtain ⟨c, hc⟩ : ∃ c, c = w.heap.size := ⟨_, rfl⟩
  obtain ⟨wA, hwA⟩ : ∃ wA, wA = w.alloc (.cells #[.int .u8 0, .string ⟨#[]⟩, .slice none 0 0, .slice none 0 0, .slice none 0 0] TN) := ⟨_, rfl⟩
  rw [← hwA] at hA hn hz
  rw [← hc] at hn
  have X0 := Lib.hid (And.intro hA (And.intro hn (And.intro hc hz)))
  clear hQ hp hA hn hz
  go_enter Tryd.func39, Tryd.ntmps39
  go_upto_region 1 with fail
  rw [← hwA, ← hc]
  clear hwA hc
  go_wp2_with fail
  refine (parse_t s).mono ?_
  rintro e w1 ⟨hb1, pv, rfl, hP⟩
  rw [HP.out] at hP ⊢
  obtain ⟨m, v1, v2, rfl, h1, h2, h3, h4⟩ := hP
  obtain ⟨a1, d1, rfl⟩ := h3.form
  have hNs := h4.nodes (S := fun b => c < b) fun b q1 q2 => by have := X0.out.2.2.1; have := X0.out.2.2.2; omega
  obtain ⟨a0, cp, rfl, hr, hat⟩ := hNs.open_
  have hi0 : (Ns.of [(⟨k, t, Ns.of [x], bd, el⟩ : Nd)]).items = [⟨k, t, Ns.of [x], bd, el⟩] := Ns.items_of _
  obtain ⟨b, off, u1, u2, u3, rfl, hS, hN⟩ := hat 0 (by rw [hi0]; simp)
  simp only [hi0, List.getElem_cons_zero, Nat.zero_mul, Nat.add_zero] at hN
  obtain ⟨a0', cp', e1, hr', hat'⟩ := hN.l.open_
  have hi1 : (Ns.of [x]).items = [x] := Ns.items_of _
  obtain ⟨b', off', y1, y2, y3, rfl, hS', hN'⟩ := hat' 0 (by rw [hi1]; simp)
  simp only [hi1, List.getElem_cons_zero, Nat.zero_mul, Nat.add_zero] at hN'
  simp only [hi1, List.length_singleton] at e1
  subst e1
  have M1 := hN'.l
  have M2 := hN'.body
  have M3 := hN'.els
  obtain ⟨z1, f1, rfl⟩ := M1.form
  obtain ⟨z2, f2, rfl⟩ := M2.form
  obtain ⟨z3, f3, rfl⟩ := M3.form
  have hlen0 : (Ns.of [(⟨k, t, Ns.of [x], bd, el⟩ : Nd)]).items.length = 1 := by rw [hi0]; rfl
  rw [hlen0]
  have row1 := (hb1.block c (heap_lt X0.out.2.1)).trans X0.out.2.1
  dsimp only [List.length_nil]
  obtain ⟨hA2, hn2, hz2⟩ := Put.new w1 #[.slice a1 0 d1, .slice (some ⟨b, off, none⟩) 1 cp] 25
  obtain ⟨b4, hb4⟩ : ∃ b4, b4 = w1.heap.size := ⟨_, rfl⟩
  obtain ⟨w2, hw2⟩ : ∃ w2, w2 = w1.alloc (.cells #[.slice a1 0 d1, .slice (some ⟨b, off, none⟩) 1 cp] 25) := ⟨_, rfl⟩
  rw [← hw2] at hA2 hn2 hz2
  rw [← hb4] at hn2
  have cell2 : ∀ b o u, w1.cell? ⟨b, o, none⟩ = some u → w2.cell? ⟨b, o, none⟩ = some u := fun b o u h => (World.cell?_of_block (hA2.block b (World.block_lt_of_cell? w1 _ h))).trans h
  have n0 := cell2 _ _ _ hN.d0
  have n2 := cell2 _ _ _ hN.d2
  have x0 := cell2 _ _ _ hN'.d0
  have x1 := cell2 _ _ _ hN'.d1
  have x2 := cell2 _ _ _ hN'.d2
  have x3 := cell2 _ _ _ hN'.d3
  have x4 := cell2 _ _ _ hN'.d4
  simp only at n0 n2
  have row2 := (hA2.block c (heap_lt row1)).trans row1
  have p0 := cell_of_row w2 b4 0 _ _ _ hn2
  have p1 := cell_of_row w2 b4 1 _ _ _ hn2
  simp at p0 p1
  obtain ⟨q0, q1, q2, q3, q4, g0, g1, g2, g3, g4⟩ := row5 row2
  have hcb : ¬ c = b := Nat.ne_of_lt hS
  have hcb2 : ¬ b = c := Nat.ne_of_gt hS
  have hcb' : ¬ c = b' := Nat.ne_of_lt hS'
  have hcb2' : ¬ b' = c := Nat.ne_of_gt hS'
  have hc4 : ¬ c = b4 := by have := heap_lt row1; omega
  have hc42 : ¬ b4 = c := fun e => hc4 e.symm
  have hbw : Below w.heap.size w w2 := X0.out.1.trans ((hb1.trans (hA2.mono hb1.size)).mono X0.out.1.size)
  have M1' := M1.frame (w' := w2) fun b _ hlt => hA2.block b hlt
  have M2' := M2.frame (w' := w2) fun b _ hlt => hA2.block b hlt
  have M3' := M3.frame (w' := w2) fun b _ hlt => hA2.block b hlt
  have hkx := hN'.kind
  have hkk : (((k : Int) == 13) : Bool) = (k == 13) := by
    rw [Bool.eq_iff_iff]; simp only [beq_iff_eq]; omega
  have HK := Lib.hid hkk
  have XX := Lib.hid (And.intro hbw (And.intro row2 (And.intro M1' (And.intro M2' (And.intro M3' hkx)))))
  clear hb1 h1 h2 h3 h4 hNs hr hat hi0 hN hr' hat' hi1 hN' M1 M2 M3 hlen0 row1 hA2 hn2 hz2 cell2 row2 hbw M1' M2' M3' hkx hkk hS hS'
  go_upto_region 2 with fail
  rw [← hw2, ← hb4]
  clear hw2 hb4
  go_wp2_with fail
  go_region
  all_goals
    go_wp2_with fail
    have hp := put5 XX.out.2.1 (.int .u8 (x.kind : Int)) (.string (tx x.text)) (.slice z1 x.l.len f1) (.slice z2 x.body.len f2) (.slice z3 x.els.len f3)
    obtain ⟨w6, hw6⟩ : ∃ w6, w6 = ((((w2.setCell ⟨c, 0, none⟩ (.int .u8 (x.kind : Int))).setCell ⟨c, 1, none⟩ (.string (tx x.text))).setCell ⟨c, 2, none⟩ (.slice z1 x.l.len f1)).setCell ⟨c, 3, none⟩ (.slice z2 x.body.len f2)).setCell ⟨c, 4, none⟩ (.slice z3 x.els.len f3) := ⟨_, rfl⟩
    rw [← hw6] at hp ⊢
    have hrow6 : w6.drew.heap[c]? = _ := hp.row
    refine bodyPost_ret (one_results rfl rfl hrow6) rfl ?_
    have hb6 : Below w.heap.size w w6.drew := (hp.below XX.out.1 (by rw [X0.out.2.2.1]; exact Nat.le_refl _)).drew
    have hz6 : w6.drew.heap.size = w2.heap.size := hp.size
    have fr : ∀ b, c < b → b < w2.heap.size → w6.drew.heap[b]? = w2.heap[b]? := fun b q _ => hp.oth b (Nat.ne_of_gt q)
    show Q (.returned (.tuple #[_, .bool ((k : Int) == 13)])) _
    rw [HK.out]
    exact H.out _ _ hb6 ⟨z1, f1, z2, f2, z3, f3, rfl, XX.out.2.2.2.2.2, nodes_lt (XX.out.2.2.1.frame fr) (by omega), nodes_lt (XX.out.2.2.2.1.frame fr) (by omega), nodes_lt (XX.out.2.2.2.2.1.frame fr) (by omega)⟩

set_option maxRecDepth 100000 in
set_option maxHeartbeats 4000000 in
/-- Two texts that are one statement each: have they one expression. -/
theorem same_t {w : World} {s s' : Tx} {t t' : Tx} {x x' : Nd} {bd bd' el el' : Ns} (hp : parse wrapI s = (⟨[], Ns.of [⟨13, t, Ns.of [x], bd, el⟩]⟩, 0, 0)) (hp' : parse wrapI s' = (⟨[], Ns.of [⟨13, t', Ns.of [x'], bd', el'⟩]⟩, 0, 0)) {r : Bool} (hr : ndEq x x' = r) {Q : Ending → World → Prop}
    (hQ : ∀ w', Below w.heap.size w w' → Q (.returned (.bool r)) w') : Calls Tryd.prog 19 #[.string (bs s), .string (bs s')] w Q := by
  have H := Lib.hid (And.intro hp (And.intro hp' hr))
  have HQ := Lib.hid hQ
  clear hp hp' hr hQ
  go_enter Tryd.func19, Tryd.ntmps19
  go_wp2_with fail
  refine one_yes H.out.1 fun v w1 hb1 hN1 => ?_
  obtain ⟨a1, c1, a2, c2, a3, c3, rfl, k1, n1, n2, n3⟩ := hN1
  obtain ⟨hA, hn, hz⟩ := Put.new w1 #[.int .u8 (x.kind : Int), .string (tx x.text), .slice a1 x.l.len c1, .slice a2 x.body.len c2, .slice a3 x.els.len c3] TN
  obtain ⟨b5, hb5⟩ : ∃ b5, b5 = w1.heap.size := ⟨_, rfl⟩
  obtain ⟨w2, hw2⟩ : ∃ w2, w2 = w1.alloc (.cells #[.int .u8 (x.kind : Int), .string (tx x.text), .slice a1 x.l.len c1, .slice a2 x.body.len c2, .slice a3 x.els.len c3] TN) := ⟨_, rfl⟩
  rw [← hw2] at hA hn hz
  rw [← hb5] at hn
  have X2 := Lib.hid (And.intro (hb1.trans (hA.mono hb1.size)) (And.intro hn (And.intro k1 (And.intro (n1.below hA) (And.intro (n2.below hA) (And.intro (n3.below hA) (show w1.heap.size ≤ w2.heap.size from hA.size)))))))
  clear hb1 hA hn hz k1 n1 n2 n3
  go_upto_region 2 with fail
  rw [← hw2, ← hb5]
  have HB5 := Lib.hid hb5
  clear hw2 hb5
  go_wp2_with fail
  refine one_yes H.out.2.1 fun v w3 hb3 hN3 => ?_
  obtain ⟨a4, c4, a5, c5, a6, c6, rfl, k4, n4, n5, n6⟩ := hN3
  obtain ⟨hA, hn, hz⟩ := Put.new w3 #[.int .u8 (x'.kind : Int), .string (tx x'.text), .slice a4 x'.l.len c4, .slice a5 x'.body.len c5, .slice a6 x'.els.len c6] TN
  obtain ⟨b7, hb7⟩ : ∃ b7, b7 = w3.heap.size := ⟨_, rfl⟩
  obtain ⟨w4, hw4⟩ : ∃ w4, w4 = w3.alloc (.cells #[.int .u8 (x'.kind : Int), .string (tx x'.text), .slice a4 x'.l.len c4, .slice a5 x'.body.len c5, .slice a6 x'.els.len c6] TN) := ⟨_, rfl⟩
  rw [← hw4] at hA hn hz
  rw [← hb7] at hn
  have hb24 : Below w2.heap.size w2 w4 := hb3.trans (hA.mono hb3.size)
  have row5' := (hb24.block _ (heap_lt X2.out.2.1)).trans X2.out.2.1
  obtain ⟨p0, p1, p2, p3, p4, _, _, _, _, _⟩ := row5 row5'
  obtain ⟨q0, q1, q2, q3, q4, _, _, _, _, _⟩ := row5 hn
  have hz24 := hb24.size
  have X4 := Lib.hid (And.intro (X2.out.1.trans (hb24.mono X2.out.1.size)) (And.intro k4 (And.intro ((n4.below hA).mono (fun b _ q => show b < w4.heap.size by omega)) (And.intro ((n5.below hA).mono (fun b _ q => show b < w4.heap.size by omega)) ((n6.below hA).mono (fun b _ q => show b < w4.heap.size by omega))))))
  have low : ∀ {v : Value} {y : Ns}, Nodes w2 (· < w1.heap.size) false v y → Nodes w4 (· < w4.heap.size) false v y := fun h => (h.frame fun b q _ => hb24.block b (by have := X2.out.2.2.2.2.2.2; omega)).mono fun b hb _ => hb
  have Y := Lib.hid (And.intro (low X2.out.2.2.2.1) (And.intro (low X2.out.2.2.2.2.1) (low X2.out.2.2.2.2.2.1)))
  clear hb3 hA hn hz k4 n4 n5 n6 hb24 row5' hz24 low
  go_upto_region 3 with fail
  rw [← hw4, ← hb7]
  clear hw4 hb7
  go_wp2_with fail
  refine (same_one (same_nodes _) (same_nodes _) (same_nodes _) (Nat.le_refl _) X2.out.2.2.1 X4.out.2.1 Y.out.1 Y.out.2.1 Y.out.2.2 X4.out.2.2.1 X4.out.2.2.2.1 X4.out.2.2.2.2).mono ?_
  rintro e w5 ⟨rfl, hb⟩
  rw [H.out.2.2]
  have K := Lib.hid hb
  clear hb p0 p1 p2 p3 p4 q0 q1 q2 q3 q4
  go_wp2_with fail
  exact HQ.out _ (X4.out.1.trans (K.out.mono X4.out.1.size))

set_option maxRecDepth 100000 in
set_option maxHeartbeats 4000000 in
/-- A text that is refused so. -/
theorem fails_t {w : World} {s : Tx} {p e : Nat} (hp : parse wrapI s = (⟨[], .nil⟩, p, e)) {Q : Ending → World → Prop} (hQ : ∀ w', Below w.heap.size w w' → Q (.returned (.bool true)) w') :
    Calls Tryd.prog 34 #[.string (bs s), .int .i64 (e : Int), .int .i64 (p : Int)] w Q := by
  have HP := Lib.hid hp
  have HQ := Lib.hid hQ
  clear hp hQ
  go_enter Tryd.func34, Tryd.ntmps34
  go_wp2_with fail
  refine (parse_t s).mono ?_
  rintro en w1 ⟨hb1, pv, rfl, hP⟩
  rw [HP.out] at hP ⊢
  obtain ⟨a1, c1, a2, c2, rfl⟩ := hP.form
  dsimp only [List.length_nil]
  rw [show Ns.nil.len = 0 from rfl]
  have K := Lib.hid hb1
  have he : ((e : Int) == (e : Int)) = true := by simp
  have hpp : ((p : Int) == (p : Int)) = true := by simp
  clear hb1 hP
  go_wp2_with fail
  exact HQ.out _ (by
    have hA := (Put.new w1 #[.slice a1 0 c1, .slice a2 0 c2] 25).1
    exact K.out.trans (hA.mono K.out.size))
end Go.Proofs.YtiefpffccmdcoaaDoor
