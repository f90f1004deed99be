/- Trees: the bodies of a program; is it too great; may it be. -/
import Derived.Test.YtiefpffccmdcoaaDoorNdCheckT
import Derived.Test.YtiefpffccmdcoaaDoorTrB2
namespace Go.My
open Go.RowKit Go.Nd
theorem Since.nodes {w0 w : World} {g : Tags} (h : Since w0 w g) {B : Nat} (hB : B ≤ w0.heap.size) {tw : Bool} {v : Value} {x : Ns} (hv : Nodes w0 (· < B) tw v x) : Nodes w (· < B) tw v x := hv.below (h.below.mono hB)

end Go.My
namespace Go.Proofs.YtiefpffccmdcoaaDoor
open Go.RowKit Go.My Go.Nd

theorem nodesElem : Elem Tryd.prog 81 23 1 24 (.slice none 0 0) := Elem.mk' Tryd.underlying81 (by kernel_rfl) rfl (by decide)

structure BodAt (w : World) (B : Nat) (tw : Bool) (p : Pr) (i : Nat) (bx : Nat) (ty : TypeId) (cs : Array Value) (v : Value) (wr : World) (g : Tags) (vs : List Value) : Prop where
  since : Since w wr g
  box : w.heap.size ≤ bx ∧ wr.heap[bx]? = some (.cells cs ty (0, 0)) ∧ g bx = 900
  own : Owns wr g 5 23 1 v (i + 1) vs
  len : vs.length = i + 1
  each : ∀ j (h : j < vs.length) (h' : j < (bodiesOf p).length), Nodes wr (· < B) tw vs[j] (bodiesOf p)[j]

def BodLoop (w : World) (B : Nat) (tw : Bool) (p : Pr) (bx : Nat) (ty : TypeId) (cs : Array Value) (gk : Nat) (v3 v12 : Value) (wr : World) : Prop :=
  ∃ (i : Nat) (ao : Option Addr) (cap : Nat) (g : Tags) (vs : List Value), i ≤ p.funcs.length ∧ gk = p.funcs.length - i ∧ v12 = .int .i64 (i : Int) ∧ v3 = .slice ao (i + 1) cap ∧ BodAt w B tw p i bx ty cs v3 wr g vs

theorem bodiesOf_length (p : Pr) : (bodiesOf p).length = p.funcs.length + 1 := by simp [bodiesOf]
theorem bodiesOf_succ (p : Pr) (i : Nat) (hi : i < p.funcs.length) : (bodiesOf p)[i + 1]'(by rw [bodiesOf_length]; omega) = (p.funcs[i]).body := by simp [bodiesOf]

theorem bod_snoc {w wr w2 : World} {B : Nat} {tw : Bool} {p : Pr} {i bx : Nat} {ty : TypeId} {cs : Array Value} {v v2 u : Value} {g g2 : Tags} {vs : List Value} (hB : B ≤ w.heap.size) (h : BodAt w B tw p i bx ty cs v wr g vs) (hi : i < p.funcs.length) {o1 o2 : Obj}
    (hT : Turn ((wr.alloc o1).alloc o2) ((g.ext wr.heap.size 900).ext (wr.heap.size + 1) 901) w2 g2 [5]) (hO : Owns w2 g2 5 23 1 v2 (i + 1 + 1) (vs ++ [u])) (hu : Nodes wr (· < B) tw u (p.funcs[i]).body) : BodAt w B tw p (i + 1) bx ty cs v2 w2 g2 (vs ++ [u]) := by
  have e2 : (wr.alloc o1).heap.size = wr.heap.size + 1 := by simp
  have Ta := Turn.alloc wr g 900 o1
  have Tb := Turn.alloc (wr.alloc o1) (g.ext wr.heap.size 900) 901 o2
  rw [e2] at Tb
  have T : Turn wr g w2 g2 [5] := (Ta.trans Tb (V := []) (by simp) (by simp)).trans hT (by simp) (by simp)
  have hs := h.since.turn T (by decide)
  have hblk : bx < wr.heap.size := (Array.getElem?_eq_some_iff.1 h.box.2.1).1
  have nd : ∀ v x, Nodes wr (· < B) tw v x → Nodes w2 (· < B) tw v x := fun v x hv => hv.frame fun b hb _ => T.block b (Nat.lt_of_lt_of_le hb (Nat.le_trans hB h.since.below.size)) (by rw [h.since.zero b (Nat.lt_of_lt_of_le hb hB)]; decide)
  refine ⟨hs, ⟨h.box.1, (T.block bx hblk (by rw [h.box.2.2]; decide)).trans h.box.2.1, (T.old bx hblk).trans h.box.2.2⟩, hO, by simp [h.len], fun j hj hj' => ?_⟩
  rcases Nat.lt_or_ge j vs.length with hlt | hge
  · rw [List.getElem_append_left hlt]
    exact nd _ _ (h.each j hlt hj')
  · have : j = i + 1 := by have h2 := h.len; simp at hj; omega
    subst this
    rw [List.getElem_append_right hge, bodiesOf_succ p i hi]
    simp only [h.len, Nat.sub_self, List.getElem_singleton]
    exact nd _ _ hu

set_option maxRecDepth 100000 in
set_option maxHeartbeats 4000000 in
theorem bodies_t {w : World} {B : Nat} {tw : Bool} {p : Pr} {v1 v2 : Value} (hB : B ≤ w.heap.size) (h1 : FuncsIn w (· < B) tw v1 p.funcs) (h2 : Nodes w (· < B) tw v2 p.body) {Q : Ending → World → Prop}
    (h : ∀ v w', Below w.heap.size w w' → ListsOf w' B tw v (bodiesOf p) → Q (.returned v) w') : Calls Tryd.prog 50 #[.agg #[v1, v2]] w Q := by
  obtain ⟨a1, c1, rfl, _, _, hr, _, hc⟩ := h1
  obtain ⟨a2, c2, rfl, hr2, hn⟩ := id h2
  have H := Lib.hid h
  have HC := Lib.hid hc
  have HB2 := Lib.hid h2
  have l0 : (0 : Int) ≤ (p.funcs.length : Int) := by omega
  have l1 : (p.funcs.length : Int) ≤ 140737488351232 := by omega
  have hl9 : p.funcs.length ≤ 2199023255552 := by omega
  have Tb := Turn.alloc w (fun _ => 0) 900 (.cells #[.slice a1 p.funcs.length c1, .slice a2 p.body.len c2] 25)
  have Tc := Turn.alloc (w.alloc (.cells #[.slice a1 p.funcs.length c1, .slice a2 p.body.len c2] 25)) (Tags.ext (fun _ => 0) w.heap.size 900) 5 (.cells #[.slice a2 p.body.len c2] 23)
  have hbx : (w.alloc (.cells #[.slice a1 p.funcs.length c1, .slice a2 p.body.len c2] 25)).heap[w.heap.size]? = _ := _root_.Go.heap_alloc_new w _
  have e2 : (w.alloc (.cells #[.slice a1 p.funcs.length c1, .slice a2 p.body.len c2] 25)).heap.size = w.heap.size + 1 := by simp
  have S2 := ((Since.start w).turn Tb (by simp)).turn Tc (by simp)
  have Y0 := Lib.hid (show BodAt w B tw p 0 w.heap.size 25 #[.slice a1 p.funcs.length c1, .slice a2 p.body.len c2] (.slice (some ⟨w.heap.size + 1, 0, none⟩) 1 1) _ _ [.slice a2 p.body.len c2] from
    ⟨S2, ⟨Nat.le_refl _, (Tc.block w.heap.size (by rw [e2]; omega) (by simp)).trans hbx, by rw [Tc.old _ (by rw [e2]; omega), Tags.ext_new _ _ _ _ (Nat.le_refl _)]⟩,
      ⟨some (w.heap.size + 1), ⟨rfl, .inr ⟨w.heap.size + 1, 0, 1, _, rfl, rfl, by rw [← e2]; exact _root_.Go.heap_alloc_new _ _, Nat.le_refl _, by decide, by simp, by simp⟩⟩, fun b hb => by cases hb; rw [← e2]; exact Tags.ext_new _ _ _ _ (Nat.le_refl _)⟩, rfl, fun j hj hj' => by
        have : j = 0 := by simpa using hj
        subst this
        exact S2.nodes hB h2⟩)
  clear h hc h2 hr hr2 hn Tb Tc hbx S2
  go_enter Tryd.func50, Tryd.ntmps50
  go_upto_region 2 with fail
  obtain ⟨bx, hbx⟩ : ∃ bx, bx = w.heap.size := ⟨_, rfl⟩
  generalize hg2 : (Tags.ext (Tags.ext (fun _ => 0) w.heap.size 900) (w.alloc (.cells #[.slice a1 p.funcs.length c1, .slice a2 p.body.len c2] 25)).heap.size 5) = g2 at Y0
  generalize hw2 : (w.alloc (.cells #[.slice a1 p.funcs.length c1, .slice a2 p.body.len c2] 25)).alloc (.cells #[.slice a2 p.body.len c2] 23) = w2 at Y0 ⊢
  rw [← hbx] at Y0 ⊢
  have q0 : w2.cell? ⟨bx, 0, none⟩ = some (.slice a1 p.funcs.length c1) := cell_of_row w2 bx 0 _ _ _ Y0.out.box.2.1
  clear hg2 hw2 hbx e2
  go_wp2_with fail
  go_loopg [3, 12] p.funcs.length (fun gk v3 v12 wr => BodLoop w B tw p bx 25 #[.slice a1 p.funcs.length c1, .slice a2 p.body.len c2] gk v3 v12 wr)
  case atStart => exact ⟨0, _, _, g2, _, Nat.zero_le _, rfl, rfl, rfl, Y0.out⟩
  case round =>
    obtain ⟨i, ao, cap, g, vs, hi, rfl, rfl, rfl, hA⟩ := hrel
    have i0 : (0 : Int) ≤ (i : Int) := by omega
    have X := Lib.hid hA
    clear hA Y0 q0
    by_cases hlt : i < p.funcs.length
    · have i1 : (i : Int) < (p.funcs.length : Int) := by omega
      obtain ⟨b, off, v1, v2, rfl, hS, hN⟩ := HC.out i hlt
      have hblk := X.out.since.below.block b (Nat.lt_of_lt_of_le hS hB)
      have d0 := (World.cell?_of_block hblk).trans hN.d0
      have d1 := (World.cell?_of_block hblk).trans hN.d1
      have d2 := (World.cell?_of_block hblk).trans hN.d2
      have hb1 := X.out.since.nodes hB hN.body
      obtain ⟨y1, z1, e1⟩ := hN.args.form
      obtain ⟨y2, z2, e2⟩ := hN.body.form
      subst e1
      subst e2
      generalize hfi : (p.funcs[i]).args.length = na at *
      generalize hfn : tx (p.funcs[i]).name = nm at *
      have HNB := Lib.hid hb1
      have hown := X.out.own
      obtain ⟨bx2, hbx2⟩ : ∃ bx2, bx2 = wr.heap.size := ⟨_, rfl⟩
      have e3 : (wr.alloc (.cells #[.string nm, .slice y1 na z1, .slice y2 (p.funcs[i]).body.len z2] 46)).heap.size = wr.heap.size + 1 := by simp
      have OW := Lib.hid ((X.out.own.turn (Turn.alloc wr g 900 (.cells #[.string nm, .slice y1 na z1, .slice y2 (p.funcs[i]).body.len z2] 46)) (by simp)).turn (Turn.alloc (wr.alloc (.cells #[.string nm, .slice y1 na z1, .slice y2 (p.funcs[i]).body.len z2] 46)) (g.ext wr.heap.size 900) 901 (.cells #[.slice y2 (p.funcs[i]).body.len z2] 23)) (by simp))
      rw [e3] at OW
      have hi2 : i + 1 + 1 ≤ 2199023255553 := by omega
      clear hN hb1 hown hS hblk hfi hfn hbx2
      go_wp2_with (at_builtin; go_loud (refine wpList_append_t _ rfl (.tmp 16) (.tmp 19) rfl nodesElem (g := (g.ext wr.heap.size 900).ext (wr.heap.size + 1) 901) (tg := 5) rfl OW.out rfl (Src.lit #[.slice y2 (p.funcs[i]).body.len z2] 23 (by simp) rfl) (by simp [Value.oneCell']) (by unfold maxLen; omega) (by omega) ?_); intro a5 c5 w5 g5 O5 T5; have X5 := Lib.hid (bod_snoc hB X.out hlt T5 O5 HNB.out); clear O5 T5)
      go_roundg (p.funcs.length - (i + 1))
      case measure => omega
      case rel => exact ⟨i + 1, _, _, g5, _, hlt, rfl, by go_num, rfl, X5.out⟩
    · have hie : i = p.funcs.length := by omega
      have i1 : (p.funcs.length : Int) ≤ (i : Int) := by omega
      have hL : ListsOf wr B tw (.slice ao (i + 1) cap) (bodiesOf p) := ⟨vs, RowIn.mono X.out.own.row (fun b hb _ => hb), by rw [X.out.len, bodiesOf_length, hie], X.out.each⟩
      have HL := Lib.hid hL
      clear hlt hie hi hL
      go_wp2_with fail
      exact H.out _ _ X.out.since.below HL.out

set_option maxRecDepth 100000 in
set_option maxHeartbeats 2000000 in
theorem great_t {w : World} {B : Nat} {tw : Bool} {p : Pr} {v1 v2 : Value} (hB : B ≤ w.heap.size) (h1 : FuncsIn w (· < B) tw v1 p.funcs) (h2 : Nodes w (· < B) tw v2 p.body) :
    Calls Tryd.prog 28 #[.agg #[v1, v2]] w fun e w' => e = .returned (.bool (greatP wrapI p)) ∧ Below w.heap.size w w' := by
  have hA := Below.alloc (Below.refl w.heap.size w) (Nat.le_refl _) (.cells #[v1, v2] 25)
  have hx : (bodiesOf p).length ≤ 140737488351232 := by obtain ⟨_, _, _, _, _, hr, _⟩ := h1; rw [bodiesOf_length]; omega
  have C := Lib.hid (fun (Q : Ending → World → Prop) (h : ∀ v w', Below (w.alloc (.cells #[v1, v2] 25)).heap.size (w.alloc (.cells #[v1, v2] 25)) w' → ListsOf w' B tw v (bodiesOf p) → Q (.returned v) w') => bodies_t (Nat.le_trans hB hA.size) (h1.below (hA.mono hB)) (h2.below (hA.mono hB)) h)
  obtain ⟨a1, c1, rfl, _⟩ := h1
  obtain ⟨a2, c2, rfl, _⟩ := h2
  have Y := Lib.hid (And.intro hA (And.intro hB hx))
  clear hA hx hB
  go_enter Tryd.func28, Tryd.ntmps28
  go_wp2_with fail
  refine C.out _ fun v w' hb hL => ?_
  have K := Lib.hid (Y.out.1.trans (hb.mono Y.out.1.size))
  have HL := Lib.hid (containsN_said (fn := 51) (p := Nd.great wrapI) (Nat.le_trans Y.out.2.1 K.out.size) hL Y.out.2.2 (fun x _ => great1_one tw B x) (fun _ _ => by kernel_rfl))
  obtain ⟨vs, ⟨va, vc, ev, hx1⟩, hl, hx2⟩ := hL
  subst ev
  clear hb hx1 hl hx2
  go_wp2_with fail
  refine HL.out.mono ?_
  rintro e w2 ⟨rfl, hb⟩
  have K2 := Lib.hid (K.out.trans (hb.mono K.out.size))
  clear hb
  go_wp2_with fail
  go_ret
  exact ⟨rfl, K2.out⟩
end Go.Proofs.YtiefpffccmdcoaaDoor
