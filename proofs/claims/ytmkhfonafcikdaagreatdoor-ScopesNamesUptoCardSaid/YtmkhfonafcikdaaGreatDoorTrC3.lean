/- Texts put together: NdCheck2, NdCheck3, NdLong3, NdRCheck, NdSize, NdSize2, NdUntw, MapIs, MapStr, Tag2, ToIt, ToIt2, Args, Args2, NdArgs, NdPArgs, NdBulk, NdTypes, NdEl, PxMem, PxMem2, PxPut, PxLst, NdFl, BkMem, BkNil. -/
import Derived.Test.YtmkhfonafcikdaaGreatDoorTrC2
import Derived.Maps.Own
import Derived.Maps.OwnOps
import Derived.Maps.OwnSet
import Derived.Maps.Views
import Derived.StringKeys
import Derived.RangeFuncIn
import Derived.RangeFuncLeaves
import Derived.RangeFuncRecord
import Derived.OwnWalkIn
import Derived.RangeFuncCalls
import Derived.SizedLaws
import Derived.Lib.SmallJoins
import Derived.Test.YtmkhfonafcikdaaGreatDoorTrC1
import Derived.Test.YtmkhfonafcikdaaGreatDoorRows

/- Trees: the bodies of a program; is it too great; may it be. -/
namespace Go.My
open Go.RowKit Go.Nd
theorem Since.nodes {w0 w : World} {g : Tags} (h : Since w0 w g) {B : Nat} (hB : B ≤ w0.heap.size) {tw : Bool} {v : Value} {x : Ns} (hv : Nodes w0 (· < B) tw v x) : Nodes w (· < B) tw v x := hv.below (h.below.mono hB)

end Go.My
namespace Go.Proofs.YtmkhfonafcikdaaGreatDoor
open Go.RowKit Go.My Go.Nd

theorem nodesElem : Elem Tryz.prog 198 23 1 24 (.slice none 0 0) := Elem.mk' Tryz.underlying198 (by kernel_rfl) rfl (by decide)

structure BodAt (w : World) (B : Nat) (tw : Bool) (p : Pr) (i : Nat) (bx : Nat) (ty : TypeId) (cs : Array Value) (v : Value) (wr : World) (g : Tags) (vs : List Value) : Prop where
  since : Since w wr g
  box : w.heap.size ≤ bx ∧ wr.heap[bx]? = some (.cells cs ty (0, 0)) ∧ g bx = 900
  own : Owns wr g 5 23 1 v (i + 1) vs
  len : vs.length = i + 1
  each : ∀ j (h : j < vs.length) (h' : j < (bodiesOf p).length), Nodes wr (· < B) tw vs[j] (bodiesOf p)[j]

def BodLoop (w : World) (B : Nat) (tw : Bool) (p : Pr) (bx : Nat) (ty : TypeId) (cs : Array Value) (gk : Nat) (v3 v12 : Value) (wr : World) : Prop :=
  ∃ (i : Nat) (ao : Option Addr) (cap : Nat) (g : Tags) (vs : List Value), i ≤ p.funcs.length ∧ gk = p.funcs.length - i ∧ v12 = .int .i64 (i : Int) ∧ v3 = .slice ao (i + 1) cap ∧ BodAt w B tw p i bx ty cs v3 wr g vs

theorem bodiesOf_length (p : Pr) : (bodiesOf p).length = p.funcs.length + 1 := by simp [bodiesOf]
theorem bodiesOf_succ (p : Pr) (i : Nat) (hi : i < p.funcs.length) : (bodiesOf p)[i + 1]'(by rw [bodiesOf_length]; omega) = (p.funcs[i]).body := by simp [bodiesOf]

theorem bod_snoc {w wr w2 : World} {B : Nat} {tw : Bool} {p : Pr} {i bx : Nat} {ty : TypeId} {cs : Array Value} {v v2 u : Value} {g g2 : Tags} {vs : List Value} (hB : B ≤ w.heap.size) (h : BodAt w B tw p i bx ty cs v wr g vs) (hi : i < p.funcs.length) {o1 o2 : Obj}
    (hT : Turn ((wr.alloc o1).alloc o2) ((g.ext wr.heap.size 900).ext (wr.heap.size + 1) 901) w2 g2 [5]) (hO : Owns w2 g2 5 23 1 v2 (i + 1 + 1) (vs ++ [u])) (hu : Nodes wr (· < B) tw u (p.funcs[i]).body) : BodAt w B tw p (i + 1) bx ty cs v2 w2 g2 (vs ++ [u]) := by
  have e2 : (wr.alloc o1).heap.size = wr.heap.size + 1 := by simp
  have Ta := Turn.alloc wr g 900 o1
  have Tb := Turn.alloc (wr.alloc o1) (g.ext wr.heap.size 900) 901 o2
  rw [e2] at Tb
  have T : Turn wr g w2 g2 [5] := (Ta.trans Tb (V := []) (by simp) (by simp)).trans hT (by simp) (by simp)
  have hs := h.since.turn T (by decide)
  have hblk : bx < wr.heap.size := (Array.getElem?_eq_some_iff.1 h.box.2.1).1
  have nd : ∀ v x, Nodes wr (· < B) tw v x → Nodes w2 (· < B) tw v x := fun v x hv => hv.frame fun b hb _ => T.block b (Nat.lt_of_lt_of_le hb (Nat.le_trans hB h.since.below.size)) (by rw [h.since.zero b (Nat.lt_of_lt_of_le hb hB)]; decide)
  refine ⟨hs, ⟨h.box.1, (T.block bx hblk (by rw [h.box.2.2]; decide)).trans h.box.2.1, (T.old bx hblk).trans h.box.2.2⟩, hO, by simp [h.len], fun j hj hj' => ?_⟩
  rcases Nat.lt_or_ge j vs.length with hlt | hge
  · rw [List.getElem_append_left hlt]
    exact nd _ _ (h.each j hlt hj')
  · have : j = i + 1 := by have h2 := h.len; simp at hj; omega
    subst this
    rw [List.getElem_append_right hge, bodiesOf_succ p i hi]
    simp only [h.len, Nat.sub_self, List.getElem_singleton]
    exact nd _ _ hu

set_option maxRecDepth 100000 in
set_option maxHeartbeats 4000000 in
theorem bodies_t {w : World} {B : Nat} {tw : Bool} {p : Pr} {v1 v2 : Value} (hB : B ≤ w.heap.size) (h1 : FuncsIn w (· < B) tw v1 p.funcs) (h2 : Nodes w (· < B) tw v2 p.body) {Q : Ending → World → Prop}
    (h : ∀ v w', Below w.heap.size w w' → ListsOf w' B tw v (bodiesOf p) → Q (.returned v) w') : Calls Tryz.prog 142 #[.agg #[v1, v2]] w Q := by
  obtain ⟨a1, c1, rfl, _, _, hr, _, hc⟩ := h1
  obtain ⟨a2, c2, rfl, hr2, hn⟩ := id h2
  have H := Lib.hid h
  have HC := Lib.hid hc
  have HB2 := Lib.hid h2
  have l0 : (0 : Int) ≤ (p.funcs.length : Int) := by omega
  have l1 : (p.funcs.length : Int) ≤ 140737488351232 := by omega
  have hl9 : p.funcs.length ≤ 2199023255552 := by omega
  have Tb := Turn.alloc w (fun _ => 0) 900 (.cells #[.slice a1 p.funcs.length c1, .slice a2 p.body.len c2] 25)
  have Tc := Turn.alloc (w.alloc (.cells #[.slice a1 p.funcs.length c1, .slice a2 p.body.len c2] 25)) (Tags.ext (fun _ => 0) w.heap.size 900) 5 (.cells #[.slice a2 p.body.len c2] 23)
  have hbx : (w.alloc (.cells #[.slice a1 p.funcs.length c1, .slice a2 p.body.len c2] 25)).heap[w.heap.size]? = _ := _root_.Go.heap_alloc_new w _
  have e2 : (w.alloc (.cells #[.slice a1 p.funcs.length c1, .slice a2 p.body.len c2] 25)).heap.size = w.heap.size + 1 := by simp
  have S2 := ((Since.start w).turn Tb (by simp)).turn Tc (by simp)
  have Y0 := Lib.hid (show BodAt w B tw p 0 w.heap.size 25 #[.slice a1 p.funcs.length c1, .slice a2 p.body.len c2] (.slice (some ⟨w.heap.size + 1, 0, none⟩) 1 1) _ _ [.slice a2 p.body.len c2] from
    ⟨S2, ⟨Nat.le_refl _, (Tc.block w.heap.size (by rw [e2]; omega) (by simp)).trans hbx, by rw [Tc.old _ (by rw [e2]; omega), Tags.ext_new _ _ _ _ (Nat.le_refl _)]⟩,
      ⟨some (w.heap.size + 1), ⟨rfl, .inr ⟨w.heap.size + 1, 0, 1, _, rfl, rfl, by rw [← e2]; exact _root_.Go.heap_alloc_new _ _, Nat.le_refl _, by decide, by simp, by simp⟩⟩, fun b hb => by cases hb; rw [← e2]; exact Tags.ext_new _ _ _ _ (Nat.le_refl _)⟩, rfl, fun j hj hj' => by
        have : j = 0 := by simpa using hj
        subst this
        exact S2.nodes hB h2⟩)
  clear h hc h2 hr hr2 hn Tb Tc hbx S2
  go_enter Tryz.func142, Tryz.ntmps142
  go_upto_region 2 with fail
  obtain ⟨bx, hbx⟩ : ∃ bx, bx = w.heap.size := ⟨_, rfl⟩
  generalize hg2 : (Tags.ext (Tags.ext (fun _ => 0) w.heap.size 900) (w.alloc (.cells #[.slice a1 p.funcs.length c1, .slice a2 p.body.len c2] 25)).heap.size 5) = g2 at Y0
  generalize hw2 : (w.alloc (.cells #[.slice a1 p.funcs.length c1, .slice a2 p.body.len c2] 25)).alloc (.cells #[.slice a2 p.body.len c2] 23) = w2 at Y0 ⊢
  rw [← hbx] at Y0 ⊢
  have q0 : w2.cell? ⟨bx, 0, none⟩ = some (.slice a1 p.funcs.length c1) := cell_of_row w2 bx 0 _ _ _ Y0.out.box.2.1
  clear hg2 hw2 hbx e2
  go_wp2_with fail
  go_loopg [3, 12] p.funcs.length (fun gk v3 v12 wr => BodLoop w B tw p bx 25 #[.slice a1 p.funcs.length c1, .slice a2 p.body.len c2] gk v3 v12 wr)
  case atStart => exact ⟨0, _, _, g2, _, Nat.zero_le _, rfl, rfl, rfl, Y0.out⟩
  case round =>
    obtain ⟨i, ao, cap, g, vs, hi, rfl, rfl, rfl, hA⟩ := hrel
    have i0 : (0 : Int) ≤ (i : Int) := by omega
    have X := Lib.hid hA
    clear hA Y0 q0
    by_cases hlt : i < p.funcs.length
    · have i1 : (i : Int) < (p.funcs.length : Int) := by omega
      obtain ⟨b, off, v1, v2, rfl, hS, hN⟩ := HC.out i hlt
      have hblk := X.out.since.below.block b (Nat.lt_of_lt_of_le hS hB)
      have d0 := (World.cell?_of_block hblk).trans hN.d0
      have d1 := (World.cell?_of_block hblk).trans hN.d1
      have d2 := (World.cell?_of_block hblk).trans hN.d2
      have hb1 := X.out.since.nodes hB hN.body
      obtain ⟨y1, z1, e1⟩ := hN.args.form
      obtain ⟨y2, z2, e2⟩ := hN.body.form
      subst e1
      subst e2
      generalize hfi : (p.funcs[i]).args.length = na at *
      generalize hfn : tx (p.funcs[i]).name = nm at *
      have HNB := Lib.hid hb1
      have hown := X.out.own
      obtain ⟨bx2, hbx2⟩ : ∃ bx2, bx2 = wr.heap.size := ⟨_, rfl⟩
      have e3 : (wr.alloc (.cells #[.string nm, .slice y1 na z1, .slice y2 (p.funcs[i]).body.len z2] 57)).heap.size = wr.heap.size + 1 := by simp
      have OW := Lib.hid ((X.out.own.turn (Turn.alloc wr g 900 (.cells #[.string nm, .slice y1 na z1, .slice y2 (p.funcs[i]).body.len z2] 57)) (by simp)).turn (Turn.alloc (wr.alloc (.cells #[.string nm, .slice y1 na z1, .slice y2 (p.funcs[i]).body.len z2] 57)) (g.ext wr.heap.size 900) 901 (.cells #[.slice y2 (p.funcs[i]).body.len z2] 23)) (by simp))
      rw [e3] at OW
      have hi2 : i + 1 + 1 ≤ 2199023255553 := by omega
      clear hN hb1 hown hS hblk hfi hfn hbx2
      go_wp2_with (at_builtin; go_loud (refine wpList_append_t _ rfl (.tmp 16) (.tmp 19) rfl nodesElem (g := (g.ext wr.heap.size 900).ext (wr.heap.size + 1) 901) (tg := 5) rfl OW.out rfl (Src.lit #[.slice y2 (p.funcs[i]).body.len z2] 23 (by simp) rfl) (by simp [Value.oneCell']) (by unfold maxLen; omega) (by omega) ?_); intro a5 c5 w5 g5 O5 T5; have X5 := Lib.hid (bod_snoc hB X.out hlt T5 O5 HNB.out); clear O5 T5)
      go_roundg (p.funcs.length - (i + 1))
      case measure => omega
      case rel => exact ⟨i + 1, _, _, g5, _, hlt, rfl, by go_num, rfl, X5.out⟩
    · have hie : i = p.funcs.length := by omega
      have i1 : (p.funcs.length : Int) ≤ (i : Int) := by omega
      have hL : ListsOf wr B tw (.slice ao (i + 1) cap) (bodiesOf p) := ⟨vs, RowIn.mono X.out.own.row (fun b hb _ => hb), by rw [X.out.len, bodiesOf_length, hie], X.out.each⟩
      have HL := Lib.hid hL
      clear hlt hie hi hL
      go_wp2_with fail
      exact H.out _ _ X.out.since.below HL.out

set_option maxRecDepth 100000 in
set_option maxHeartbeats 2000000 in
theorem great_t {w : World} {B : Nat} {tw : Bool} {p : Pr} {v1 v2 : Value} (hB : B ≤ w.heap.size) (h1 : FuncsIn w (· < B) tw v1 p.funcs) (h2 : Nodes w (· < B) tw v2 p.body) :
    Calls Tryz.prog 93 #[.agg #[v1, v2]] w fun e w' => e = .returned (.bool (greatP wrapI p)) ∧ Below w.heap.size w w' := by
  have hA := Below.alloc (Below.refl w.heap.size w) (Nat.le_refl _) (.cells #[v1, v2] 25)
  have hx : (bodiesOf p).length ≤ 140737488351232 := by obtain ⟨_, _, _, _, _, hr, _⟩ := h1; rw [bodiesOf_length]; omega
  have C := Lib.hid (fun (Q : Ending → World → Prop) (h : ∀ v w', Below (w.alloc (.cells #[v1, v2] 25)).heap.size (w.alloc (.cells #[v1, v2] 25)) w' → ListsOf w' B tw v (bodiesOf p) → Q (.returned v) w') => bodies_t (Nat.le_trans hB hA.size) (h1.below (hA.mono hB)) (h2.below (hA.mono hB)) h)
  obtain ⟨a1, c1, rfl, _⟩ := h1
  obtain ⟨a2, c2, rfl, _⟩ := h2
  have Y := Lib.hid (And.intro hA (And.intro hB hx))
  clear hA hx hB
  go_enter Tryz.func93, Tryz.ntmps93
  go_wp2_with fail
  refine C.out _ fun v w' hb hL => ?_
  have K := Lib.hid (Y.out.1.trans (hb.mono Y.out.1.size))
  have HL := Lib.hid (containsN_said (fn := 143) (p := Nd.great wrapI) (Nat.le_trans Y.out.2.1 K.out.size) hL Y.out.2.2 (fun x _ => great1_one tw B x) (fun _ _ => by kernel_rfl))
  obtain ⟨vs, ⟨va, vc, ev, hx1⟩, hl, hx2⟩ := hL
  subst ev
  clear hb hx1 hl hx2
  go_wp2_with fail
  refine HL.out.mono ?_
  rintro e w2 ⟨rfl, hb⟩
  have K2 := Lib.hid (K.out.trans (hb.mono K.out.size))
  clear hb
  go_wp2_with fail
  go_ret
  exact ⟨rfl, K2.out⟩
end Go.Proofs.YtmkhfonafcikdaaGreatDoor

/- Trees: may a program be: Check. -/
namespace Go.Proofs.YtmkhfonafcikdaaGreatDoor
open Go.RowKit Go.My Go.Nd

def CheckAt (w : World) (fs : List Nd.Fn) (gk : Nat) (v8 : Value) (wr : World) : Prop :=
  ∃ i : Nat, i ≤ fs.length ∧ gk = fs.length - i ∧ v8 = .int .i64 (i : Int) ∧ (fs.drop i).all fnOne = fs.all fnOne ∧ Below w.heap.size w wr

theorem check_no {fs r : List Nd.Fn} {i : Nat} {f : Nd.Fn} {p : Pr} (hp : p.funcs = fs) (hd : (fs.drop i).all fnOne = fs.all fnOne) (hdr : fs.drop i = f :: r) (hf : fnOne f = false) : check wrapI p = false := by
  rw [check_is, hp, ← hd, hdr, List.all_cons, hf]; rfl

set_option maxRecDepth 100000 in
set_option maxHeartbeats 8000000 in
theorem check_t {w : World} {B : Nat} {tw : Bool} {p : Pr} {v1 v2 : Value} (hB : B ≤ w.heap.size) (h1 : FuncsIn w (· < B) tw v1 p.funcs) (h2 : Nodes w (· < B) tw v2 p.body) :
    Calls Tryz.prog 24 #[.agg #[v1, v2]] w fun e w' => e = .returned (.bool (check wrapI p)) ∧ Below w.heap.size w w' := by
  have hA0 := Below.alloc (Below.refl w.heap.size w) (Nat.le_refl _) (.cells #[v1, v2] 25)
  obtain ⟨fs, hfs⟩ : ∃ fs, fs = p.funcs := ⟨_, rfl⟩
  rw [← hfs] at h1
  have HF := Lib.hid hfs.symm
  have H1 := Lib.hid (h1.below (hA0.mono hB))
  have H2 := Lib.hid (h2.below (hA0.mono hB))
  obtain ⟨a0, c0, rfl⟩ := h1.form
  obtain ⟨a9, c9, rfl⟩ := h2.form
  obtain ⟨_, _, ev, _, _, hr, _, hc⟩ := h1.below (hA0.mono hB)
  cases ev
  have HC := Lib.hid hc
  have l0 : (0 : Int) ≤ (fs.length : Int) := by omega
  have l1 : (fs.length : Int) ≤ 140737488351232 := by omega
  obtain ⟨bp, hbp⟩ : ∃ bp, bp = w.heap.size := ⟨_, rfl⟩
  obtain ⟨w0, hw0⟩ : ∃ w0, w0 = w.alloc (.cells #[.slice a0 fs.length c0, .slice a9 p.body.len c9] 25) := ⟨_, rfl⟩
  have hboxp : ∀ w1, Below w0.heap.size w0 w1 → w1.cell? ⟨bp, 0, none⟩ = some (.slice a0 fs.length c0) ∧ w1.cell? ⟨bp, 1, none⟩ = some (.slice a9 p.body.len c9) := by
    intro w1 hb1
    rw [hw0] at hb1
    rw [hbp]
    have q0 := box_later hb1 0
    have q1 := box_later hb1 1
    simp at q0 q1
    exact ⟨q0, q1⟩
  have HXP := Lib.hid hboxp
  rw [← hw0] at H1 H2 HC hA0
  have Y0 := Lib.hid hA0
  have HBB := Lib.hid (Nat.le_trans hB hA0.size)
  clear hboxp hA0 hc hr h1 h2 hfs hB
  go_enter Tryz.func24, Tryz.ntmps24
  go_upto_region 1 with fail
  rw [← hbp, ← hw0]
  clear hbp hw0
  obtain ⟨q0, _⟩ := HXP.out w0 (Below.refl _ _)
  go_wp2_with fail
  go_loopg [8] fs.length (fun gk v8 wr => CheckAt w0 fs gk v8 wr)
  case atStart => exact ⟨0, Nat.zero_le _, rfl, rfl, rfl, Below.refl _ _⟩
  case round =>
    obtain ⟨i, hi, rfl, rfl, hd, hb⟩ := hrel
    have i0 : (0 : Int) ≤ (i : Int) := by omega
    clear q0
    by_cases hlt : i < fs.length
    · have i1 : (i : Int) < (fs.length : Int) := by omega
      obtain ⟨b, off, v1, v2, rfl, hS, hN⟩ := HC.out i hlt
      have hN' := hN.frame hS fun k hk _ => hb.block k (Nat.lt_of_lt_of_le hk HBB.out)
      obtain ⟨f, hx⟩ : ∃ f, f = fs[i] := ⟨_, rfl⟩
      rw [← hx] at hN'
      have hdr := List.drop_eq_getElem_cons hlt
      rw [← hx] at hdr
      obtain ⟨fname, fargs, fbody⟩ := f
      have d0 := hN'.d0
      have d1 := hN'.d1
      have d2 := hN'.d2
      have ht := hN'.name
      have hA1 := hN'.args
      have hB1 := hN'.body
      obtain ⟨a1, c1, e1⟩ := hA1.form
      obtain ⟨a2, c2, e2⟩ := hB1.form
      subst e1
      subst e2
      simp only at d0 d1 d2 ht hA1 hB1
      have etx : tx fname = bs fname := rfl
      rw [etx] at d0
      have hBr : B ≤ wr.heap.size := Nat.le_trans HBB.out hb.size
      have hA := Below.alloc (Below.refl wr.heap.size wr) (Nat.le_refl _) (.cells #[.string (bs fname), .slice a1 fargs.length c1, .slice a2 fbody.len c2] 57)
      obtain ⟨bx, hbx⟩ : ∃ bx, bx = wr.heap.size := ⟨_, rfl⟩
      obtain ⟨w4, hw4⟩ : ∃ w4, w4 = wr.alloc (.cells #[.string (bs fname), .slice a1 fargs.length c1, .slice a2 fbody.len c2] 57) := ⟨_, rfl⟩
      have hbox : ∀ w1, Below w4.heap.size w4 w1 → w1.cell? ⟨bx, 0, none⟩ = some (.string (bs fname)) ∧ w1.cell? ⟨bx, 1, none⟩ = some (.slice a1 fargs.length c1) ∧ w1.cell? ⟨bx, 2, none⟩ = some (.slice a2 fbody.len c2) := by
        intro w1 hb1
        rw [hw4] at hb1
        rw [hbx]
        have q0 := box_later hb1 0
        have q1 := box_later hb1 1
        have q2 := box_later hb1 2
        simp at q0 q1 q2
        exact ⟨q0, q1, q2⟩
      have hAB := hA.mono hBr
      rw [← hw4] at hA hAB
      have HX := Lib.hid hbox
      have K4 := Lib.hid (hb.trans (hA.mono hb.size))
      have N1 := Lib.hid (hA1.below hAB)
      have N2 := Lib.hid (hB1.below hAB)
      have HDR := Lib.hid hdr
      have HD := Lib.hid hd
      have HBr := Lib.hid (Nat.le_trans hBr hA.size)
      have HT := Lib.hid (show fname.length ≤ 9223372036854775807 by omega)
      clear hN hN' hA hAB hbox hb hd hx hdr hS ht etx hBr hA1 hB1
      go_upto_region 4 with fail
      rw [← hbx, ← hw4]
      clear hbx hw4 d0 d1 d2
      obtain ⟨q0, q1, q2⟩ := HX.out w4 (Below.refl _ _)
      go_wp2_with fail
      refine name_t fname HT.out fun w5 hb5 => ?_
      have K5 := Lib.hid hb5
      obtain ⟨q0, q1, q2⟩ := HX.out w5 K5.out
      clear hb5
      cases hnm : To.name fname with
      | false =>
        have HN := Lib.hid (check_no HF.out HD.out HDR.out (by unfold fnOne; simp only; rw [hnm]; rfl))
        clear hnm
        go_wp2_with fail
        go_ret
        exact ⟨by rw [HN.out]; rfl, Y0.out.trans ((K4.out.trans (K5.out.mono K4.out.size)).mono Y0.out.size)⟩
      | true =>
        have HNM := Lib.hid hnm
        clear hnm
        go_wp2_with fail
        refine (containsT_said (fn := 91) (p := fun x => !To.name x) (Nat.le_trans HBr.out K5.out.size) (N1.out.below (K5.out.mono HBr.out)) (fun x _ => check1_one x) (fun _ _ => by kernel_rfl)).mono ?_
        rintro e w6 ⟨rfl, hb6⟩
        rw [not_names]
        have K6 := Lib.hid (K5.out.trans (hb6.mono K5.out.size))
        obtain ⟨q0, q1, q2⟩ := HX.out w6 K6.out
        clear hb6
        cases hna : fargs.all To.name with
        | false =>
          have HN := Lib.hid (check_no HF.out HD.out HDR.out (by unfold fnOne; simp only; rw [hna, Bool.and_false]; rfl))
          clear hna
          go_wp2_with fail
          go_ret
          exact ⟨by rw [HN.out]; rfl, Y0.out.trans ((K4.out.trans (K6.out.mono K4.out.size)).mono Y0.out.size)⟩
        | true =>
          have HNA := Lib.hid hna
          clear hna
          go_wp2_with fail
          refine (stmt_said tw true fbody w6 B _ (Nat.le_trans HBr.out K6.out.size) (N2.out.below (K6.out.mono HBr.out))).mono ?_
          rintro e w7 ⟨rfl, hb7⟩
          have K7 := Lib.hid (K4.out.trans ((K6.out.trans (hb7.mono K6.out.size)).mono K4.out.size))
          clear hb7
          cases hst : stmts true fbody with
          | false =>
            have HN := Lib.hid (check_no HF.out HD.out HDR.out (by unfold fnOne; simp only; rw [hst, Bool.and_false]))
            clear hst
            go_wp2_with fail
            go_ret
            exact ⟨by rw [HN.out]; rfl, Y0.out.trans (K7.out.mono Y0.out.size)⟩
          | true =>
            have HST := Lib.hid hst
            clear hst
            go_wp2_with fail
            go_roundg (fs.length - (i + 1))
            case measure => omega
            case rel =>
              refine ⟨i + 1, hlt, rfl, by go_num, ?_, K7.out⟩
              have hd := HD.out
              rw [HDR.out, List.all_cons, show fnOne ⟨fname, fargs, fbody⟩ = true by unfold fnOne; simp only; rw [HNM.out, HNA.out, HST.out]; rfl, Bool.true_and] at hd
              exact hd
    · have hie : i = fs.length := by omega
      have i1 : (fs.length : Int) ≤ (i : Int) := by omega
      have HALL := Lib.hid (show p.funcs.all fnOne = true by rw [HF.out, ← hd, hie, List.drop_length]; rfl)
      have K := Lib.hid hb
      obtain ⟨q0, q1⟩ := HXP.out wr hb
      clear hlt hie hd hb hi
      go_wp2_with fail
      refine (stmt_said tw false p.body wr B _ (Nat.le_trans HBB.out K.out.size) (H2.out.below (K.out.mono HBB.out))).mono ?_
      rintro e w7 ⟨rfl, hb7⟩
      have K7 := Lib.hid (K.out.trans (hb7.mono K.out.size))
      clear hb7
      obtain ⟨q0, q1⟩ := HXP.out w7 K7.out
      cases hst : stmts false p.body with
      | false =>
        have HN := Lib.hid (show check wrapI p = false by rw [check_is, hst, Bool.and_false]; rfl)
        clear hst
        go_wp2_with fail
        go_ret
        exact ⟨by rw [HN.out]; rfl, Y0.out.trans (K7.out.mono Y0.out.size)⟩
      | true =>
        have HN := Lib.hid (show check wrapI p = !greatP wrapI p by rw [check_is, hst, HALL.out]; rfl)
        have h1' := H1.out.below (K7.out.mono HBB.out)
        rw [← HF.out] at h1'
        have G := Lib.hid (great_t (p := p) (Nat.le_trans HBB.out K7.out.size) h1' (H2.out.below (K7.out.mono HBB.out)))
        rw [show p.funcs.length = fs.length by rw [HF.out]] at *
        clear hst h1'
        go_wp2_with fail
        refine G.out.mono ?_
        rintro e w8 ⟨rfl, hb8⟩
        have K8 := Lib.hid (K7.out.trans (hb8.mono K7.out.size))
        clear hb8
        go_wp2_with fail
        go_ret
        exact ⟨by rw [HN.out]; rfl, Y0.out.trans (K8.out.mono Y0.out.size)⟩
end Go.Proofs.YtmkhfonafcikdaaGreatDoor

/- Trees: is a number too long, as the document has it. -/
namespace Go.Proofs.YtmkhfonafcikdaaGreatDoor
open Go.RowKit Go.My Go.Nd

def RLongSaid (tw : Bool) (x : Ns) : Prop := ∀ (w : World) (B : Nat) (v : Value), B ≤ w.heap.size → Nodes w (· < B) tw v x → Calls Tryz.prog 153 #[v] w fun e w' => e = .returned (.bool (long x)) ∧ Below w.heap.size w w'

theorem cell_later {w w1 : World} {n b o : Nat} {u : Value} (hb : Below n w w1) (hlt : b < n) (h : w.cell? ⟨b, o, none⟩ = some u) : w1.cell? ⟨b, o, none⟩ = some u := (World.cell?_of_block (hb.block b hlt)).trans h

def LongAt (w : World) (xs : Ns) (gk : Nat) (v3 : Value) (wr : World) : Prop :=
  ∃ i : Nat, i ≤ xs.items.length ∧ gk = xs.items.length - i ∧ v3 = .int .i64 (i : Int) ∧ (xs.items.drop i).any longOne = xs.items.any longOne ∧ Below w.heap.size w wr

set_option maxRecDepth 100000 in
set_option maxHeartbeats 8000000 in
theorem rlong_said (tw : Bool) : ∀ xs, RLongSaid tw xs := by
  refine Ns.each fun xs ih w B v hB hv => ?_
  obtain ⟨a, c, rfl, hr, hc⟩ := hv.open_
  have HI := Lib.hid ih
  have HC := Lib.hid hc
  have l0 : (0 : Int) ≤ (xs.items.length : Int) := by omega
  have l1 : (xs.items.length : Int) ≤ 140737488351232 := by have := hr.2.2.1; omega
  clear ih hv hc hr
  go_enter Tryz.func153, Tryz.ntmps153
  go_wp2_with fail
  go_loopg [3] xs.items.length (fun gk v3 wr => LongAt w xs gk v3 wr)
  case atStart => exact ⟨0, Nat.zero_le _, rfl, rfl, rfl, Below.refl _ _⟩
  case round =>
    obtain ⟨i, hi, rfl, rfl, hd, hb⟩ := hrel
    have i0 : (0 : Int) ≤ (i : Int) := by omega
    by_cases hlt : i < xs.items.length
    · have i1 : (i : Int) < (xs.items.length : Int) := by omega
      obtain ⟨b, off, v1, v2, v3, rfl, hS, hN⟩ := HC.out i hlt
      have hN' := hN.frame hS fun k hk _ => hb.block k (Nat.lt_of_lt_of_le hk hB)
      obtain ⟨x, hx⟩ : ∃ x, x = xs.items[i] := ⟨_, rfl⟩
      rw [← hx] at hN'
      have hI := HI.out _ (List.getElem_mem hlt)
      rw [← hx] at hI
      have hdr := items_cons_drop xs i hlt
      rw [← hx] at hdr
      obtain ⟨kd, tt, xl, xb, xe⟩ := x
      have d0 := hN'.d0
      have d1 := hN'.d1
      have d2 := hN'.d2
      have d3 := hN'.d3
      have d4 := hN'.d4
      have ht := hN'.text
      obtain ⟨a1, c1, rfl, s1, m1⟩ := hN'.l
      obtain ⟨a2, c2, rfl, s2, m2⟩ := hN'.body
      obtain ⟨a3, c3, rfl, s3, m3⟩ := hN'.els
      simp only at d0 d1 d2 d3 d4 ht
      have hBr : B ≤ wr.heap.size := Nat.le_trans hB hb.size
      have n1 : Nodes wr (· < B) tw (.slice a1 xl.len c1) xl := ⟨a1, c1, rfl, s1, m1⟩
      have n2 : Nodes wr (· < B) tw (.slice a2 xb.len c2) xb := ⟨a2, c2, rfl, s2, m2⟩
      have n3 : Nodes wr (· < B) tw (.slice a3 xe.len c3) xe := ⟨a3, c3, rfl, s3, m3⟩
      have Y := Lib.hid (And.intro hI (And.intro n1 (And.intro n2 (And.intro n3 (And.intro hBr (And.intro hb (And.intro hd (And.intro hdr (Nat.lt_of_lt_of_le hS hBr)))))))))
      have ts := tx_size tt
      have k0 : (0 : Int) ≤ (kd : Int) := by omega
      have tl : (tt.length : Int) ≤ 140737488351232 := by omega
      obtain ⟨p, hp⟩ : ∃ p, p = (kd == 1 && decide (200 < tt.length)) := ⟨_, rfl⟩
      have HR := Lib.hid (show longOne ⟨kd, tt, xl, xb, xe⟩ = (p || long xl || long xb || long xe) by rw [hp]; rfl)
      have D3 := Lib.hid d3
      have D4 := Lib.hid d4
      clear hN hN' s1 s2 s3 m1 m2 m3 hb hd hx hdr hI hS n1 n2 n3 hBr ht
      have fin : ∀ wz, longOne ⟨kd, tt, xl, xb, xe⟩ = true → Below w.heap.size w wz → Ending.returned (.bool true) = Ending.returned (.bool (long xs)) ∧ Below w.heap.size w wz := fun wz hone hz => by
        refine ⟨?_, hz⟩
        have hd := Y.out.2.2.2.2.2.2.1
        rw [Y.out.2.2.2.2.2.2.2.1, List.any_cons, hone, Bool.true_or] at hd
        rw [long_items, ← hd]
      have FIN := Lib.hid fin
      clear fin
      cases p with
      | true =>
        have hq : kd = 1 ∧ 200 < tt.length := by have := hp.symm; simpa using this
        obtain ⟨rfl, hq⟩ := hq
        have hq2 : (200 : Int) < (tt.length : Int) := by omega
        clear hp hq
        go_wp2_with fail
        go_ret
        exact FIN.out _ (by rw [HR.out]; rfl) Y.out.2.2.2.2.2.1
      | false =>
        have hq : ((kd : Int) == 1) = false ∨ (kd = 1 ∧ (tt.length : Int) ≤ 200) := by
          have := hp.symm
          by_cases hk1 : kd = 1
          · right; subst hk1; simp at this; omega
          · left; simp; omega
        clear hp
        rcases hq with hq | ⟨rfl, hq⟩
        all_goals
          (try have hq2 : decide ((200 : Int) < (tt.length : Int)) = false := by simp; omega)
          go_wp2_with fail
          refine (Y.out.1.1 _ B _ Y.out.2.2.2.2.1 Y.out.2.1).mono ?_
          rintro e w1 ⟨rfl, hb1⟩
          have e3 := cell_later hb1 Y.out.2.2.2.2.2.2.2.2 D3.out
          have K1 := Lib.hid (And.intro hb1 (Y.out.2.2.2.2.2.1.trans (hb1.mono Y.out.2.2.2.2.2.1.size)))
          clear hb1
          cases hl1 : long xl with
          | true =>
            have L1 := Lib.hid hl1
            clear hl1
            go_wp2_with fail
            go_ret
            exact FIN.out _ (by rw [HR.out, L1.out]; rfl) K1.out.2
          | false =>
            have L1 := Lib.hid hl1
            clear hl1
            go_wp2_with fail
            refine (Y.out.1.2.1 w1 B _ (Nat.le_trans Y.out.2.2.2.2.1 K1.out.1.size) (Y.out.2.2.1.below (K1.out.1.mono Y.out.2.2.2.2.1))).mono ?_
            rintro e w2 ⟨rfl, hb2⟩
            have hb12 := K1.out.1.trans (hb2.mono K1.out.1.size)
            have e4 := cell_later hb12 Y.out.2.2.2.2.2.2.2.2 D4.out
            have K2 := Lib.hid (And.intro hb12 (Y.out.2.2.2.2.2.1.trans (hb12.mono Y.out.2.2.2.2.2.1.size)))
            clear hb2 hb12 e3
            cases hl2 : long xb with
            | true =>
              have L2 := Lib.hid hl2
              clear hl2
              go_wp2_with fail
              go_ret
              exact FIN.out _ (by rw [HR.out, L1.out, L2.out]; rfl) K2.out.2
            | false =>
              have L2 := Lib.hid hl2
              clear hl2
              go_wp2_with fail
              refine (Y.out.1.2.2 w2 B _ (Nat.le_trans Y.out.2.2.2.2.1 K2.out.1.size) (Y.out.2.2.2.1.below (K2.out.1.mono Y.out.2.2.2.2.1))).mono ?_
              rintro e w3 ⟨rfl, hb3⟩
              have K3 := Lib.hid (K2.out.2.trans (hb3.mono K2.out.2.size))
              clear hb3
              cases hl3 : long xe with
              | true =>
                have L3 := Lib.hid hl3
                clear hl3
                go_wp2_with fail
                go_ret
                exact FIN.out _ (by rw [HR.out, L1.out, L2.out, L3.out]; rfl) K3.out
              | false =>
                have L3 := Lib.hid hl3
                clear hl3
                go_wp2_with fail
                go_roundg (xs.items.length - (i + 1))
                case measure => omega
                case rel =>
                  refine ⟨i + 1, hlt, rfl, by go_num, ?_, K3.out⟩
                  have hd := Y.out.2.2.2.2.2.2.1
                  rw [Y.out.2.2.2.2.2.2.2.1, List.any_cons, HR.out, L1.out, L2.out, L3.out] at hd
                  exact hd
    · obtain rfl : i = xs.items.length := by omega
      clear hlt
      go_wp2_with fail
      go_ret
      exact ⟨by rw [long_items, ← hd, List.drop_length]; rfl, hb⟩
end Go.Proofs.YtmkhfonafcikdaaGreatDoor

/- Trees: may a program be, as the document has it. -/
namespace Go.Proofs.YtmkhfonafcikdaaGreatDoor
open Go.RowKit Go.My Go.Nd


def RGreatAt (w : World) (p : Pr) (fs : List Nd.Fn) (gk : Nat) (v3 v4 : Value) (wr : World) : Prop :=
  ∃ (i : Nat) (q : Bool), i ≤ fs.length ∧ gk = fs.length - i ∧ v3 = .bool q ∧ v4 = .int .i64 (i : Int) ∧ (q || (fs.drop i).any (fun f => Nd.great wrapI f.body)) = greatP wrapI p ∧ Below w.heap.size w wr

theorem deep_wraps (x : Ns) : 0 ≤ deep wrapI x ∧ deep wrapI x ≤ 9223372036854775807 :=
  ⟨deep_nonneg wrapI x, deep_le wrapI 9223372036854775807 (by decide) (fun x => by unfold wrapI; rw [IntKind.wrap_i64]; omega) x⟩

set_option maxRecDepth 100000 in
set_option maxHeartbeats 8000000 in
theorem rgreat_t {w : World} {B : Nat} {tw : Bool} {p : Pr} {v1 v2 : Value} (hB : B ≤ w.heap.size) (h1 : FuncsIn w (· < B) tw v1 p.funcs) (h2 : Nodes w (· < B) tw v2 p.body) :
    Calls Tryz.prog 105 #[.agg #[v1, v2]] w fun e w' => e = .returned (.bool (greatP wrapI p)) ∧ Below w.heap.size w w' := by
  have hA0 := Below.alloc (Below.refl w.heap.size w) (Nat.le_refl _) (.cells #[v1, v2] 25)
  obtain ⟨fs, hfs⟩ : ∃ fs, fs = p.funcs := ⟨_, rfl⟩
  rw [← hfs] at h1
  have HGP := Lib.hid (show greatP wrapI p = (Nd.great wrapI p.body || fs.any (fun f => Nd.great wrapI f.body)) by unfold greatP bodiesOf; rw [List.any_cons, List.any_map, hfs]; rfl)
  have H2 := Lib.hid (h2.below (hA0.mono hB))
  obtain ⟨a0, c0, rfl⟩ := h1.form
  obtain ⟨a9, c9, rfl⟩ := h2.form
  obtain ⟨_, _, ev, _, _, hr, _, hc⟩ := h1.below (hA0.mono hB)
  cases ev
  have HC := Lib.hid hc
  have l0 : (0 : Int) ≤ (fs.length : Int) := by omega
  have l1 : (fs.length : Int) ≤ 140737488351232 := by omega
  obtain ⟨bp, hbp⟩ : ∃ bp, bp = w.heap.size := ⟨_, rfl⟩
  obtain ⟨w0, hw0⟩ : ∃ w0, w0 = w.alloc (.cells #[.slice a0 fs.length c0, .slice a9 p.body.len c9] 25) := ⟨_, rfl⟩
  have hboxp : ∀ w1, Below w0.heap.size w0 w1 → w1.cell? ⟨bp, 0, none⟩ = some (.slice a0 fs.length c0) ∧ w1.cell? ⟨bp, 1, none⟩ = some (.slice a9 p.body.len c9) := by
    intro w1 hb1
    rw [hw0] at hb1
    rw [hbp]
    have q0 := box_later hb1 0
    have q1 := box_later hb1 1
    simp at q0 q1
    exact ⟨q0, q1⟩
  have HXP := Lib.hid hboxp
  rw [← hw0] at H2 HC hA0
  have Y0 := Lib.hid hA0
  have HBB := Lib.hid (Nat.le_trans hB hA0.size)
  obtain ⟨d, hd0⟩ : ∃ d, d = deep wrapI p.body := ⟨_, rfl⟩
  have hdw := deep_wraps p.body
  have HDB := Lib.hid (show Nd.great wrapI p.body = (decide (64 < d) || long p.body) by unfold Nd.great; rw [hd0])
  have HD1 := Lib.hid (rdeep_said tw p.body w0 B _ HBB.out H2.out)
  rw [← hd0] at hdw HD1
  clear hboxp hA0 hc hr h1 h2 hfs hB hd0
  go_enter Tryz.func105, Tryz.ntmps105
  go_upto_region 1 with fail
  rw [← hbp, ← hw0]
  clear hbp hw0
  obtain ⟨q0, q1⟩ := HXP.out w0 (Below.refl _ _)
  go_cut [3] (fun v3 wx => v3 = .bool (Nd.great wrapI p.body) ∧ Below w0.heap.size w0 wx)
  case first =>
    go_wp2_with fail
    refine HD1.out.mono ?_
    rintro e w1 ⟨rfl, hb⟩
    have K := Lib.hid hb
    obtain ⟨q0, q1⟩ := HXP.out w1 hb
    clear hb
    by_cases hg : 64 < d
    · have HG := Lib.hid (show Nd.great wrapI p.body = true by rw [HDB.out]; simp [hg])
      go_wp2_with fail
      go_meet
      case rel => exact ⟨by rw [HG.out], K.out⟩
    · have hg1 : d ≤ 64 := by omega
      have hg2 : decide (64 < d) = false := by simp; omega
      have HG := Lib.hid (show Nd.great wrapI p.body = long p.body by rw [HDB.out]; simp [hg])
      clear hg
      go_wp2_with fail
      refine (rlong_said tw p.body w1 B _ (Nat.le_trans HBB.out K.out.size) (H2.out.below (K.out.mono HBB.out))).mono ?_
      rintro e w2 ⟨rfl, hb⟩
      have K2 := Lib.hid (K.out.trans (hb.mono K.out.size))
      clear hb
      go_wp2_with fail
      go_meet
      case rel => exact ⟨by rw [HG.out], K2.out⟩
  case rest =>
    obtain ⟨rfl, hbc⟩ := hcut
    have KC := Lib.hid hbc
    clear hbc q0 q1 HD1 hdw
    generalize hgb : Nd.great wrapI p.body = gb at *
    clear hgb HDB
    go_wp2_with fail
    go_loopg [3, 4] fs.length (fun gk v3 v4 wr => RGreatAt w0 p fs gk v3 v4 wr)
    case atStart => exact ⟨0, gb, Nat.zero_le _, rfl, rfl, rfl, by rw [List.drop_zero, HGP.out], KC.out⟩
    case round =>
      obtain ⟨i, q, hi, rfl, rfl, rfl, hd, hb⟩ := hrel
      have i0 : (0 : Int) ≤ (i : Int) := by omega
      obtain ⟨q0, q1⟩ := HXP.out wr hb
      clear KC
      by_cases hlt : i < fs.length
      · have i1 : (i : Int) < (fs.length : Int) := by omega
        obtain ⟨b, off, v1, v2, rfl, hS, hN⟩ := HC.out i hlt
        have hN' := hN.frame hS fun k hk _ => hb.block k (Nat.lt_of_lt_of_le hk HBB.out)
        obtain ⟨f, hx⟩ : ∃ f, f = fs[i] := ⟨_, rfl⟩
        rw [← hx] at hN'
        have hdr := List.drop_eq_getElem_cons hlt
        rw [← hx] at hdr
        obtain ⟨fname, fargs, fbody⟩ := f
        have d2 := hN'.d2
        have hB1 := hN'.body
        obtain ⟨a2, c2, e2⟩ := hB1.form
        subst e2
        simp only at d2 hB1
        have hSr := Nat.lt_of_lt_of_le hS (Nat.le_trans HBB.out hb.size)
        have D2 := Lib.hid (And.intro d2 hSr)
        have N2 := Lib.hid hB1
        have HD := Lib.hid (And.intro hd hdr)
        have KB := Lib.hid hb
        have HBr := Lib.hid (Nat.le_trans HBB.out hb.size)
        clear hN hN' hS hx hB1 hd hdr hb hSr
        cases q with
        | true =>
          go_wp2_with fail
          go_roundg (fs.length - (i + 1))
          case measure => omega
          case rel => exact ⟨i + 1, true, hlt, rfl, rfl, by go_num, by rw [Bool.true_or]; have := HD.out.1; rw [Bool.true_or] at this; exact this, KB.out⟩
        | false =>
          obtain ⟨d, hd0⟩ : ∃ d, d = deep wrapI fbody := ⟨_, rfl⟩
          have hdw := deep_wraps fbody
          have HDB := Lib.hid (show Nd.great wrapI fbody = (decide (64 < d) || long fbody) by unfold Nd.great; rw [hd0])
          have HD1 := Lib.hid (rdeep_said tw fbody wr B _ HBr.out N2.out)
          rw [← hd0] at hdw HD1
          clear hd0
          go_wp2_with fail
          refine HD1.out.mono ?_
          rintro e w1 ⟨rfl, hb⟩
          have K := Lib.hid (KB.out.trans (hb.mono KB.out.size))
          have K1 := Lib.hid hb
          obtain ⟨q0, q1⟩ := HXP.out w1 K.out
          have d2 := cell_later K1.out D2.out.2 D2.out.1
          clear hb
          by_cases hg : 64 < d
          · have HG := Lib.hid (show Nd.great wrapI fbody = true by rw [HDB.out]; simp [hg])
            go_wp2_with fail
            go_roundg (fs.length - (i + 1))
            case measure => omega
            case rel =>
              refine ⟨i + 1, true, hlt, rfl, rfl, by go_num, ?_, K.out⟩
              have := HD.out.1
              rw [HD.out.2, Bool.false_or, List.any_cons, HG.out, Bool.true_or] at this
              rw [Bool.true_or]; exact this
          · have hg1 : d ≤ 64 := by omega
            have hg2 : decide (64 < d) = false := by simp; omega
            have HG := Lib.hid (show Nd.great wrapI fbody = long fbody by rw [HDB.out]; simp [hg])
            clear hg
            go_wp2_with fail
            refine (rlong_said tw fbody w1 B _ (Nat.le_trans HBr.out K1.out.size) (N2.out.below (K1.out.mono HBr.out))).mono ?_
            rintro e w2 ⟨rfl, hb⟩
            have K2 := Lib.hid (K.out.trans (hb.mono K.out.size))
            clear hb
            go_wp2_with fail
            go_roundg (fs.length - (i + 1))
            case measure => omega
            case rel =>
              refine ⟨i + 1, long fbody, hlt, rfl, rfl, by go_num, ?_, K2.out⟩
              have := HD.out.1
              rw [HD.out.2, Bool.false_or, List.any_cons, HG.out] at this
              exact this
      · have hie : i = fs.length := by omega
        have i1 : (fs.length : Int) ≤ (i : Int) := by omega
        have HQ := Lib.hid (show q = greatP wrapI p by rw [← hd, hie, List.drop_length]; simp)
        have K := Lib.hid hb
        clear hlt hie hd hb hi
        go_wp2_with fail
        go_ret
        exact ⟨by rw [← HQ.out]; rfl, Y0.out.trans (K.out.mono Y0.out.size)⟩

def RCheckArg (w : World) (fargs : List (List UInt8)) (gk : Nat) (v5 : Value) (wr : World) : Prop :=
  ∃ k : Nat, k ≤ fargs.length ∧ gk = fargs.length - k ∧ v5 = .int .i64 (k : Int) ∧ (fargs.drop k).all To.name = fargs.all To.name ∧ wr = w

set_option maxRecDepth 100000 in
set_option maxHeartbeats 8000000 in
theorem rcheck_t {w : World} {B : Nat} {tw : Bool} {p : Pr} {v1 v2 : Value} (hB : B ≤ w.heap.size) (h1 : FuncsIn w (· < B) tw v1 p.funcs) (h2 : Nodes w (· < B) tw v2 p.body) :
    Calls Tryz.prog 41 #[.agg #[v1, v2]] w fun e w' => e = .returned (.bool (check wrapI p)) ∧ Below w.heap.size w w' := by
  have hA0 := Below.alloc (Below.refl w.heap.size w) (Nat.le_refl _) (.cells #[v1, v2] 25)
  obtain ⟨fs, hfs⟩ : ∃ fs, fs = p.funcs := ⟨_, rfl⟩
  rw [← hfs] at h1
  have HF := Lib.hid hfs.symm
  have H1 := Lib.hid (h1.below (hA0.mono hB))
  have H2 := Lib.hid (h2.below (hA0.mono hB))
  obtain ⟨a0, c0, rfl⟩ := h1.form
  obtain ⟨a9, c9, rfl⟩ := h2.form
  obtain ⟨_, _, ev, _, _, hr, _, hc⟩ := h1.below (hA0.mono hB)
  cases ev
  have HC := Lib.hid hc
  have l0 : (0 : Int) ≤ (fs.length : Int) := by omega
  have l1 : (fs.length : Int) ≤ 140737488351232 := by omega
  obtain ⟨bp, hbp⟩ : ∃ bp, bp = w.heap.size := ⟨_, rfl⟩
  obtain ⟨w0, hw0⟩ : ∃ w0, w0 = w.alloc (.cells #[.slice a0 fs.length c0, .slice a9 p.body.len c9] 25) := ⟨_, rfl⟩
  have hboxp : ∀ w1, Below w0.heap.size w0 w1 → w1.cell? ⟨bp, 0, none⟩ = some (.slice a0 fs.length c0) ∧ w1.cell? ⟨bp, 1, none⟩ = some (.slice a9 p.body.len c9) := by
    intro w1 hb1
    rw [hw0] at hb1
    rw [hbp]
    have q0 := box_later hb1 0
    have q1 := box_later hb1 1
    simp at q0 q1
    exact ⟨q0, q1⟩
  have HXP := Lib.hid hboxp
  rw [← hw0] at H1 H2 HC hA0
  have Y0 := Lib.hid hA0
  have HBB := Lib.hid (Nat.le_trans hB hA0.size)
  clear hboxp hA0 hc hr h1 h2 hfs hB
  go_enter Tryz.func41, Tryz.ntmps41
  go_upto_region 1 with fail
  rw [← hbp, ← hw0]
  clear hbp hw0
  go_wp2_with fail
  go_loopg [3] fs.length (fun gk v3 wr => CheckAt w0 fs gk v3 wr)
  case atStart => exact ⟨0, Nat.zero_le _, rfl, rfl, rfl, Below.refl _ _⟩
  case round =>
    obtain ⟨i, hi, rfl, rfl, hd, hb⟩ := hrel
    have i0 : (0 : Int) ≤ (i : Int) := by omega
    obtain ⟨p0, p1⟩ := HXP.out wr hb
    by_cases hlt : i < fs.length
    · have i1 : (i : Int) < (fs.length : Int) := by omega
      obtain ⟨b, off, v1, v2, rfl, hS, hN⟩ := HC.out i hlt
      have hN' := hN.frame hS fun k hk _ => hb.block k (Nat.lt_of_lt_of_le hk HBB.out)
      obtain ⟨f, hx⟩ : ∃ f, f = fs[i] := ⟨_, rfl⟩
      rw [← hx] at hN'
      have hdr := List.drop_eq_getElem_cons hlt
      rw [← hx] at hdr
      obtain ⟨fname, fargs, fbody⟩ := f
      have d0 := hN'.d0
      have d1 := hN'.d1
      have d2 := hN'.d2
      have ht := hN'.name
      have hA1 := hN'.args
      have hB1 := hN'.body
      obtain ⟨a1, c1, e1⟩ := hA1.form
      obtain ⟨a2, c2, e2⟩ := hB1.form
      subst e1
      subst e2
      simp only at d0 d1 d2 ht hA1 hB1
      have etx : tx fname = bs fname := rfl
      rw [etx] at d0
      have hBr : B ≤ wr.heap.size := Nat.le_trans HBB.out hb.size
      have hA := Below.alloc (Below.refl wr.heap.size wr) (Nat.le_refl _) (.cells #[.string (bs fname), .slice a1 fargs.length c1, .slice a2 fbody.len c2] 57)
      obtain ⟨bx, hbx⟩ : ∃ bx, bx = wr.heap.size := ⟨_, rfl⟩
      obtain ⟨w4, hw4⟩ : ∃ w4, w4 = wr.alloc (.cells #[.string (bs fname), .slice a1 fargs.length c1, .slice a2 fbody.len c2] 57) := ⟨_, rfl⟩
      have hbox : ∀ w1, Below w4.heap.size w4 w1 → w1.cell? ⟨bx, 0, none⟩ = some (.string (bs fname)) ∧ w1.cell? ⟨bx, 1, none⟩ = some (.slice a1 fargs.length c1) ∧ w1.cell? ⟨bx, 2, none⟩ = some (.slice a2 fbody.len c2) := by
        intro w1 hb1
        rw [hw4] at hb1
        rw [hbx]
        have q0 := box_later hb1 0
        have q1 := box_later hb1 1
        have q2 := box_later hb1 2
        simp at q0 q1 q2
        exact ⟨q0, q1, q2⟩
      have hAB := hA.mono hBr
      rw [← hw4] at hA hAB
      have HX := Lib.hid hbox
      have K4 := Lib.hid (hb.trans (hA.mono hb.size))
      have N1 := Lib.hid (hA1.below hAB)
      have N2 := Lib.hid (hB1.below hAB)
      have HDR := Lib.hid hdr
      have HD := Lib.hid hd
      have HBr := Lib.hid (Nat.le_trans hBr hA.size)
      have HT := Lib.hid (show fname.length ≤ 9223372036854775807 by omega)
      clear hN hN' hA hAB hbox hb hd hx hdr hS ht etx hBr hA1 hB1
      go_upto_region 5 with fail
      rw [← hbx, ← hw4]
      clear hbx hw4 d0 d1 d2 p0 p1
      obtain ⟨q0, q1, q2⟩ := HX.out w4 (Below.refl _ _)
      go_wp2_with fail
      refine refname_t fname HT.out ?_
      cases hnm : To.name fname with
      | false =>
        have HN := Lib.hid (check_no HF.out HD.out HDR.out (by unfold fnOne; simp only; rw [hnm]; rfl))
        clear hnm
        go_wp2_with fail
        go_ret
        exact ⟨by rw [HN.out]; rfl, Y0.out.trans (K4.out.mono Y0.out.size)⟩
      | true =>
        have HNM := Lib.hid hnm
        clear hnm
        go_wp2_with fail
        refine (rstmt_said tw true fbody w4 B _ HBr.out N2.out).mono ?_
        rintro e w6 ⟨rfl, hb6⟩
        have K6 := Lib.hid hb6
        obtain ⟨q0, q1, q2⟩ := HX.out w6 K6.out
        clear hb6
        cases hst : stmts true fbody with
        | false =>
          have HN := Lib.hid (check_no HF.out HD.out HDR.out (by unfold fnOne; simp only; rw [hst, Bool.and_false]))
          clear hst
          go_wp2_with fail
          go_ret
          exact ⟨by rw [HN.out]; rfl, Y0.out.trans ((K4.out.trans (K6.out.mono K4.out.size)).mono Y0.out.size)⟩
        | true =>
          have HST := Lib.hid hst
          clear hst
          obtain ⟨_, _, ev, _, _, hr2, _, hc2⟩ := N1.out.below (K6.out.mono HBr.out)
          cases ev
          have HC2 := Lib.hid hc2
          have m0 : (0 : Int) ≤ (fargs.length : Int) := by omega
          have m1 : (fargs.length : Int) ≤ 140737488351232 := by omega
          clear hc2 hr2
          go_wp2_with fail
          have KW := Lib.hid (K4.out.trans (K6.out.mono K4.out.size))
          go_loopg [5] fargs.length (fun gk v5 wx => RCheckArg w6 fargs gk v5 wx)
          case atStart => exact ⟨0, Nat.zero_le _, rfl, rfl, rfl, rfl⟩
          case round =>
            obtain ⟨k, hk, rfl, rfl, hdk, hwk⟩ := hrel
            subst hwk
            have k0 : (0 : Int) ≤ (k : Int) := by omega
            by_cases hlk : k < fargs.length
            · have k1 : (k : Int) < (fargs.length : Int) := by omega
              obtain ⟨b3, off3, ea, _, hN3, hl3⟩ := HC2.out k hlk
              subst ea
              obtain ⟨x, hx⟩ : ∃ x, x = fargs[k] := ⟨_, rfl⟩
              rw [← hx] at hN3 hl3
              have etx : tx x = bs x := rfl
              rw [etx] at hN3
              have hdr := List.drop_eq_getElem_cons hlk
              rw [← hx] at hdr
              have HDK := Lib.hid (And.intro hdk hdr)
              have HL3 := Lib.hid (show x.length ≤ 9223372036854775807 by omega)
              clear hx hdr hdk hl3 etx
              go_wp2_with fail
              refine refname_t x HL3.out ?_
              cases hnx : To.name x with
              | false =>
                have HNA := Lib.hid (show fargs.all To.name = false by rw [← HDK.out.1, HDK.out.2, List.all_cons, hnx]; rfl)
                have HN := Lib.hid (check_no HF.out HD.out HDR.out (by unfold fnOne; simp only; rw [HNA.out, Bool.and_false]; rfl))
                clear hnx
                go_wp2_with fail
                go_ret
                exact ⟨by rw [HN.out]; rfl, Y0.out.trans (KW.out.mono Y0.out.size)⟩
              | true =>
                have HNX := Lib.hid hnx
                clear hnx
                go_wp2_with fail
                go_roundg (fargs.length - (k + 1))
                case measure => omega
                case rel =>
                  refine ⟨k + 1, hlk, rfl, by go_num, ?_, rfl⟩
                  have := HDK.out.1
                  rw [HDK.out.2, List.all_cons, HNX.out, Bool.true_and] at this
                  exact this
            · have hke : k = fargs.length := by omega
              have k1 : (fargs.length : Int) ≤ (k : Int) := by omega
              have HNA := Lib.hid (show fargs.all To.name = true by rw [← hdk, hke, List.drop_length]; rfl)
              clear hlk hke hdk hk
              go_wp2_with fail
              go_roundg (fs.length - (i + 1))
              case measure => omega
              case rel =>
                refine ⟨i + 1, hlt, rfl, by go_num, ?_, KW.out⟩
                have hd := HD.out
                rw [HDR.out, List.all_cons, show fnOne ⟨fname, fargs, fbody⟩ = true by unfold fnOne; simp only; rw [HNM.out, HNA.out, HST.out]; rfl, Bool.true_and] at hd
                exact hd
    · have hie : i = fs.length := by omega
      have i1 : (fs.length : Int) ≤ (i : Int) := by omega
      have HALL := Lib.hid (show p.funcs.all fnOne = true by rw [HF.out, ← hd, hie, List.drop_length]; rfl)
      have K := Lib.hid hb
      clear hlt hie hd hb hi
      go_wp2_with fail
      refine (rstmt_said tw false p.body wr B _ (Nat.le_trans HBB.out K.out.size) (H2.out.below (K.out.mono HBB.out))).mono ?_
      rintro e w7 ⟨rfl, hb7⟩
      have K7 := Lib.hid (K.out.trans (hb7.mono K.out.size))
      clear hb7
      obtain ⟨q0, q1⟩ := HXP.out w7 K7.out
      cases hst : stmts false p.body with
      | false =>
        have HN := Lib.hid (show check wrapI p = false by rw [check_is, hst, Bool.and_false]; rfl)
        clear hst
        go_wp2_with fail
        go_ret
        exact ⟨by rw [HN.out]; rfl, Y0.out.trans (K7.out.mono Y0.out.size)⟩
      | true =>
        have HN := Lib.hid (show check wrapI p = !greatP wrapI p by rw [check_is, hst, HALL.out]; rfl)
        have h1' := H1.out.below (K7.out.mono HBB.out)
        rw [← HF.out] at h1'
        have G := Lib.hid (rgreat_t (p := p) (Nat.le_trans HBB.out K7.out.size) h1' (H2.out.below (K7.out.mono HBB.out)))
        rw [show p.funcs.length = fs.length by rw [HF.out]] at *
        clear hst h1'
        go_wp2_with fail
        refine G.out.mono ?_
        rintro e w8 ⟨rfl, hb8⟩
        have K8 := Lib.hid (K7.out.trans (hb8.mono K7.out.size))
        clear hb8
        go_wp2_with fail
        go_ret
        exact ⟨by rw [HN.out]; rfl, Y0.out.trans (K8.out.mono Y0.out.size)⟩
end Go.Proofs.YtmkhfonafcikdaaGreatDoor

/- Trees: how great programs are (only that it is told). -/
namespace Go.Proofs.YtmkhfonafcikdaaGreatDoor
open Go.RowKit Go.My Go.Nd

def Told1 (w : World) (e : Ending) (w' : World) : Prop := ∃ n : Int, e = .returned (.int .i64 n) ∧ Below w.heap.size w w'

def SizeSaid (tw : Bool) (x : Ns) : Prop := ∀ (w : World) (B : Nat) (v : Value), B ≤ w.heap.size → Nodes w (· < B) tw v x → Calls Tryz.prog 29 #[v] w (Told1 w)

def CutN (w : World) (v3 : Value) (wx : World) : Prop := ∃ n : Int, v3 = .int .i64 n ∧ Below w.heap.size w wx


set_option maxRecDepth 100000 in
set_option maxHeartbeats 4000000 in
theorem size_one {tw : Bool} {B : Nat} {x : Nd} (h1 : SizeSaid tw x.l) (h2 : SizeSaid tw x.body) (h3 : SizeSaid tw x.els) {w : World} {a1 a2 a3 : Option Addr} {c1 c2 c3 : Nat} (hB : B ≤ w.heap.size)
    (n1 : Nodes w (· < B) tw (.slice a1 x.l.len c1) x.l) (n2 : Nodes w (· < B) tw (.slice a2 x.body.len c2) x.body) (n3 : Nodes w (· < B) tw (.slice a3 x.els.len c3) x.els) (ht : x.text.length ≤ 140737488351232) :
    Calls Tryz.prog 95 #[.agg #[.int .u8 (x.kind : Int), .string (tx x.text), .slice a1 x.l.len c1, .slice a2 x.body.len c2, .slice a3 x.els.len c3]] w (Told1 w) := by
  obtain ⟨kd, tt, xl, xb, xe⟩ := x
  simp only at *
  have hA := Below.alloc (Below.refl w.heap.size w) (Nat.le_refl _) (.cells #[.int .u8 (kd : Int), .string (tx tt), .slice a1 xl.len c1, .slice a2 xb.len c2, .slice a3 xe.len c3] 61)
  obtain ⟨bx, hbx⟩ : ∃ bx, bx = w.heap.size := ⟨_, rfl⟩
  obtain ⟨w0, hw0⟩ : ∃ w0, w0 = w.alloc (.cells #[.int .u8 (kd : Int), .string (tx tt), .slice a1 xl.len c1, .slice a2 xb.len c2, .slice a3 xe.len c3] 61) := ⟨_, rfl⟩
  have hbox : ∀ w1, Below w0.heap.size w0 w1 → w1.cell? ⟨bx, 2, none⟩ = some (.slice a1 xl.len c1) ∧ w1.cell? ⟨bx, 3, none⟩ = some (.slice a2 xb.len c2) ∧ w1.cell? ⟨bx, 4, none⟩ = some (.slice a3 xe.len c3) := by
    intro w1 hb1
    rw [hw0] at hb1
    rw [hbx]
    have q2 := box_later hb1 2
    have q3 := box_later hb1 3
    have q4 := box_later hb1 4
    simp at q2 q3 q4
    exact ⟨q2, q3, q4⟩
  rw [← hw0] at hA
  have HX := Lib.hid hbox
  have Y0 := Lib.hid hA
  have H1 := Lib.hid h1
  have H2 := Lib.hid h2
  have H3 := Lib.hid h3
  have N1 := Lib.hid (n1.below (hA.mono hB))
  have N2 := Lib.hid (n2.below (hA.mono hB))
  have N3 := Lib.hid (n3.below (hA.mono hB))
  have HBB := Lib.hid (Nat.le_trans hB hA.size)
  have ts := tx_size tt
  have t0 : (0 : Int) ≤ (tt.length : Int) := by omega
  have t1 : (tt.length : Int) ≤ 140737488351232 := by omega
  clear hbox hA h1 h2 h3 n1 n2 n3 hB ht
  go_enter Tryz.func95, Tryz.ntmps95
  go_upto_if 9 with fail
  rw [← hbx, ← hw0]
  clear hbx hw0
  go_cut [3] (fun v3 wx => CutN w0 v3 wx)
  case first =>
    by_cases hm : (1 : Int) + (tt.length : Int) ≤ 1048576
    · obtain ⟨q2, q3, q4⟩ := HX.out w0 (Below.refl _ _)
      go_wp2_with fail
      refine (H1.out w0 B _ HBB.out N1.out).mono ?_
      rintro e w1 ⟨m, rfl, hb⟩
      have K := Lib.hid hb
      clear hb
      obtain ⟨r, hr⟩ : ∃ r, IntKind.i64.wrap ((1 : Int) + (tt.length : Int) + m) = r := ⟨_, rfl⟩
      go_wp2_with fail
      go_meet
      case rel => exact ⟨_, rfl, K.out⟩
    · have hm2 : (1048576 : Int) < (1 : Int) + (tt.length : Int) := by omega
      clear hm
      go_wp2_with fail
      go_meet
      case rel => exact ⟨_, rfl, Below.refl _ _⟩
  case rest =>
    obtain ⟨n, rfl, hb⟩ := hcut
    have K := Lib.hid hb
    obtain ⟨q2, q3, q4⟩ := HX.out wc hb
    clear hb
    go_upto_if 16 with fail
    go_cut [3] (fun v3 wx => CutN w0 v3 wx)
    case first =>
      by_cases hm : n ≤ 1048576
      · go_wp2_with fail
        refine (H2.out wc B _ (Nat.le_trans HBB.out K.out.size) (N2.out.below (K.out.mono HBB.out))).mono ?_
        rintro e w1 ⟨m, rfl, hb⟩
        have K2 := Lib.hid (K.out.trans (hb.mono K.out.size))
        clear hb
        obtain ⟨r, hr⟩ : ∃ r, IntKind.i64.wrap (n + m) = r := ⟨_, rfl⟩
        go_wp2_with fail
        go_meet
        case rel => exact ⟨_, rfl, K2.out⟩
      · have hm2 : (1048576 : Int) < n := by omega
        clear hm
        go_wp2_with fail
        go_meet
        case rel => exact ⟨_, rfl, K.out⟩
    case rest =>
      clear q2 q3 q4
      obtain ⟨n3, rfl, hb3⟩ := hcut
      have K3 := Lib.hid hb3
      obtain ⟨q2, q3, q4⟩ := HX.out wc hb3
      clear hb3
      go_upto_if 23 with fail
      go_cut [3] (fun v3 wx => CutN w0 v3 wx)
      case first =>
        by_cases hm : n3 ≤ 1048576
        · go_wp2_with fail
          refine (H3.out wc B _ (Nat.le_trans HBB.out K3.out.size) (N3.out.below (K3.out.mono HBB.out))).mono ?_
          rintro e w1 ⟨m, rfl, hb⟩
          have K2 := Lib.hid (K3.out.trans (hb.mono K3.out.size))
          clear hb
          obtain ⟨r, hr⟩ : ∃ r, IntKind.i64.wrap (n3 + m) = r := ⟨_, rfl⟩
          go_wp2_with fail
          go_meet
          case rel => exact ⟨_, rfl, K2.out⟩
        · have hm2 : (1048576 : Int) < n3 := by omega
          clear hm
          go_wp2_with fail
          go_meet
          case rel => exact ⟨_, rfl, K3.out⟩
      case rest =>
        clear q2 q3 q4
        obtain ⟨n4, rfl, hb4⟩ := hcut
        have K4 := Lib.hid hb4
        clear hb4
        go_wp2_with fail
        go_ret
        exact ⟨n4, rfl, Y0.out.trans (K4.out.mono Y0.out.size)⟩

def SizeAt (w : World) (m : Nat) (gk : Nat) (v3 v4 : Value) (wr : World) : Prop :=
  ∃ (i : Nat) (n : Int), i ≤ m ∧ gk = m - i ∧ v3 = .int .i64 n ∧ v4 = .int .i64 (i : Int) ∧ Below w.heap.size w wr

set_option maxRecDepth 100000 in
set_option maxHeartbeats 4000000 in
theorem size_said (tw : Bool) : ∀ xs, SizeSaid tw xs := by
  refine Ns.each fun xs ih w B v hB hv => ?_
  obtain ⟨a, c, rfl, hr, hc⟩ := hv.open_
  have HI := Lib.hid ih
  have HC := Lib.hid hc
  have HBB := Lib.hid hB
  have l0 : (0 : Int) ≤ (xs.items.length : Int) := by omega
  have l1 : (xs.items.length : Int) ≤ 140737488351232 := by have := hr.2.2.1; omega
  clear ih hv hc hr hB
  go_enter Tryz.func29, Tryz.ntmps29
  go_wp2_with fail
  go_loopg [3, 4] xs.items.length (fun gk v3 v4 wr => SizeAt w xs.items.length gk v3 v4 wr)
  case atStart => exact ⟨0, _, Nat.zero_le _, rfl, rfl, rfl, Below.refl _ _⟩
  case round =>
    obtain ⟨i, n, hi, rfl, rfl, rfl, hb⟩ := hrel
    have i0 : (0 : Int) ≤ (i : Int) := by omega
    have K := Lib.hid hb
    by_cases hlt : i < xs.items.length
    · have i1 : (i : Int) < (xs.items.length : Int) := by omega
      by_cases hm : n ≤ 1048576
      · obtain ⟨b, off, v1, v2, v3, rfl, hS, hN⟩ := HC.out i hlt
        have hN' := hN.frame hS fun k hk _ => hb.block k (Nat.lt_of_lt_of_le hk HBB.out)
        obtain ⟨x, hx⟩ : ∃ x, x = xs.items[i] := ⟨_, rfl⟩
        rw [← hx] at hN'
        have hI := HI.out _ (List.getElem_mem hlt)
        rw [← hx] at hI
        obtain ⟨kd, tt, xl, xb, xe⟩ := x
        have d0 := hN'.d0
        have d1 := hN'.d1
        have d2 := hN'.d2
        have d3 := hN'.d3
        have d4 := hN'.d4
        obtain ⟨a1, c1, e1⟩ := hN'.l.form
        obtain ⟨a2, c2, e2⟩ := hN'.body.form
        obtain ⟨a3, c3, e3⟩ := hN'.els.form
        subst e1 e2 e3
        simp only at d0 d1 d2 d3 d4
        have C := Lib.hid (size_one (x := ⟨kd, tt, xl, xb, xe⟩) hI.1 hI.2.1 hI.2.2 (Nat.le_trans HBB.out hb.size) hN'.l hN'.body hN'.els hN'.text)
        clear hN hN' hx hI hS hb
        go_wp2_with fail
        refine C.out.mono ?_
        rintro e w1 ⟨m, rfl, hb1⟩
        have K1 := Lib.hid (K.out.trans (hb1.mono K.out.size))
        clear hb1
        obtain ⟨r, hr⟩ : ∃ r, IntKind.i64.wrap (n + m) = r := ⟨_, rfl⟩
        go_wp2_with fail
        go_roundg (xs.items.length - (i + 1))
        case measure => omega
        case rel => exact ⟨i + 1, _, hlt, rfl, rfl, by go_num, K1.out⟩
      · have hm2 : (1048576 : Int) < n := by omega
        clear hm hb
        go_wp2_with fail
        go_ret
        exact ⟨n, rfl, K.out⟩
    · have i1 : (xs.items.length : Int) ≤ (i : Int) := by omega
      clear hlt hb hi
      go_wp2_with fail
      go_ret
      exact ⟨n, rfl, K.out⟩
end Go.Proofs.YtmkhfonafcikdaaGreatDoor

/- Trees: how great programs are: texts, functions, programs. -/
namespace Go.Proofs.YtmkhfonafcikdaaGreatDoor
open Go.RowKit Go.My Go.Nd

set_option maxRecDepth 100000 in
set_option maxHeartbeats 4000000 in
theorem textsSize_t {w : World} {B : Nat} {tw : Bool} {v : Value} {ts : List (List UInt8)} (hB : B ≤ w.heap.size) (hv : TextsIn w (· < B) tw v ts) : Calls Tryz.prog 146 #[v] w (Told1 w) := by
  obtain ⟨a, c, rfl, _, _, hr, _, hc⟩ := hv
  have HC := Lib.hid hc
  have HBB := Lib.hid hB
  have l0 : (0 : Int) ≤ (ts.length : Int) := by omega
  have l1 : (ts.length : Int) ≤ 140737488351232 := by omega
  clear hc hr hB
  go_enter Tryz.func146, Tryz.ntmps146
  go_wp2_with fail
  go_loopg [3, 4] ts.length (fun gk v3 v4 wr => SizeAt w ts.length gk v3 v4 wr)
  case atStart => exact ⟨0, _, Nat.zero_le _, rfl, rfl, rfl, Below.refl _ _⟩
  case round =>
    obtain ⟨i, n, hi, rfl, rfl, rfl, hb⟩ := hrel
    have i0 : (0 : Int) ≤ (i : Int) := by omega
    have K := Lib.hid hb
    by_cases hlt : i < ts.length
    · have i1 : (i : Int) < (ts.length : Int) := by omega
      by_cases hm : n ≤ 1048576
      · obtain ⟨b, off, ea, hS, hN, hl⟩ := HC.out i hlt
        subst ea
        have d0 := (World.cell?_of_block (hb.block b (Nat.lt_of_lt_of_le hS HBB.out))).trans hN
        have tsz := tx_size ts[i]
        obtain ⟨x, hx⟩ : ∃ x, x = ts[i] := ⟨_, rfl⟩
        rw [← hx] at d0 hl tsz
        obtain ⟨r, hr⟩ : ∃ r, IntKind.i64.wrap (n + (x.length : Int)) = r := ⟨_, rfl⟩
        have x1 : (x.length : Int) ≤ 140737488351232 := by omega
        clear hN hS hx hb hl
        go_wp2_with fail
        go_roundg (ts.length - (i + 1))
        case measure => omega
        case rel => exact ⟨i + 1, _, hlt, rfl, rfl, by go_num, K.out⟩
      · have hm2 : (1048576 : Int) < n := by omega
        clear hm hb
        go_wp2_with fail
        go_ret
        exact ⟨n, rfl, K.out⟩
    · have i1 : (ts.length : Int) ≤ (i : Int) := by omega
      clear hlt hb hi
      go_wp2_with fail
      go_ret
      exact ⟨n, rfl, K.out⟩

set_option maxRecDepth 100000 in
set_option maxHeartbeats 4000000 in
theorem funcSize_t {w : World} {B : Nat} {tw : Bool} {nm : List UInt8} {v1 v2 : Value} {ts : List (List UInt8)} {x : Ns} (hB : B ≤ w.heap.size) (hn : nm.length ≤ 140737488351232) (h1 : TextsIn w (· < B) tw v1 ts) (h2 : Nodes w (· < B) tw v2 x) :
    Calls Tryz.prog 94 #[.agg #[.string (tx nm), v1, v2]] w (Told1 w) := by
  have hA := Below.alloc (Below.refl w.heap.size w) (Nat.le_refl _) (.cells #[.string (tx nm), v1, v2] 57)
  obtain ⟨bx, hbx⟩ : ∃ bx, bx = w.heap.size := ⟨_, rfl⟩
  obtain ⟨w0, hw0⟩ : ∃ w0, w0 = w.alloc (.cells #[.string (tx nm), v1, v2] 57) := ⟨_, rfl⟩
  have hbox : ∀ w1, Below w0.heap.size w0 w1 → w1.cell? ⟨bx, 1, none⟩ = some v1 ∧ w1.cell? ⟨bx, 2, none⟩ = some v2 := by
    intro w1 hb1
    rw [hw0] at hb1
    rw [hbx]
    have q2 := box_later hb1 1
    have q3 := box_later hb1 2
    simp at q2 q3
    exact ⟨q2, q3⟩
  rw [← hw0] at hA
  have HX := Lib.hid hbox
  have Y0 := Lib.hid hA
  have N1 := Lib.hid (h1.below (hA.mono hB))
  have N2 := Lib.hid (h2.below (hA.mono hB))
  have HBB := Lib.hid (Nat.le_trans hB hA.size)
  have ts0 := tx_size nm
  have t0 : (0 : Int) ≤ (nm.length : Int) := by omega
  have t1 : (nm.length : Int) ≤ 140737488351232 := by omega
  obtain ⟨a1, c1, rfl⟩ := h1.form
  obtain ⟨a2, c2, rfl⟩ := h2.form
  clear hbox hA h1 h2 hB hn
  go_enter Tryz.func94, Tryz.ntmps94
  go_upto_if 9 with fail
  rw [← hbx, ← hw0]
  clear hbx hw0
  go_cut [3] (fun v3 wx => CutN w0 v3 wx)
  case first =>
    by_cases hm : (1 : Int) + (nm.length : Int) ≤ 1048576
    · obtain ⟨q2, q3⟩ := HX.out w0 (Below.refl _ _)
      go_wp2_with fail
      refine (textsSize_t HBB.out N1.out).mono ?_
      rintro e w1 ⟨m, rfl, hb⟩
      have K := Lib.hid hb
      clear hb
      obtain ⟨r, hr⟩ : ∃ r, IntKind.i64.wrap ((1 : Int) + (nm.length : Int) + m) = r := ⟨_, rfl⟩
      go_wp2_with fail
      go_meet
      case rel => exact ⟨_, rfl, K.out⟩
    · have hm2 : (1048576 : Int) < (1 : Int) + (nm.length : Int) := by omega
      clear hm
      go_wp2_with fail
      go_meet
      case rel => exact ⟨_, rfl, Below.refl _ _⟩
  case rest =>
    obtain ⟨n, rfl, hb⟩ := hcut
    have K := Lib.hid hb
    obtain ⟨q2, q3⟩ := HX.out wc hb
    clear hb
    go_upto_if 16 with fail
    go_cut [3] (fun v3 wx => CutN w0 v3 wx)
    case first =>
      by_cases hm : n ≤ 1048576
      · go_wp2_with fail
        refine (size_said tw x wc B _ (Nat.le_trans HBB.out K.out.size) (N2.out.below (K.out.mono HBB.out))).mono ?_
        rintro e w1 ⟨m, rfl, hb⟩
        have K2 := Lib.hid (K.out.trans (hb.mono K.out.size))
        clear hb
        obtain ⟨r, hr⟩ : ∃ r, IntKind.i64.wrap (n + m) = r := ⟨_, rfl⟩
        go_wp2_with fail
        go_meet
        case rel => exact ⟨_, rfl, K2.out⟩
      · have hm2 : (1048576 : Int) < n := by omega
        clear hm
        go_wp2_with fail
        go_meet
        case rel => exact ⟨_, rfl, K.out⟩
    case rest =>
      clear q2 q3
      obtain ⟨n4, rfl, hb4⟩ := hcut
      have K4 := Lib.hid hb4
      clear hb4
      go_wp2_with fail
      go_ret
      exact ⟨n4, rfl, Y0.out.trans (K4.out.mono Y0.out.size)⟩

set_option maxRecDepth 100000 in
set_option maxHeartbeats 4000000 in
theorem funcsSize_t {w : World} {B : Nat} {tw : Bool} {v : Value} {fs : List Nd.Fn} (hB : B ≤ w.heap.size) (hv : FuncsIn w (· < B) tw v fs) : Calls Tryz.prog 28 #[v] w (Told1 w) := by
  obtain ⟨a, c, rfl, _, _, hr, _, hc⟩ := hv
  have HC := Lib.hid hc
  have HBB := Lib.hid hB
  have l0 : (0 : Int) ≤ (fs.length : Int) := by omega
  have l1 : (fs.length : Int) ≤ 140737488351232 := by omega
  clear hc hr hB
  go_enter Tryz.func28, Tryz.ntmps28
  go_wp2_with fail
  go_loopg [3, 4] fs.length (fun gk v3 v4 wr => SizeAt w fs.length gk v3 v4 wr)
  case atStart => exact ⟨0, _, Nat.zero_le _, rfl, rfl, rfl, Below.refl _ _⟩
  case round =>
    obtain ⟨i, n, hi, rfl, rfl, rfl, hb⟩ := hrel
    have i0 : (0 : Int) ≤ (i : Int) := by omega
    have K := Lib.hid hb
    by_cases hlt : i < fs.length
    · have i1 : (i : Int) < (fs.length : Int) := by omega
      by_cases hm : n ≤ 1048576
      · obtain ⟨b, off, v1, v2, rfl, hS, hN⟩ := HC.out i hlt
        have hN' := hN.frame hS fun k hk _ => hb.block k (Nat.lt_of_lt_of_le hk HBB.out)
        obtain ⟨f, hx⟩ : ∃ f, f = fs[i] := ⟨_, rfl⟩
        rw [← hx] at hN'
        obtain ⟨fname, fargs, fbody⟩ := f
        have d0 := hN'.d0
        have d1 := hN'.d1
        have d2 := hN'.d2
        have C := Lib.hid (funcSize_t (Nat.le_trans HBB.out hb.size) hN'.name hN'.args hN'.body)
        obtain ⟨a1, c1, e1⟩ := hN'.args.form
        obtain ⟨a2, c2, e2⟩ := hN'.body.form
        subst e1
        subst e2
        simp only at d0 d1 d2
        clear hN hN' hx hS hb
        go_wp2_with fail
        refine C.out.mono ?_
        rintro e w1 ⟨m, rfl, hb1⟩
        have K1 := Lib.hid (K.out.trans (hb1.mono K.out.size))
        clear hb1
        obtain ⟨r, hr⟩ : ∃ r, IntKind.i64.wrap (n + m) = r := ⟨_, rfl⟩
        go_wp2_with fail
        go_roundg (fs.length - (i + 1))
        case measure => omega
        case rel => exact ⟨i + 1, _, hlt, rfl, rfl, by go_num, K1.out⟩
      · have hm2 : (1048576 : Int) < n := by omega
        clear hm hb
        go_wp2_with fail
        go_ret
        exact ⟨n, rfl, K.out⟩
    · have i1 : (fs.length : Int) ≤ (i : Int) := by omega
      clear hlt hb hi
      go_wp2_with fail
      go_ret
      exact ⟨n, rfl, K.out⟩

set_option maxRecDepth 100000 in
set_option maxHeartbeats 4000000 in
theorem progSize_t {w : World} {B : Nat} {tw : Bool} {p : Pr} {v1 v2 : Value} (hB : B ≤ w.heap.size) (h1 : FuncsIn w (· < B) tw v1 p.funcs) (h2 : Nodes w (· < B) tw v2 p.body) :
    Calls Tryz.prog 10 #[.agg #[v1, v2]] w (Told1 w) := by
  have hA := Below.alloc (Below.refl w.heap.size w) (Nat.le_refl _) (.cells #[v1, v2] 25)
  obtain ⟨bx, hbx⟩ : ∃ bx, bx = w.heap.size := ⟨_, rfl⟩
  obtain ⟨w0, hw0⟩ : ∃ w0, w0 = w.alloc (.cells #[v1, v2] 25) := ⟨_, rfl⟩
  have hbox : ∀ w1, Below w0.heap.size w0 w1 → w1.cell? ⟨bx, 0, none⟩ = some v1 ∧ w1.cell? ⟨bx, 1, none⟩ = some v2 := by
    intro w1 hb1
    rw [hw0] at hb1
    rw [hbx]
    have q2 := box_later hb1 0
    have q3 := box_later hb1 1
    simp at q2 q3
    exact ⟨q2, q3⟩
  rw [← hw0] at hA
  have HX := Lib.hid hbox
  have Y0 := Lib.hid hA
  have N1 := Lib.hid (h1.below (hA.mono hB))
  have N2 := Lib.hid (h2.below (hA.mono hB))
  have HBB := Lib.hid (Nat.le_trans hB hA.size)
  obtain ⟨a1, c1, rfl⟩ := h1.form
  obtain ⟨a2, c2, rfl⟩ := h2.form
  clear hbox hA h1 h2 hB
  go_enter Tryz.func10, Tryz.ntmps10
  go_upto_region 1 with fail
  rw [← hbx, ← hw0]
  clear hbx hw0
  obtain ⟨q2, q3⟩ := HX.out w0 (Below.refl _ _)
  go_wp2_with fail
  refine (funcsSize_t HBB.out N1.out).mono ?_
  rintro e w1 ⟨m, rfl, hb⟩
  have K := Lib.hid hb
  clear q2 q3
  obtain ⟨q2, q3⟩ := HX.out w1 hb
  clear hb
  obtain ⟨n, hr⟩ : ∃ r, IntKind.i64.wrap ((1 : Int) + m) = r := ⟨_, rfl⟩
  by_cases hm : n ≤ 1048576
  · go_wp2_with fail
    refine (size_said tw p.body w1 B _ (Nat.le_trans HBB.out K.out.size) (N2.out.below (K.out.mono HBB.out))).mono ?_
    rintro e w2 ⟨m2, rfl, hb⟩
    have K2 := Lib.hid (K.out.trans (hb.mono K.out.size))
    clear hb
    obtain ⟨r, hr2⟩ : ∃ r, IntKind.i64.wrap (n + m2) = r := ⟨_, rfl⟩
    go_wp2_with fail
    go_ret
    exact ⟨_, rfl, Y0.out.trans (K2.out.mono Y0.out.size)⟩
  · have hm2 : (1048576 : Int) < n := by omega
    clear hm
    go_wp2_with fail
    go_ret
    exact ⟨_, rfl, Y0.out.trans (K.out.mono Y0.out.size)⟩
end Go.Proofs.YtmkhfonafcikdaaGreatDoor

/- Nodes, texts, functions in memory: marks behind lists forgotten (as ShLit has it, for seats without shows). No program in sight. -/
namespace Go.My
open Go.RowKit Go.Nd

theorem Room.untw {tw : Bool} {n c : Nat} (h : Room tw n c) : Room false n c := ⟨h.1, h.2.1, h.2.2.1, fun e => by cases e⟩
theorem NodesAt.untw {w : World} {S : Nat → Prop} {tw : Bool} {a : Option Addr} {xs : Ns} (h : NodesAt w S tw a xs) : NodesAt w S false a xs := by
  induction h with
  | nil a h => exact .nil a fun e => by cases e
  | cons hS hk ht d0 d1 d2 d3 d4 r1 r2 r3 _ _ _ _ i1 i2 i3 i4 => exact .cons hS hk ht d0 d1 d2 d3 d4 r1.untw r2.untw r3.untw i1 i2 i3 i4
theorem Nodes.untw {w : World} {S : Nat → Prop} {tw : Bool} {v : Value} {xs : Ns} (h : Nodes w S tw v xs) : Nodes w S false v xs := by
  obtain ⟨a, c, h1, h2, h3⟩ := h; exact ⟨a, c, h1, h2.untw, h3.untw⟩
theorem TextsIn.untw {w : World} {S : Nat → Prop} {tw : Bool} {v : Value} {ts : List (List UInt8)} (h : TextsIn w S tw v ts) : TextsIn w S false v ts := by
  obtain ⟨a, c, h1, h2, h3, h4, h5, h6⟩ := h
  exact ⟨a, c, h1, h2, h3, h4, (fun e => by cases e), h6⟩
theorem FuncsIn.untw {w : World} {S : Nat → Prop} {tw : Bool} {v : Value} {fs : List Nd.Fn} (h : FuncsIn w S tw v fs) : FuncsIn w S false v fs := by
  obtain ⟨a, c, h1, h2, h3, h4, h5, h6⟩ := h
  refine ⟨a, c, h1, h2, h3, h4, (fun e => by cases e), fun i hi => ?_⟩
  obtain ⟨b, off, v1, v2, k1, k2, k3⟩ := h6 i hi
  exact ⟨b, off, v1, v2, k1, k2, ⟨k3.name, k3.d0, k3.d1, k3.d2, k3.args.untw, k3.body.untw⟩⟩
end Go.My

/- A map with keys of an integer kind that the call itself keeps in one block: what it holds, as a function of the key; its elements stay values. No program in sight. -/
namespace Go.My
open Go.RowKit Go.Maps

/-- An element stays the value that it is: a datum that no other value has. -/
def selfElem (v : Value) : Option (DataW Value × List MemPlace) := some (.held v, [])

/-- Block b is a map, of n entries at most, that holds at each key what f says. -/
def MapIs (P : Program) (k : TypeId) (q : IntKind) (w : World) (b n : Nat) (f : Int → Option Value) : Prop :=
  ∃ D : DataW Value, w.ownsMap P k selfElem b n D ∧ IsMap D ∧ ∀ i : Int, (Lit.int q i).wf = true → (has D (.int q i) = (f i).isSome ∧ ∀ u, f i = some u → ∀ z, D.atKey (.int q i) z = .held u)

section
variable {P : Program} {k : TypeId} {q : IntKind} {w : World} {b n : Nat} {f : Int → Option Value}

theorem MapIs.made (w : World) (P : Program) (k : TypeId) (q : IntKind) : MapIs P k q (w.alloc (.map #[] 0)) w.heap.size 0 (fun _ => none) :=
  ⟨.map [], World.ownsMap_made w P k selfElem, isMap_empty, fun i _ => ⟨rfl, fun u h => by cases h⟩⟩

theorem MapIs.lt (h : MapIs P k q w b n f) : b < w.heap.size := by obtain ⟨D, h, _⟩ := h; exact h.lt

theorem MapIs.mono (h : MapIs P k q w b n f) {m : Nat} (hm : n ≤ m) : MapIs P k q w b m f := by obtain ⟨D, h, r⟩ := h; exact ⟨D, h.mono hm, r⟩

theorem MapIs.frame {w' : World} (h : MapIs P k q w b n f) (hb : w'.heap[b]? = w.heap[b]?) : MapIs P k q w' b n f := by
  obtain ⟨D, ⟨es, clock, h1, h2⟩, r⟩ := h
  exact ⟨D, ⟨es, clock, hb.trans h1, h2⟩, r⟩

/-- 'v, ok := m[k]', where it is. -/
theorem MapIs.look_some {t e : TypeId} (h : MapIs P k q w b n f) (hk : P.underlying k = some (.int q)) (ht : P.underlying t = some (.map k e)) {z : Value} (hz : (zeroValue e).run P w = .ok z w) {i : Int} (hi : (Lit.int q i).wf = true) {u : Value} (hu : f i = some u) :
    (Instr.lookup t (.map (some b)) (.int q i) true).run P w = .ok (.tuple #[u, .bool true]) w := by
  obtain ⟨D, h, hm, hf⟩ := h
  obtain ⟨h1, h2⟩ := hf i hi
  obtain ⟨v, ps, hrun, hv⟩ := h.look_ok (R := selfElem) (int_keyed hk) ht hz (zd := .held z) (zp := []) rfl (keyOf_int_mk hk hi)
  rw [h1, hu] at hrun
  rw [h2 u hu] at hv
  simp only [selfElem, Option.some.injEq, Prod.mk.injEq, DataW.held.injEq] at hv
  rw [hv.1] at hrun
  exact hrun

/-- .. and where it is not. -/
theorem MapIs.look_none {t e : TypeId} (h : MapIs P k q w b n f) (hk : P.underlying k = some (.int q)) (ht : P.underlying t = some (.map k e)) {z : Value} (hz : (zeroValue e).run P w = .ok z w) {i : Int} (hi : (Lit.int q i).wf = true) (hu : f i = none) :
    (Instr.lookup t (.map (some b)) (.int q i) true).run P w = .ok (.tuple #[z, .bool false]) w := by
  obtain ⟨D, h, hm, hf⟩ := h
  obtain ⟨h1, h2⟩ := hf i hi
  obtain ⟨v, ps, hrun, hv⟩ := h.look_ok (R := selfElem) (int_keyed hk) ht hz (zd := .held z) (zp := []) rfl (keyOf_int_mk hk hi)
  rw [h1, hu] at hrun
  rw [atKey_of_not_has (by rw [h1, hu]; rfl)] at hv
  simp only [selfElem, Option.some.injEq, Prod.mk.injEq, DataW.held.injEq] at hv
  rw [hv.1] at hrun
  exact hrun

theorem lit_ne {q : IntKind} {i j : Int} (h : i ≠ j) : (Lit.int q i) ≠ (Lit.int q j) := fun e => h (by cases e; rfl)

/-- 'm[k] = v'. -/
theorem MapIs.store {t e : TypeId} (h : MapIs P k q w b n f) (hk : P.underlying k = some (.int q)) (ht : P.underlying t = some (.map k e)) (hn : n < maxLen) {i : Int} (hi : (Lit.int q i).wf = true) (u : Value) :
    ∃ w', (Instr.mapUpdate t (.map (some b)) (.int q i) u).run P w = .ok () w' ∧ MapIs P k q w' b (n + 1) (fun j => if j = i then some u else f j) ∧ w.grownBy w' (some b) := by
  obtain ⟨D, h, hm, hf⟩ := h
  obtain ⟨w', hrun, h1, h2⟩ := h.store (R := selfElem) (int_keyed hk) ht hn (keyOf_int_mk hk hi) (val := u) (d := .held u) (ps := []) rfl
  refine ⟨w', hrun, ⟨_, h1, hm.put _ _, fun j hj => ?_⟩, h2.grown⟩
  by_cases e : j = i
  · subst e
    have hkl : WideAt.IsKeyLit (Lit.int q j) := by simp [WideAt.IsKeyLit]
    simp only [if_true, Option.isSome_some]
    exact ⟨has_put_same hm hkl _, fun v hv z => by cases hv; exact atKey_put_same hm hkl _ _⟩
  · simp only [if_neg e]
    obtain ⟨g1, g2⟩ := hf j hj
    exact ⟨by rw [has_put_other (lit_ne e)]; exact g1, fun v hv z => by rw [atKey_put_other (lit_ne e)]; exact g2 v hv z⟩

/-- 'delete(m, k)'. -/
theorem MapIs.drop {t e : TypeId} (h : MapIs P k q w b n f) (hk : P.underlying k = some (.int q)) (ht : P.underlying t = some (.map k e)) {i : Int} (hi : (Lit.int q i).wf = true) (ty : TypeId) :
    ∃ w', (Builtin.delete_ #[t, k] ty #[.map (some b), .int q i]).run P w = .ok (.tuple #[]) w' ∧ MapIs P k q w' b n (fun j => if j = i then none else f j) ∧ w.grownBy w' (some b) := by
  obtain ⟨D, h, hm, hf⟩ := h
  obtain ⟨w', hrun, h1, h2⟩ := h.drop (R := selfElem) (int_keyed hk) ht (keyOf_int_mk hk hi) ty
  refine ⟨w', hrun, ⟨_, h1, hm.del _, fun j hj => ?_⟩, h2.grown⟩
  by_cases e : j = i
  · subst e
    simp only [if_true]
    exact ⟨has_del_same, fun v hv => by cases hv⟩
  · simp only [if_neg e]
    obtain ⟨g1, g2⟩ := hf j hj
    exact ⟨by rw [has_del_other (lit_ne e)]; exact g1, fun v hv z => by rw [atKey_del_other (lit_ne e)]; exact g2 v hv z⟩
end

/-- DELETE, AS ONE STEP OF A REGION THAT DRAWS ITS ORDER. -/
theorem step_delete {P : Program} {w w1 : World} {ops : Array Oper} {o : Oper} {a : Act} {K : Act → World → Prop} {Q : Exit → Act → World → Prop} {X : Prop} (hgd : o.guard = none) (m x : Operand) {t k : TypeId}
    (ho : o.op = .call { callee := .builtin .delete, args := #[m, x], argTypes := #[t, k] }) {v y : Value} (hm : a.eval m = v) (hx : a.eval x = y) (hrun : (Builtin.delete_ #[t, k] o.type #[v, y]).run P w = .ok (.tuple #[]) w1)
    (h : K (a.put o.dst (.tuple #[])) w1) : if Region.wanted o (yielded ops a.tmps) = true then Oper.wp P o a w K Q else X := by
  have hw : Region.wanted o (yielded ops a.tmps) = true := by simp [Region.wanted, hgd]
  rw [if_pos hw]
  unfold Oper.wp execOp
  simp only [ho, resolve, invoke, builtin, Sem.run_bind, Sem.run_pure, Result.andThen_ok, List.map_toArray, List.map_cons, List.map_nil, hm, hx, hrun]
  exact h
end Go.My

/- A map with strings for keys that the call itself keeps in one block: what it holds, as a function of the key; its elements stay values. No program in sight. -/
namespace Go.Proofs.YtmkhfonafcikdaaGreatDoor
open Go.RowKit Go.Maps Go.My Go.WideMaps

/-- Block b is a map, of n entries at most, that holds at each string what f says. -/
def MapS (P : Program) (k : TypeId) (w : World) (b n : Nat) (f : List UInt8 → Option Value) : Prop :=
  ∃ D : DataW Value, w.ownsMap P k selfElem b n D ∧ IsMap D ∧ ∀ s : List UInt8, s.length ≤ maxLen → (has D (.string s) = (f s).isSome ∧ ∀ u, f s = some u → ∀ z, D.atKey (.string s) z = .held u)

section
variable {P : Program} {k : TypeId} {w : World} {b n : Nat} {f : List UInt8 → Option Value}

theorem MapS.made (w : World) (P : Program) (k : TypeId) : MapS P k (w.alloc (.map #[] 0)) w.heap.size 0 (fun _ => none) :=
  ⟨.map [], World.ownsMap_made w P k selfElem, isMap_empty, fun i _ => ⟨rfl, fun u h => by cases h⟩⟩
theorem MapS.lt (h : MapS P k w b n f) : b < w.heap.size := by obtain ⟨D, h, _⟩ := h; exact h.lt
theorem MapS.mono (h : MapS P k w b n f) {m : Nat} (hm : n ≤ m) : MapS P k w b m f := by obtain ⟨D, h, r⟩ := h; exact ⟨D, h.mono hm, r⟩
theorem MapS.frame {w' : World} (h : MapS P k w b n f) (hb : w'.heap[b]? = w.heap[b]?) : MapS P k w' b n f := by
  obtain ⟨D, ⟨es, clock, h1, h2⟩, r⟩ := h
  exact ⟨D, ⟨es, clock, hb.trans h1, h2⟩, r⟩

theorem keyOf_bs (hk : P.underlying k = some .string) {s : List UInt8} (hs : s.length ≤ maxLen) : keyOf P k (.string (bs s)) = some (.string s) := by
  have := keyOf_string_mk hk (s := bs s) (by rw [bs_size]; exact hs)
  rwa [bs_list] at this

/-- 'v, ok := m[k]', where it is. -/
theorem MapS.look_some {t e : TypeId} (h : MapS P k w b n f) (hk : P.underlying k = some .string) (ht : P.underlying t = some (.map k e)) {z : Value} (hz : (zeroValue e).run P w = .ok z w) {s : List UInt8} (hs : s.length ≤ maxLen) {u : Value} (hu : f s = some u) :
    (Instr.lookup t (.map (some b)) (.string (bs s)) true).run P w = .ok (.tuple #[u, .bool true]) w := by
  obtain ⟨D, h, hm, hf⟩ := h
  obtain ⟨h1, h2⟩ := hf s hs
  obtain ⟨v, ps, hrun, hv⟩ := h.look_ok (R := selfElem) (string_keyed hk) ht hz (zd := .held z) (zp := []) rfl (keyOf_bs hk hs)
  rw [h1, hu] at hrun
  rw [h2 u hu] at hv
  simp only [selfElem, Option.some.injEq, Prod.mk.injEq, DataW.held.injEq] at hv
  rw [hv.1] at hrun
  exact hrun
/-- .. and where it is not. -/
theorem MapS.look_none {t e : TypeId} (h : MapS P k w b n f) (hk : P.underlying k = some .string) (ht : P.underlying t = some (.map k e)) {z : Value} (hz : (zeroValue e).run P w = .ok z w) {s : List UInt8} (hs : s.length ≤ maxLen) (hu : f s = none) :
    (Instr.lookup t (.map (some b)) (.string (bs s)) true).run P w = .ok (.tuple #[z, .bool false]) w := by
  obtain ⟨D, h, hm, hf⟩ := h
  obtain ⟨h1, h2⟩ := hf s hs
  obtain ⟨v, ps, hrun, hv⟩ := h.look_ok (R := selfElem) (string_keyed hk) ht hz (zd := .held z) (zp := []) rfl (keyOf_bs hk hs)
  rw [h1, hu] at hrun
  rw [atKey_of_not_has (by rw [h1, hu]; rfl)] at hv
  simp only [selfElem, Option.some.injEq, Prod.mk.injEq, DataW.held.injEq] at hv
  rw [hv.1] at hrun
  exact hrun
/-- 'm[k]'. -/
theorem MapS.at {t e : TypeId} (h : MapS P k w b n f) (hk : P.underlying k = some .string) (ht : P.underlying t = some (.map k e)) {z : Value} (hz : (zeroValue e).run P w = .ok z w) {s : List UInt8} (hs : s.length ≤ maxLen) :
    (Instr.lookup t (.map (some b)) (.string (bs s)) false).run P w = .ok ((f s).getD z) w := by
  obtain ⟨D, h, hm, hf⟩ := h
  obtain ⟨h1, h2⟩ := hf s hs
  obtain ⟨v, ps, hrun, hv⟩ := h.lookup (R := selfElem) (string_keyed hk) ht hz (zd := .held z) (zp := []) rfl (keyOf_bs hk hs)
  cases hu : f s with
  | some u =>
    rw [h2 u hu] at hv
    simp only [selfElem, Option.some.injEq, Prod.mk.injEq, DataW.held.injEq] at hv
    rw [hv.1] at hrun
    exact hrun
  | none =>
    rw [atKey_of_not_has (by rw [h1, hu]; rfl)] at hv
    simp only [selfElem, Option.some.injEq, Prod.mk.injEq, DataW.held.injEq] at hv
    rw [hv.1] at hrun
    exact hrun

theorem str_ne {i j : List UInt8} (h : i ≠ j) : (Lit.string i) ≠ (Lit.string j) := fun e => h (by cases e; rfl)

/-- 'm[k] = v'. -/
theorem MapS.store {t e : TypeId} (h : MapS P k w b n f) (hk : P.underlying k = some .string) (ht : P.underlying t = some (.map k e)) (hn : n < maxLen) {s : List UInt8} (hs : s.length ≤ maxLen) (u : Value) :
    ∃ w', (Instr.mapUpdate t (.map (some b)) (.string (bs s)) u).run P w = .ok () w' ∧ MapS P k w' b (n + 1) (fun j => if j = s then some u else f j) ∧ w.grownBy w' (some b) := by
  obtain ⟨D, h, hm, hf⟩ := h
  obtain ⟨w', hrun, h1, h2⟩ := h.store (R := selfElem) (string_keyed hk) ht hn (keyOf_bs hk hs) (val := u) (d := .held u) (ps := []) rfl
  refine ⟨w', hrun, ⟨_, h1, hm.put _ _, fun j hj => ?_⟩, h2.grown⟩
  by_cases e : j = s
  · subst e
    have hkl : WideAt.IsKeyLit (Lit.string j) := by simp [WideAt.IsKeyLit]
    simp only [if_true, Option.isSome_some]
    exact ⟨has_put_same hm hkl _, fun v hv z => by cases hv; exact atKey_put_same hm hkl _ _⟩
  · simp only [if_neg e]
    obtain ⟨g1, g2⟩ := hf j hj
    exact ⟨by rw [has_put_other (str_ne e)]; exact g1, fun v hv z => by rw [atKey_put_other (str_ne e)]; exact g2 v hv z⟩
end
end Go.Proofs.YtmkhfonafcikdaaGreatDoor

/- Memory by owners: owners may be named anew for a call. No program in sight. -/
namespace Go.My
open Go.RowKit

/-- Names behind a call that was looked at under other names (s: the other name of an owner; r: the owner's name of the other one). -/
def Tags.back (g g0 : Tags) (n : Nat) (r : Nat → Nat) : Tags := fun b => if b < n then g b else r (g0 b)

theorem Turn.back {w w' : World} {g g0 : Tags} {T : List Nat} (s r : Nat → Nat) (h : Turn w (fun b => s (g b)) w' g0 T) (hT : ∀ t, s t ∉ T) : Turn w g w' (g.back g0 w.heap.size r) [] :=
  ⟨h.os, h.tape, h.output, h.size, fun b hb => by unfold Tags.back; rw [if_pos hb], fun b hb _ => h.block b hb (hT _)⟩

theorem back_tag {w w' : World} {g g0 : Tags} {T : List Nat} {s r : Nat → Nat} (h : Turn w (fun b => s (g b)) w' g0 T) {x t : Nat} (hs : ∀ y, s y = x → y = t) (hr : r x = t) (b : Nat) (hb : g0 b = x) : g.back g0 w.heap.size r b = t := by
  unfold Tags.back
  split
  · rename_i hlt
    exact hs _ ((h.old b hlt).symm.trans hb)
  · rw [hb, hr]

theorem Bytes.back {w w' : World} {g g0 : Tags} {T : List Nat} {s r : Nat → Nat} (h : Turn w (fun b => s (g b)) w' g0 T) {x t : Nat} (hs : ∀ y, s y = x → y = t) (hr : r x = t) {v : Value} {l : List UInt8} (hv : Bytes w' g0 x v l) : Bytes w' (g.back g0 w.heap.size r) t v l :=
  BytesIn.mono hv fun b _ hb => back_tag h hs hr b hb

theorem Owns.back {w w' : World} {g g0 : Tags} {T : List Nat} {s r : Nat → Nat} (h : Turn w (fun b => s (g b)) w' g0 T) {x t : Nat} (hs : ∀ y, s y = x → y = t) (hr : r x = t) {e : TypeId} {size : Nat} {v : Value} {n : Nat} {xs : List Value} (hv : Owns w' g0 x e size v n xs) : Owns w' (g.back g0 w.heap.size r) t e size v n xs := by
  obtain ⟨k, ho, hk⟩ := hv
  exact ⟨k, ho, fun b hb => back_tag h hs hr b (hk b hb)⟩

/-- The same facts under other names. -/
theorem Bytes.named {w : World} {g : Tags} {t : Nat} {v : Value} {l : List UInt8} (h : Bytes w g t v l) (s : Nat → Nat) : Bytes w (fun b => s (g b)) (s t) v l := BytesIn.mono h fun b _ hb => by show s (g b) = s t; rw [hb]
theorem Owns.named {w : World} {g : Tags} {t : Nat} {e : TypeId} {size : Nat} {v : Value} {n : Nat} {xs : List Value} (h : Owns w g t e size v n xs) (s : Nat → Nat) : Owns w (fun b => s (g b)) (s t) e size v n xs := by
  obtain ⟨k, ho, hk⟩ := h
  exact ⟨k, ho, fun b hb => by show s (g b) = s t; rw [hk b hb]⟩
end Go.My

/- A range over a function: the statement, by its iterator's contract. No program in sight. -/
namespace Go.My
open Go.RowKit

/-- A call of yield is one round of the loop l. -/
def YieldsTo (P : Program) (l : Nat) (args : Array Value) (W : World) (R : Ending → World → Prop) : Prop :=
  ∃ fn tmps assign body, (Instr.yield l args).run P W = .ok (.round l fn tmps assign body) W ∧ RoundIn Fence.wide 4 P l fn tmps assign body W R

theorem wp_range {P : Program} {g : Operand} {ps : Array Tmp} {assign body : Code} {Q : Exit → Act → World → Prop} {a : Act} {w : World} {gf : Nat} {lb : Array Value}
    (hg : a.eval g = .func (.func gf) #[] lb) (eg : ∀ args w, (callFunc gf args).run P w = .ok (.enter gf args) w)
    (h : ∀ fn : FuncId, Calls P gf (#[.func (.yield (w.heap.size + 1)) #[] #[]] ++ lb)
      ((w.alloc (.deferred (some []))).alloc (.loop { state := .ready, pending := none, fn := fn, tmps := a.tmps, params := ps, assign := assign, body := body, defers := w.heap.size }))
      (rangePost Fence.wide 5 P (w.heap.size + 1) Q { a with defers := { target := .collected w.heap.size, args := #[] } :: a.defers })) :
    (Code.rangeFunc g ps assign body).wp P Q a w := by
  refine (wpIn_wide (n := 5)).1 (wpIn_rangeFunc fun fn _ => ?_)
  have h1 := h fn
  have h2 := run_enterLoop_outer (P := P) (w := w) fn a.tmps ps assign body
  generalize (w.alloc (.deferred (some []))).alloc (.loop { state := .ready, pending := none, fn := fn, tmps := a.tmps, params := ps, assign := assign, body := body, defers := w.heap.size }) = W1 at h1 h2
  have h3 : (resolve a.eval (rangeCall g (w.heap.size + 1)) 0).run P W1 = .ok { target := .fn (.func gf) lb, args := #[.func (.yield (w.heap.size + 1)) #[] #[]] } W1 := by
    simp only [resolve, hg]
    simp [go_sem]
  have h4 : (invoke (.fn (.func gf) lb) #[.func (.yield (w.heap.size + 1)) #[] #[]]).run P W1 = .ok (.enter gf (#[.func (.yield (w.heap.size + 1)) #[] #[]] ++ lb)) W1 := by
    simp [invoke, go_sem, eg]
  exact ⟨w.heap.size + 1, [{ target := .collected w.heap.size, args := #[] }], W1, _, W1, gf, _, W1, h2, h3, fun _ _ => trivial, h4, fun _ => by decide, callsIn_wide.2 h1⟩

/-- One cell of its own. -/
def Box1 (w : World) (g : Tags) (b : Nat) (ty : TypeId) (t : Nat) (cs : Array Value) : Prop := w.heap[b]? = some (.cells cs ty (0, 0)) ∧ g b = t
theorem Box1.lt {w : World} {g : Tags} {b : Nat} {ty : TypeId} {t : Nat} {cs : Array Value} (h : Box1 w g b ty t cs) : b < w.heap.size := (Array.getElem?_eq_some_iff.1 h.1).1
theorem Box1.turn {w w' : World} {g g' : Tags} {T : List Nat} {b : Nat} {ty : TypeId} {t : Nat} {cs : Array Value} (h : Box1 w g b ty t cs) (k : Turn w g w' g' T) (ht : t ∉ T) : Box1 w' g' b ty t cs :=
  ⟨(k.block b h.lt (by rw [h.2]; exact ht)).trans h.1, (k.old b h.lt).trans h.2⟩
theorem Box1.cell {w : World} {g : Tags} {b : Nat} {ty : TypeId} {t : Nat} {cs : Array Value} (h : Box1 w g b ty t cs) (i : Nat) : w.cell? ⟨b, i, none⟩ = cs[i]? ∧ w.frozen? ⟨b, i, none⟩ = false :=
  ⟨cell_of_row w b i _ _ _ h.1, frozen_of_row w b i _ _ h.1⟩
theorem Box1.alloc (w : World) (g : Tags) (ty : TypeId) (t : Nat) (cs : Array Value) : Box1 (w.alloc (.cells cs ty)) (g.ext w.heap.size t) w.heap.size ty t cs :=
  ⟨heap_alloc_new w _, Tags.ext_new _ _ _ _ (Nat.le_refl _)⟩
theorem Box1.store {w : World} {g : Tags} {b : Nat} {ty : TypeId} {t : Nat} {cs : Array Value} (h : Box1 w g b ty t cs) (i : Nat) (v : Value) :
    Turn w g (w.setCell ⟨b, i, none⟩ v) g [t] ∧ Box1 (w.setCell ⟨b, i, none⟩ v) g b ty t (cs.setIfInBounds i v) := by
  refine ⟨?_, heap_setCell_same w b i _ _ v h.1, h.2⟩
  have := Turn.setCell w g ⟨b, i, none⟩ v (by simp) rfl rfl rfl
  rw [h.2] at this; exact this
end Go.My

/- A range over a function: its rounds. No program in sight. -/
namespace Go.My
open Go.RowKit

/-- A block of its own. -/
def Blk (w : World) (g : Tags) (b t : Nat) (o : Obj) : Prop := w.heap[b]? = some o ∧ g b = t
theorem Blk.lt {w : World} {g : Tags} {b t : Nat} {o : Obj} (h : Blk w g b t o) : b < w.heap.size := (Array.getElem?_eq_some_iff.1 h.1).1
theorem Blk.turn {w w' : World} {g g' : Tags} {T : List Nat} {b t : Nat} {o : Obj} (h : Blk w g b t o) (k : Turn w g w' g' T) (ht : t ∉ T) : Blk w' g' b t o :=
  ⟨(k.block b h.lt (by rw [h.2]; exact ht)).trans h.1, (k.old b h.lt).trans h.2⟩
theorem Blk.alloc (w : World) (g : Tags) (t : Nat) (o : Obj) : Blk (w.alloc o) (g.ext w.heap.size t) w.heap.size t o :=
  ⟨heap_alloc_new w _, Tags.ext_new _ _ _ _ (Nat.le_refl _)⟩
theorem Turn.putObj (w : World) (g : Tags) (r : Nat) (o : Obj) : Turn w g (w.putObj r o) g [g r] :=
  ⟨rfl, rfl, rfl, by simp, fun _ _ => rfl, fun b _ hn => World.putObj_heap_other (fun e => hn (by rw [e]; exact List.mem_singleton.2 rfl))⟩
theorem Blk.put {w : World} {g : Tags} {b t : Nat} {o : Obj} (h : Blk w g b t o) (o' : Obj) : Turn w g (w.putObj b o') g [t] ∧ Blk (w.putObj b o') g b t o' := by
  refine ⟨?_, World.putObj_heap_same h.lt, h.2⟩
  have := Turn.putObj w g b o'
  rw [h.2] at this; exact this

theorem rec_back {r : Loop} (h1 : r.state = .ready) (h2 : r.pending = none) : ({ ({ r with state := .busy } : Loop) with state := .ready, pending := none } : Loop) = r := by
  cases r; simp_all

/-- How the body of a round may be left. -/
def RoundEnd (l t : Nat) (r : Loop) (R : Ending → World → Prop) : Exit → Act → World → Prop
  | .normal, _, w => ∃ g, Blk w g l t (.loop { r with state := .busy }) ∧ R (.returned (.bool true)) (w.putObj l (.loop r))
  | .ret, _, w => ∃ g, Blk w g l t (.loop { r with state := .busy }) ∧ R (.returned (.bool false)) (w.putObj l (.loop { r with state := .done, pending := some .ret }))
  | _, _, _ => False

theorem yields_of {P : Program} {l : Nat} {r : Loop} {W : World} {g : Tags} {t : Nat} {x : Value} {R : Ending → World → Prop} {p : Tmp} {tmps : Array Value} {assign body : Code}
    (hl : Blk W g l t (.loop r)) (h1 : r.state = .ready) (h2 : r.pending = none) (e1 : r.tmps = tmps) (e2 : r.params = #[p]) (e3 : r.assign = assign) (e4 : r.body = body)
    (h : assign.wpIn (Fence.wide.inRound l) 4 P (Exit.then (fun a₁ w₁ => ∃ g1, Blk w₁ g1 l t (.loop r) ∧ body.wpIn (Fence.wide.inRound l) 4 P (RoundEnd l t r R) a₁ (w₁.putObj l (.loop { r with state := .busy }))) (fun _ _ _ => False)) { tmps := tmps.setIfInBounds p x, defers := [] } W) :
    YieldsTo P l #[x] W R := by
  subst e1 e3 e4
  have hy := run_yield (P := P) (args := #[x]) hl.1 (by rw [e2]; rfl)
  have hz : (r.params.zip #[x]).foldl (fun tmps (t, a) => tmps.setIfInBounds t a) r.tmps = r.tmps.setIfInBounds p x := by rw [e2]; simp
  rw [hz] at hy
  refine ⟨r.fn, _, r.assign, r.body, hy, roundIn_of_wpIn trivial (wpIn_mono h ?_)⟩
  intro e a w hp
  cases e with
  | normal =>
    obtain ⟨g1, hb, hw⟩ := hp
    refine ⟨_, run_beginRound hb.1 h1, wpIn_mono hw ?_⟩
    intro e a w hp
    cases e with
    | normal =>
      obtain ⟨g2, hb2, hR⟩ := hp
      refine ⟨_, _, run_endRound none hb2.1, ?_⟩
      have e := rec_back h1 h2
      simp only [Option.isNone_none, if_true]
      rw [e]; exact hR
    | ret =>
      obtain ⟨g2, hb2, hR⟩ := hp
      exact ⟨_, _, run_endRound (some .ret) hb2.1, hR⟩
    | exit id => exact hp.elim
    | goto t => exact hp.elim
    | panic c => exact hp.elim
    | outgrown => exact hp.elim
  | exit id => exact hp.elim
  | goto t => exact hp.elim
  | ret => exact hp.elim
  | panic c => exact hp.elim
  | outgrown => exact hp.elim

theorem wp_range2 {P : Program} {g : Operand} {ps : Array Tmp} {assign body : Code} {Q : Exit → Act → World → Prop} {a : Act} {w : World} {gf : Nat} {lb : Array Value}
    (hg : a.eval g = .func (.func gf) #[] lb) (eg : ∀ args w, (callFunc gf args).run P w = .ok (.enter gf args) w)
    (h : ∀ r : Loop, r.state = .ready → r.pending = none → r.tmps = a.tmps → r.params = ps → r.assign = assign → r.body = body → Calls P gf (#[.func (.yield (w.heap.size + 1)) #[] #[]] ++ lb)
      ((w.alloc (.deferred (some []))).alloc (.loop r))
      (rangePost Fence.wide 5 P (w.heap.size + 1) Q { a with defers := { target := .collected w.heap.size, args := #[] } :: a.defers })) :
    (Code.rangeFunc g ps assign body).wp P Q a w :=
  wp_range hg eg fun _ => h _ rfl rfl rfl rfl rfl rfl

section
variable {P : Program} {F : Fence} {nF : Nat} (w : World)
/-- APPEND, FOR THE WALK IN A ROUND. -/
theorem wpListIn_append_t {ops : Array Oper} {rest : List Oper} {o : Oper} {a : Act} {Q : Exit → Act → World → Prop} (hgd : o.guard = none) (s x : Operand) {t e : TypeId}
    (ho : o.op = .call { callee := .builtin .append, args := #[s, x], argTypes := #[t, t] }) {size bytes : Nat} {z : Value} (E : Elem P t e size bytes z)
    {v : Value} {n : Nat} {xs : List Value} {g : Tags} {tg : Nat} (hs : a.eval s = v) (hown : Owns w g tg e size v n xs) {y : Value} {m : Nat} {news : List Value} (hy : a.eval x = y) (hx : Src w size y m news) (h1 : ∀ u ∈ news, u.oneCell' = true)
    (h63 : n + m ≤ maxLen) (hbytes : (n + m) * bytes ≤ 140737488355328)
    (h : ∀ ao cap w' g', Owns w' g' tg e size (.slice ao (n + m) cap) (n + m) (xs ++ news) → Turn w g w' g' [tg] → wpListIn F nF P ops Q rest (a.put o.dst (.slice ao (n + m) cap)) w') : wpListIn F nF P ops Q (o :: rest) a w := by
  obtain ⟨k, ho', hk⟩ := hown
  obtain ⟨v', w', k', hr, h2, h3, h4⟩ := run_append (P := P) w E o.type ho' hx h1 h63 hbytes
  refine wpListIn_plain hgd fun K hK => ?_
  unfold Oper.wpIn
  refine ⟨by simp [Oper.about, ho, resolve, Target.leads, Sem.run_pure], ?_⟩
  rw [Oper.semAt_plain F _ _ (by rw [ho]; intro c hc'; cases hc')]
  simp [execOp, ho, resolve, invoke, builtin, hs, hy, hr, Result.andThen]
  refine hK _ _ ?_
  obtain ⟨ao, cap, rfl⟩ := own_form h2
  refine h ao cap w' (g.ext w.heap.size tg) ⟨k', h2, fun b hb => ?_⟩ (Turn.of_step h3 g tg hk)
  rcases h4 with rfl | ⟨j, hj, hge⟩
  · rw [Tags.ext_old _ _ _ _ (ho'.lt b hb)]; exact hk b hb
  · rw [hj] at hb; cases hb; exact Tags.ext_new _ _ _ _ hge
end
end Go.My

/- Arguments, opened: slices of slices of bytes, with the reach. No program in sight. -/
namespace Go.My
open Go.RowKit

/-- What a datum weighs, each part by itself, is within the reach. -/
def Light {H : Type} (P : Program) (t : TypeId) (d : DataW H) : Prop := ∀ n ∈ d.weights P t, n ≤ reachBytes

theorem light_of_all {H : Type} {P : Program} : ∀ (ts us : List TypeId) (ds es : List (DataW H)), ts.length = ds.length → (DataW.weightsEach P (ts ++ us) (ds ++ es)).all (· ≤ reachBytes) = true →
    ∀ (j : Nat) (t : TypeId) (d : DataW H), ts[j]? = some t → ds[j]? = some d → Light P t d := by
  intro ts
  induction ts with
  | nil => intro us ds es _ _ j t d h; simp at h
  | cons t0 ts ih =>
    intro us ds es hl h j t d ht hd
    cases ds with
    | nil => simp at hl
    | cons d0 ds =>
      simp only [List.cons_append, DataW.weightsEach, List.all_append, Bool.and_eq_true] at h
      cases j with
      | zero =>
        simp at ht hd
        subst ht; subst hd
        intro n hn
        have := List.all_eq_true.1 h.1 n hn
        simpa using this
      | succ j =>
        simp only [List.getElem?_cons_succ] at ht hd
        exact ih us ds es (by simpa using hl) h.2 j t d ht hd

theorem light_all {H : Type} {P : Program} {e : TypeId} : ∀ {l : List (DataW H)}, (∀ n ∈ DataW.weightsAll P e l, n ≤ reachBytes) → ∀ d ∈ l, Light P e d := by
  intro l
  induction l with
  | nil => intro _ d h; cases h
  | cons x l ih =>
    intro h d hd
    simp only [DataW.weightsAll, List.mem_append] at h
    rcases List.mem_cons.1 hd with rfl | hd
    · exact fun n hn => h n (.inl hn)
    · exact ih (fun n hn => h n (.inr hn)) d hd

theorem Light.slice {H : Type} {P : Program} {t e : TypeId} {xs ys : List (DataW H)} (h : Light P t (.slice xs ys)) (ht : P.underlying t = some (.slice e)) :
    (xs.length + ys.length) * P.bytesOf e ≤ reachBytes ∧ ∀ d ∈ xs, Light P e d := by
  unfold Light at h
  simp only [DataW.weights, ht, List.mem_cons, List.mem_append] at h
  exact ⟨h _ (.inl rfl), light_all fun n hn => h n (.inr (.inl hn))⟩

open Go.ChangeShapes Go.WideShapes Go.ChangeAt Go.Deep in
theorem frames_of_trod {H : Type} {enc : TypeId × Value → H} {P : Program} {W : World} {base : Nat} {t e q : TypeId} {v : Value} {d : DataW H} {p : List MemPlace}
    (ht : P.underlying t = some (.slice e)) (he : P.underlying e = some (.slice q)) (hq : P.underlying q = some (.int .u8)) (ce : P.cellsOf e = 1) (cq : P.cellsOf q = 1) (bq : P.bytesOf q = 1)
    (hok : Value.okWide P W .any base t v) (h : DataW.Trod enc P W 0 (fun _ => true) true t v d p) (hw : Light P t d) : ∃ ls : List (List UInt8), FramesIn W (fun b => b < W.heap.size) v ls ∧ ∀ l ∈ ls, l.length ≤ 140737488351232 := by
  obtain ⟨a, len, cap, rfl⟩ := okWide_slice ht hok
  obtain ⟨fuel, hf⟩ := h
  rcases open_int_rows ht he hq ce cq hf with ⟨hcs, _⟩ | ⟨x, l, c, A, L, C, Z, hcs, _, hl, hm, hx, hr⟩
  · simp [Value.cells] at hcs
    obtain ⟨rfl, rfl, rfl⟩ := hcs
    exact ⟨[], FramesIn.nil _ _, fun l h => by cases h⟩
  · simp [Value.cells] at hcs
    obtain ⟨rfl, rfl, rfl⟩ := hcs
    simp only [Prod.mk.injEq] at hx
    rw [hx.1] at hw
    have hd := (hw.slice ht).2
    -- each row
    have each : ∀ r, r < len → ∃ b : List UInt8, BytesIn W (fun b => b < W.heap.size) (.slice (A r) (L r) (C r)) b ∧ b.length ≤ 140737488351232 := by
      intro r hlt
      obtain ⟨hcell, h1, h2, h3, h4, h5, h6⟩ := hr r (by omega)
      obtain ⟨bs, hbs⟩ := bytes_of_ints h4
      have hzl : bs.length = C r := by rw [← h3, hbs, List.length_map]
      have hlight := hd _ (List.mem_map.2 ⟨r, List.mem_range.2 hlt, rfl⟩)
      cases hA : A r with
      | none =>
        have hC := h5 hA
        have hL : L r = 0 := by omega
        rw [hC, hL]
        exact ⟨[], BytesIn.nil _ _, by simp⟩
      | some a' =>
        have hb := (Light.slice (by rw [hA] at hlight; exact hlight) he).1
        rw [bq] at hb
        have hlen : (bs.take (L r)).length = L r := by rw [List.length_take]; omega
        refine ⟨bs.take (L r), ⟨some a', C r, by rw [List.length_map, hlen], by rw [List.length_map, hlen]; exact h1, h2, (fun e => by cases e), fun hne => ?_⟩, ?_⟩
        · have hpos : 0 < L r := by
            rcases Nat.eq_zero_or_pos (L r) with h0 | h0
            · rw [h0] at hne; simp at hne
            · exact h0
          obtain ⟨_, hcl⟩ := h6 a' hA
          have h0 := hcl 0 (by omega)
          obtain ⟨b, off, spot⟩ := a'
          have hspot : spot = none := by simpa [Addr.add] using World.cell?_spot h0
          subst hspot
          refine ⟨b, off, rfl, by simpa [add_none] using World.block_lt_of_cell? W _ h0, fun j u hu => ?_⟩
          have hj : j < L r := by have := (List.getElem?_eq_some_iff.1 hu).1; rw [List.length_map, hlen] at this; exact this
          have := hcl j (by omega)
          rw [add_none] at this
          rw [this, ← hu, List.getElem?_map, List.getElem?_take, if_pos hj, hbs]
          rw [List.getD_eq_getElem?_getD, List.getElem?_map]
          have hjb : j < bs.length := by omega
          simp [hjb, byteCell]
        · rw [hlen]
          simp [lits, hbs, hzl, reachBytes] at hb
          omega
    obtain ⟨y, hy⟩ := choose_lt each
    refine ⟨(List.range len).map y, ⟨(List.range len).map fun r => .slice (A r) (L r) (C r), ⟨some x, cap, by simp, by simp; exact hl, hm, (fun e => by cases e), fun hne => ?_⟩, by simp, fun j hj hj' => ?_⟩, fun l hl => ?_⟩
    · have hpos : 0 < len := by
        rcases Nat.eq_zero_or_pos len with h0 | h0
        · subst h0; simp at hne
        · exact h0
      have h0 := (hr 0 (by omega)).1
      obtain ⟨b, off, spot⟩ := x
      have hspot : spot = none := by simpa [Addr.add] using World.cell?_spot h0
      subst hspot
      refine ⟨b, off, rfl, by simpa [add_none] using World.block_lt_of_cell? W _ h0, fun j u hu => ?_⟩
      have hj : j < len := by have := (List.getElem?_eq_some_iff.1 hu).1; simpa using this
      have := (hr j (by omega)).1
      rw [add_none] at this
      rw [this, ← hu]
      simp [hj]
    · have hj2 : j < len := by simpa using hj
      simp only [List.getElem_map, List.getElem_range]
      exact (hy j hj2).1
    · obtain ⟨r, hr, rfl⟩ := List.mem_map.1 hl
      exact (hy r (List.mem_range.1 hr)).2
end Go.My

/- Arguments, opened: the fields of a struct that is handed in by value. No program in sight. -/
namespace Go.My
open Go.RowKit

open Go.ChangeShapes Go.WideShapes Go.ChangeAt in
theorem bytes_of_cell {H : Type} {enc : TypeId × Value → H} {P : Program} {W : World} {n0 : Nat} {t e : TypeId} {v : Value} {y0 : DataW H × List MemPlace} (ht : P.underlying t = some (.slice e)) (he : P.underlying e = some (.int .u8)) (ce : P.cellsOf e = 1)
    (hf : DataW.trod enc P W 0 (fun _ => true) true n0 t [v] = some y0) : ∃ l : List UInt8, BytesIn W (fun b => b < W.heap.size) v l := by
  obtain ⟨a, len, cap, ev⟩ := Go.Joins.slice_form ht hf
  obtain rfl : v = .slice a len cap := by simpa using ev
  rcases open_ints ht he ce hf with ⟨hcs, _⟩ | ⟨x, l, c, zs, hcs, _, hl, hm, hz, _, hcell, hwz⟩
  · simp at hcs
    obtain ⟨rfl, rfl, rfl⟩ := hcs
    exact ⟨[], BytesIn.nil _ _⟩
  · simp at hcs
    obtain ⟨rfl, rfl, rfl⟩ := hcs
    simp only [if_true] at hz
    obtain ⟨bs, rfl⟩ := bytes_of_ints hwz
    rw [List.length_map] at hz
    refine ⟨bs.take len, some x, cap, by simp; omega, by simp; omega, hm, (fun e => by cases e), fun hne => ?_⟩
    have hlen : 0 < len := by
      rcases Nat.eq_zero_or_pos len with h0 | h0
      · subst h0; simp at hne
      · exact h0
    have h0 := hcell 0 (by simp; omega)
    obtain ⟨b, off, spot⟩ := x
    have hspot : spot = none := by simpa [Addr.add] using World.cell?_spot h0
    subst hspot
    refine ⟨b, off, rfl, by simpa [add_none] using World.block_lt_of_cell? W _ h0, fun j u hu => ?_⟩
    have hj : j < bs.length := by have := (List.getElem?_eq_some_iff.1 hu).1; simp at this; omega
    have := hcell j (by simpa using hj)
    rw [add_none] at this
    rw [this, ← hu, List.getElem?_map, List.getElem?_take]
    rw [if_pos (by have := (List.getElem?_eq_some_iff.1 hu).1; simp at this; omega)]
    simp [hj, byteCell]

open Go.ChangeShapes Go.WideShapes Go.ChangeAt Go.Deep in
theorem frames_of_cell {H : Type} {enc : TypeId × Value → H} {P : Program} {W : World} {n0 : Nat} {t e q : TypeId} {v : Value} {y0 : DataW H × List MemPlace}
    (ht : P.underlying t = some (.slice e)) (he : P.underlying e = some (.slice q)) (hq : P.underlying q = some (.int .u8)) (ce : P.cellsOf e = 1) (cq : P.cellsOf q = 1) (bq : P.bytesOf q = 1)
    (hf : DataW.trod enc P W 0 (fun _ => true) true n0 t [v] = some y0) (hw : Light P t y0.1) : ∃ ls : List (List UInt8), FramesIn W (fun b => b < W.heap.size) v ls ∧ ∀ l ∈ ls, l.length ≤ 140737488351232 := by
  obtain ⟨a, len, cap, ev⟩ := Go.Joins.slice_form ht hf
  obtain rfl : v = .slice a len cap := by simpa using ev
  rcases open_int_rows ht he hq ce cq hf with ⟨hcs, _⟩ | ⟨x, l, c, A, L, C, Z, hcs, _, hl, hm, hx, hr⟩
  · simp at hcs
    obtain ⟨rfl, rfl, rfl⟩ := hcs
    exact ⟨[], FramesIn.nil _ _, fun l h => by cases h⟩
  · simp at hcs
    obtain ⟨rfl, rfl, rfl⟩ := hcs
    subst hx
    simp only at hw
    have hd := (hw.slice ht).2
    -- each row
    have each : ∀ r, r < len → ∃ b : List UInt8, BytesIn W (fun b => b < W.heap.size) (.slice (A r) (L r) (C r)) b ∧ b.length ≤ 140737488351232 := by
      intro r hlt
      obtain ⟨hcell, h1, h2, h3, h4, h5, h6⟩ := hr r (by omega)
      obtain ⟨bs, hbs⟩ := bytes_of_ints h4
      have hzl : bs.length = C r := by rw [← h3, hbs, List.length_map]
      have hlight := hd _ (List.mem_map.2 ⟨r, List.mem_range.2 hlt, rfl⟩)
      cases hA : A r with
      | none =>
        have hC := h5 hA
        have hL : L r = 0 := by omega
        rw [hC, hL]
        exact ⟨[], BytesIn.nil _ _, by simp⟩
      | some a' =>
        have hb := (Light.slice (by rw [hA] at hlight; exact hlight) he).1
        rw [bq] at hb
        have hlen : (bs.take (L r)).length = L r := by rw [List.length_take]; omega
        refine ⟨bs.take (L r), ⟨some a', C r, by rw [List.length_map, hlen], by rw [List.length_map, hlen]; exact h1, h2, (fun e => by cases e), fun hne => ?_⟩, ?_⟩
        · have hpos : 0 < L r := by
            rcases Nat.eq_zero_or_pos (L r) with h0 | h0
            · rw [h0] at hne; simp at hne
            · exact h0
          obtain ⟨_, hcl⟩ := h6 a' hA
          have h0 := hcl 0 (by omega)
          obtain ⟨b, off, spot⟩ := a'
          have hspot : spot = none := by simpa [Addr.add] using World.cell?_spot h0
          subst hspot
          refine ⟨b, off, rfl, by simpa [add_none] using World.block_lt_of_cell? W _ h0, fun j u hu => ?_⟩
          have hj : j < L r := by have := (List.getElem?_eq_some_iff.1 hu).1; rw [List.length_map, hlen] at this; exact this
          have := hcl j (by omega)
          rw [add_none] at this
          rw [this, ← hu, List.getElem?_map, List.getElem?_take, if_pos hj, hbs]
          rw [List.getD_eq_getElem?_getD, List.getElem?_map]
          have hjb : j < bs.length := by omega
          simp [hjb, byteCell]
        · rw [hlen]
          simp [lits, hbs, hzl, reachBytes] at hb
          omega
    obtain ⟨y, hy⟩ := choose_lt each
    refine ⟨(List.range len).map y, ⟨(List.range len).map fun r => .slice (A r) (L r) (C r), ⟨some x, cap, by simp, by simp; exact hl, hm, (fun e => by cases e), fun hne => ?_⟩, by simp, fun j hj hj' => ?_⟩, fun l hl => ?_⟩
    · have hpos : 0 < len := by
        rcases Nat.eq_zero_or_pos len with h0 | h0
        · subst h0; simp at hne
        · exact h0
      have h0 := (hr 0 (by omega)).1
      obtain ⟨b, off, spot⟩ := x
      have hspot : spot = none := by simpa [Addr.add] using World.cell?_spot h0
      subst hspot
      refine ⟨b, off, rfl, by simpa [add_none] using World.block_lt_of_cell? W _ h0, fun j u hu => ?_⟩
      have hj : j < len := by have := (List.getElem?_eq_some_iff.1 hu).1; simpa using this
      have := (hr j (by omega)).1
      rw [add_none] at this
      rw [this, ← hu]
      simp [hj]
    · have hj2 : j < len := by simpa using hj
      simp only [List.getElem_map, List.getElem_range]
      exact (hy j hj2).1
    · obtain ⟨r, hr, rfl⟩ := List.mem_map.1 hl
      exact (hy r (List.mem_range.1 hr)).2

theorem light_each {H : Type} {P : Program} : ∀ (ts : List TypeId) (ds : List (DataW H)), (∀ n ∈ DataW.weightsEach P ts ds, n ≤ reachBytes) → ∀ (j : Nat) (t : TypeId) (d : DataW H), ts[j]? = some t → ds[j]? = some d → Light P t d := by
  intro ts
  induction ts with
  | nil => intro ds _ j t d h; simp at h
  | cons t0 ts ih =>
    intro ds h j t d ht hd
    cases ds with
    | nil => simp at hd
    | cons d0 ds =>
      simp only [DataW.weightsEach, List.mem_append] at h
      cases j with
      | zero => simp at ht hd; subst ht; subst hd; exact fun n hn => h n (.inl hn)
      | succ j => simp only [List.getElem?_cons_succ] at ht hd; exact ih ds (fun n hn => h n (.inr hn)) j t d ht hd

theorem Light.fields {H : Type} {P : Program} {t : TypeId} {fs : Array Field} {ds : List (DataW H)} (h : Light P t (.agg ds)) (ht : P.underlying t = some (.struct fs)) : ∀ (j : Nat) (u : TypeId) (d : DataW H), (fs.toList.map (·.type))[j]? = some u → ds[j]? = some d → Light P u d := by
  unfold Light at h
  simp only [DataW.weights, ht] at h
  exact light_each _ _ h
end Go.My

/- Arguments, opened: programs as trees. No program in sight. -/
namespace Go.My
open Go.RowKit Go.Nd

/-- The types of a node, as the program numbers them: a list of nodes, a node, its kind, a string. -/
structure NodeTypes (P : Program) (tl tn tk ts : TypeId) : Prop where
  l : P.underlying tl = some (.slice tn)
  n : ∃ f0 f1 f2 f3 f4, P.underlying tn = some (.struct #[f0, f1, f2, f3, f4]) ∧ f0.type = tk ∧ f0.offset = 0 ∧ f1.type = ts ∧ f1.offset = 1 ∧ f2.type = tl ∧ f2.offset = 2 ∧ f3.type = tl ∧ f3.offset = 3 ∧ f4.type = tl ∧ f4.offset = 4
  k : P.underlying tk = some (.int .u8)
  s : P.underlying ts = some .string
  cn : P.cellsOf tn = 5
  ck : P.cellsOf tk = 1
  cs : P.cellsOf ts = 1
  cl : P.cellsOf tl = 1
  bn : P.bytesOf tn = 96

theorem list5 {cs : List Value} (h : cs.length = 5) : ∃ c0 c1 c2 c3 c4, cs = [c0, c1, c2, c3, c4] := by
  match cs, h with
  | [c0, c1, c2, c3, c4], _ => exact ⟨c0, c1, c2, c3, c4, rfl⟩
theorem list5' {α : Type} {cs : List α} (h : cs.length = 5) : ∃ c0 c1 c2 c3 c4, cs = [c0, c1, c2, c3, c4] := by
  match cs, h with
  | [c0, c1, c2, c3, c4], _ => exact ⟨c0, c1, c2, c3, c4, rfl⟩

/-- The five cells of one node, read. -/
theorem node_cells {H : Type} {enc : TypeId × Value → H} {P : Program} {W : World} {tl tn tk ts : TypeId} (T : NodeTypes P tl tn tk ts) {n : Nat} {cs : List Value} {y : DataW H × List MemPlace}
    (h : DataW.trod enc P W 0 (fun _ => true) true n tn cs = some y) (hw : Light P tn y.1) :
    ∃ (m k : Nat) (t : List UInt8) (v1 v2 v3 : Value) (y1 y2 y3 : DataW H × List MemPlace), n = m + 1 ∧ cs = [.int .u8 (k : Int), .string (tx t), v1, v2, v3] ∧ k < 256 ∧ t.length ≤ 140737488351232 ∧
      DataW.trod enc P W 0 (fun _ => true) true m tl [v1] = some y1 ∧ DataW.trod enc P W 0 (fun _ => true) true m tl [v2] = some y2 ∧ DataW.trod enc P W 0 (fun _ => true) true m tl [v3] = some y3 ∧
      Light P tl y1.1 ∧ Light P tl y2.1 ∧ Light P tl y3.1 := by
  obtain ⟨f0, f1, f2, f3, f4, hn, e0, o0, e1, o1, e2, o2, e3, o3, e4, o4⟩ := T.n
  obtain ⟨xs, m, rfl, rfl, hc, hx, hf⟩ := DataW.trod_struct hn h
  rw [T.cn] at hc
  obtain ⟨c0, c1, c2, c3, c4, rfl⟩ := list5 hc
  obtain ⟨y0, y1, y2, y3, y4, rfl⟩ := list5' (show xs.length = 5 from hx)
  have g0 := hf 0 f0 rfl
  have g1 := hf 1 f1 rfl
  have g2 := hf 2 f2 rfl
  have g3 := hf 3 f3 rfl
  have g4 := hf 4 f4 rfl
  rw [e0, o0, T.ck] at g0
  rw [e1, o1, T.cs] at g1
  rw [e2, o2, T.cl] at g2
  rw [e3, o3, T.cl] at g3
  rw [e4, o4, T.cl] at g4
  obtain ⟨z, hz, hy0, hwf⟩ := DataW.trod_int T.k (show DataW.trod enc P W 0 (fun _ => true) true m tk [c0] = some y0 from g0)
  obtain ⟨s, hs, hy1, _⟩ := DataW.trod_string T.s (show DataW.trod enc P W 0 (fun _ => true) true m ts [c1] = some y1 from g1)
  have hl := hw.fields hn
  have l1 := hl 1 ts y1.1 (by simp [e1]) rfl
  have l2 := hl 2 tl y2.1 (by simp [e2]) rfl
  have l3 := hl 3 tl y3.1 (by simp [e3]) rfl
  have l4 := hl 4 tl y4.1 (by simp [e4]) rfl
  have hz' : c0 = .int .u8 z := by simpa using hz
  have hs' : c1 = .string s := by simpa using hs
  simp [Lit.wf, IntKind.min, IntKind.max, IntKind.signed, IntKind.bits] at hwf
  refine ⟨m, z.toNat, s.data.toList, c2, c3, c4, y2, y3, y4, rfl, ?_, by omega, ?_, g2, g3, g4, l2, l3, l4⟩
  · have : ((z.toNat : Nat) : Int) = z := by omega
    rw [hz', hs', this]; rfl
  · have := l1 s.data.toList.length (by rw [hy1]; simp [DataW.weights])
    simpa [reachBytes] using this

/-- A list of nodes that comes in. -/
theorem nodes_of_trod {H : Type} {enc : TypeId × Value → H} {P : Program} {W : World} {tl tn tk ts : TypeId} (T : NodeTypes P tl tn tk ts) :
    ∀ (n : Nat) (v : Value) (y : DataW H × List MemPlace), DataW.trod enc P W 0 (fun _ => true) true n tl [v] = some y → Light P tl y.1 → ∃ xs : Ns, Nodes W (fun b => b < W.heap.size) false v xs := by
  intro n
  induction n using Nat.strongRecOn with
  | _ n ih =>
    intro v y h hw
    rcases DataW.trod_slice T.l h with ⟨hv, hy⟩ | ⟨a, len, cap, elems, rest, n', rfl, hv, hy, _, hlc, hcm, hel, helem, hrest, _⟩
    · obtain rfl : v = .slice none 0 0 := by simpa using hv
      exact ⟨.nil, none, 0, rfl, ⟨Nat.le_refl _, Nat.zero_le _, by decide, fun e => by cases e⟩, .nil none (fun e => by cases e)⟩
    · obtain rfl : v = .slice (some a) len cap := by simpa using hv
      rw [hy] at hw
      obtain ⟨hb, hd⟩ := hw.slice T.l
      rw [T.bn] at hb
      obtain ⟨hrl, _⟩ := hrest rfl
      have hlen : len * 96 ≤ 140737488351232 := by
        have h1 : (elems.map (·.1)).length = len := by simpa using hel
        rw [h1] at hb
        have h2 : len * 96 ≤ (len + (rest.map (·.1)).length) * 96 := Nat.mul_le_mul_right _ (Nat.le_add_right _ _)
        exact Nat.le_trans h2 hb
      rw [T.cn] at helem
      -- each node
      have each : ∀ i, i < len → ∃ (k : Nat) (t : List UInt8) (l body els : Ns) (a1 a2 a3 : Option Addr) (c1 c2 c3 : Nat), k < 256 ∧ t.length ≤ 140737488351232 ∧ (∀ j, j < 5 → W.cell? ((a.add (i * 5)).add j) = [Value.int .u8 (k : Int), .string (tx t), .slice a1 l.len c1, .slice a2 body.len c2, .slice a3 els.len c3][j]?) ∧
          Room false l.len c1 ∧ Room false body.len c2 ∧ Room false els.len c3 ∧ NodesAt W (fun b => b < W.heap.size) false a1 l ∧ NodesAt W (fun b => b < W.heap.size) false a2 body ∧ NodesAt W (fun b => b < W.heap.size) false a3 els := by
        intro i hi
        have h1 := helem i hi
        have hie : i < elems.length := by omega
        rw [List.getElem?_eq_getElem hie] at h1
        cases hc : W.cells? 0 (a.add (i * 5)) 5 with
        | none => rw [hc] at h1; cases h1
        | some cs =>
          rw [hc] at h1
          have h1' : DataW.trod enc P W 0 (fun _ => true) true n' tn cs = some elems[i] := h1
          obtain ⟨m, k, t, v1, v2, v3, y1, y2, y3, rfl, rfl, hk, ht, q1, q2, q3, l1, l2, l3⟩ := node_cells T h1' (hd _ (List.mem_map.2 ⟨_, List.getElem_mem hie, rfl⟩))
          obtain ⟨x1, a1, c1, e1, r1, n1⟩ := ih m (by omega) v1 y1 q1 l1
          obtain ⟨x2, a2, c2, e2, r2, n2⟩ := ih m (by omega) v2 y2 q2 l2
          obtain ⟨x3, a3, c3, e3, r3, n3⟩ := ih m (by omega) v3 y3 q3 l3
          subst e1 e2 e3
          exact ⟨k, t, x1, x2, x3, a1, a2, a3, c1, c2, c3, hk, ht, (World.cells?_some hc).2.2, r1, r2, r3, n1, n2, n3⟩
      by_cases h0 : len = 0
      · subst h0
        exact ⟨.nil, some a, cap, rfl, ⟨Nat.zero_le _, hcm, by decide, fun e => by cases e⟩, .nil _ (fun e => by cases e)⟩
      · obtain ⟨b, off, spot⟩ := a
        have hspot : spot = none := by
          obtain ⟨_, _, _, _, _, _, _, _, _, _, _, _, _, hcell, _⟩ := each 0 (by omega)
          simpa [Addr.add] using World.cell?_spot (hcell 0 (by decide))
        subst hspot
        have all : ∀ j, j ≤ len → ∃ xs : Ns, xs.len = j ∧ NodesAt W (fun b => b < W.heap.size) false (some ⟨b, off + (len - j) * 5, none⟩) xs := by
          intro j
          induction j with
          | zero => intro _; exact ⟨.nil, rfl, .nil _ (fun e => by cases e)⟩
          | succ j ihj =>
            intro hj
            obtain ⟨xs, hx, hN⟩ := ihj (by omega)
            obtain ⟨k, t, l, body, els, a1, a2, a3, c1, c2, c3, hk, ht, hcell, r1, r2, r3, n1, n2, n3⟩ := each (len - (j + 1)) (by omega)
            have e5 : off + (len - j) * 5 = off + (len - (j + 1)) * 5 + 5 := by
              have : len - j = len - (j + 1) + 1 := by omega
              rw [this, Nat.succ_mul]; omega
            rw [e5] at hN
            have q : ∀ o, o < 5 → W.cell? ⟨b, off + (len - (j + 1)) * 5 + o, none⟩ = [Value.int .u8 (k : Int), .string (tx t), .slice a1 l.len c1, .slice a2 body.len c2, .slice a3 els.len c3][o]? := by
              intro o ho
              have := hcell o ho
              rw [add_none, add_none] at this
              exact this
            have d0 := q 0 (by decide)
            rw [Nat.add_zero] at d0
            exact ⟨.cons k t l body els xs, by show (Ns.items _).length = _; rw [Ns.items_cons, List.length_cons]; exact congrArg (· + 1) hx,
              .cons (World.block_lt_of_cell? W _ d0) hk ht d0 (q 1 (by decide)) (q 2 (by decide)) (q 3 (by decide)) (q 4 (by decide)) r1 r2 r3 n1 n2 n3 hN⟩
        obtain ⟨xs, hx, hN⟩ := all len (Nat.le_refl _)
        rw [Nat.sub_self, Nat.zero_mul, Nat.add_zero] at hN
        subst hx
        exact ⟨xs, _, cap, rfl, ⟨hlc, hcm, hlen, fun e => by cases e⟩, hN⟩
end Go.My

/- Arguments, opened: texts, functions, a program. No program in sight. -/
namespace Go.My
open Go.RowKit Go.Nd

structure TextTypes (P : Program) (ta ts : TypeId) : Prop where
  a : P.underlying ta = some (.slice ts)
  s : P.underlying ts = some .string
  cs : P.cellsOf ts = 1
  bs : P.bytesOf ts = 16

theorem text_of_trod {H : Type} {enc : TypeId × Value → H} {P : Program} {W : World} {ts : TypeId} (hts : P.underlying ts = some .string) {n : Nat} {cs : List Value} {y : DataW H × List MemPlace}
    (h : DataW.trod enc P W 0 (fun _ => true) true n ts cs = some y) (hw : Light P ts y.1) : ∃ t : List UInt8, cs = [.string (tx t)] ∧ t.length ≤ 140737488351232 := by
  obtain ⟨s, hs, hy, _⟩ := DataW.trod_string hts h
  refine ⟨s.data.toList, by rw [hs]; rfl, ?_⟩
  have := hw s.data.toList.length (by rw [hy]; simp [DataW.weights])
  simpa [reachBytes] using this

open Go.ChangeShapes Go.WideShapes Go.ChangeAt Go.Deep in
theorem texts_of_trod {H : Type} {enc : TypeId × Value → H} {P : Program} {W : World} {ta ts : TypeId} (T : TextTypes P ta ts) {n : Nat} {v : Value} {y : DataW H × List MemPlace}
    (hf : DataW.trod enc P W 0 (fun _ => true) true n ta [v] = some y) (hw : Light P ta y.1) : ∃ l : List (List UInt8), TextsIn W (fun b => b < W.heap.size) false v l := by
  rcases DataW.trod_slice T.a hf with ⟨hvv, hy⟩ | ⟨a, len, cap, elems, rest, n', rfl, hvv, hy, _, hlc, hcm, hel, helem, hrest, _⟩
  · obtain rfl : v = .slice none 0 0 := by simpa using hvv
    exact ⟨[], none, 0, rfl, Nat.le_refl _, Nat.zero_le _, by decide, (fun e => by cases e), fun i hi => absurd hi (Nat.not_lt_zero _)⟩
  · obtain rfl : v = .slice (some a) len cap := by simpa using hvv
    rw [hy] at hw
    obtain ⟨hb, hd⟩ := hw.slice T.a
    rw [T.bs] at hb
    obtain ⟨hrl, _⟩ := hrest rfl
    have hlen : len * 16 ≤ 140737488351232 := by
      have h1 : (elems.map (·.1)).length = len := by simpa using hel
      rw [h1] at hb
      have h2 : len * 16 ≤ (len + (rest.map (·.1)).length) * 16 := Nat.mul_le_mul_right _ (Nat.le_add_right _ _)
      first | exact Nat.le_trans h2 hb | (unfold reachBytes at hb; omega)
    rw [T.cs] at helem
    have each : ∀ i, i < len → ∃ x : List UInt8, x.length ≤ 140737488351232 ∧ (∀ j, j < 1 → W.cell? ((a.add (i * 1)).add j) = [Value.string (tx x)][j]?) := by
      intro i hi
      have h1 := helem i hi
      have hie : i < elems.length := by omega
      rw [List.getElem?_eq_getElem hie] at h1
      cases hc : W.cells? 0 (a.add (i * 1)) 1 with
      | none => rw [hc] at h1; cases h1
      | some cs =>
        rw [hc] at h1
        have h1' : DataW.trod enc P W 0 (fun _ => true) true n' ts cs = some elems[i] := h1
        obtain ⟨t, rfl, ht⟩ := text_of_trod T.s h1' (hd _ (List.mem_map.2 ⟨_, List.getElem_mem hie, rfl⟩))
        exact ⟨t, ht, (World.cells?_some hc).2.2⟩
    obtain ⟨y, hy⟩ := choose_lt each
    refine ⟨(List.range len).map y, some a, cap, by simp, by simp; exact hlc, hcm, by simpa using hlen, (fun e => by cases e), fun i hi => ?_⟩
    have hi2 : i < len := by simpa using hi
    simp only [List.getElem_map, List.getElem_range]
    obtain ⟨h1, h4⟩ := hy i hi2
    obtain ⟨b, off, spot⟩ := a
    have c0 := h4 0 (by decide)
    have hspot : spot = none := by
      obtain ⟨_, h5⟩ := hy 0 (by omega)
      simpa [Addr.add] using World.cell?_spot (h5 0 (by decide))
    subst hspot
    rw [add_none, add_none] at c0
    rw [Nat.add_zero, Nat.mul_one] at c0
    exact ⟨b, off, rfl, World.block_lt_of_cell? W _ c0, c0, h1⟩

/-- The types of a function: a list of them, one, its arguments. -/
structure FnTypes (P : Program) (tF tf ta tl tn tk ts : TypeId) : Prop where
  node : NodeTypes P tl tn tk ts
  text : TextTypes P ta ts
  l : P.underlying tF = some (.slice tf)
  f : ∃ f0 f1 f2, P.underlying tf = some (.struct #[f0, f1, f2]) ∧ f0.type = ts ∧ f0.offset = 0 ∧ f1.type = ta ∧ f1.offset = 1 ∧ f2.type = tl ∧ f2.offset = 2
  cf : P.cellsOf tf = 3
  ca : P.cellsOf ta = 1
  bf : P.bytesOf tf = 64

theorem list3 {cs : List Value} (h : cs.length = 3) : ∃ c0 c1 c2, cs = [c0, c1, c2] := by
  match cs, h with
  | [c0, c1, c2], _ => exact ⟨c0, c1, c2, rfl⟩
theorem list3' {α : Type} {cs : List α} (h : cs.length = 3) : ∃ c0 c1 c2, cs = [c0, c1, c2] := by
  match cs, h with
  | [c0, c1, c2], _ => exact ⟨c0, c1, c2, rfl⟩

theorem fn_cells {H : Type} {enc : TypeId × Value → H} {P : Program} {W : World} {tF tf ta tl tn tk ts : TypeId} (T : FnTypes P tF tf ta tl tn tk ts) {n : Nat} {cs : List Value} {y : DataW H × List MemPlace}
    (h : DataW.trod enc P W 0 (fun _ => true) true n tf cs = some y) (hw : Light P tf y.1) :
    ∃ (f : Nd.Fn) (v1 v2 : Value), cs = [.string (tx f.name), v1, v2] ∧ f.name.length ≤ 140737488351232 ∧ TextsIn W (fun b => b < W.heap.size) false v1 f.args ∧ Nodes W (fun b => b < W.heap.size) false v2 f.body := by
  obtain ⟨f0, f1, f2, hn, e0, o0, e1, o1, e2, o2⟩ := T.f
  obtain ⟨xs, m, rfl, rfl, hc, hx, hf⟩ := DataW.trod_struct hn h
  rw [T.cf] at hc
  obtain ⟨c0, c1, c2, rfl⟩ := list3 hc
  obtain ⟨y0, y1, y2, rfl⟩ := list3' (show xs.length = 3 from hx)
  have g0 := hf 0 f0 rfl
  have g1 := hf 1 f1 rfl
  have g2 := hf 2 f2 rfl
  rw [e0, o0, T.node.cs] at g0
  rw [e1, o1, T.ca] at g1
  rw [e2, o2, T.node.cl] at g2
  have hl := hw.fields hn
  have l0 := hl 0 ts y0.1 (by simp [e0]) rfl
  have l1 := hl 1 ta y1.1 (by simp [e1]) rfl
  have l2 := hl 2 tl y2.1 (by simp [e2]) rfl
  obtain ⟨t, ht, htl⟩ := text_of_trod T.node.s (show DataW.trod enc P W 0 (fun _ => true) true m ts [c0] = some y0 from g0) l0
  obtain ⟨ars, has⟩ := texts_of_trod T.text (show DataW.trod enc P W 0 (fun _ => true) true m ta [c1] = some y1 from g1) l1
  obtain ⟨bd, hbd⟩ := nodes_of_trod T.node m c2 y2 (show DataW.trod enc P W 0 (fun _ => true) true m tl [c2] = some y2 from g2) l2
  have ht' : c0 = .string (tx t) := by simpa using ht
  exact ⟨⟨t, ars, bd⟩, c1, c2, by rw [ht'], htl, has, hbd⟩

open Go.ChangeShapes Go.WideShapes Go.ChangeAt Go.Deep in
theorem funcs_of_trod {H : Type} {enc : TypeId × Value → H} {P : Program} {W : World} {tF tf ta tl tn tk ts : TypeId} (T : FnTypes P tF tf ta tl tn tk ts) {n : Nat} {v : Value} {y : DataW H × List MemPlace}
    (hf : DataW.trod enc P W 0 (fun _ => true) true n tF [v] = some y) (hw : Light P tF y.1) : ∃ l : List Nd.Fn, FuncsIn W (fun b => b < W.heap.size) false v l := by
  rcases DataW.trod_slice T.l hf with ⟨hvv, hy⟩ | ⟨a, len, cap, elems, rest, n', rfl, hvv, hy, _, hlc, hcm, hel, helem, hrest, _⟩
  · obtain rfl : v = .slice none 0 0 := by simpa using hvv
    exact ⟨[], none, 0, rfl, Nat.le_refl _, Nat.zero_le _, by decide, (fun e => by cases e), fun i hi => absurd hi (Nat.not_lt_zero _)⟩
  · obtain rfl : v = .slice (some a) len cap := by simpa using hvv
    rw [hy] at hw
    obtain ⟨hb, hd⟩ := hw.slice T.l
    rw [T.bf] at hb
    obtain ⟨hrl, _⟩ := hrest rfl
    have hlen : len * 64 ≤ 140737488351232 := by
      have h1 : (elems.map (·.1)).length = len := by simpa using hel
      rw [h1] at hb
      have h2 : len * 64 ≤ (len + (rest.map (·.1)).length) * 64 := Nat.mul_le_mul_right _ (Nat.le_add_right _ _)
      first | exact Nat.le_trans h2 hb | (unfold reachBytes at hb; omega)
    rw [T.cf] at helem
    have each : ∀ i, i < len → ∃ x : Nd.Fn, ∃ v1 v2, x.name.length ≤ 140737488351232 ∧ TextsIn W (fun b => b < W.heap.size) false v1 x.args ∧ Nodes W (fun b => b < W.heap.size) false v2 x.body ∧ (∀ j, j < 3 → W.cell? ((a.add (i * 3)).add j) = [Value.string (tx x.name), v1, v2][j]?) := by
      intro i hi
      have h1 := helem i hi
      have hie : i < elems.length := by omega
      rw [List.getElem?_eq_getElem hie] at h1
      cases hc : W.cells? 0 (a.add (i * 3)) 3 with
      | none => rw [hc] at h1; cases h1
      | some cs =>
        rw [hc] at h1
        have h1' : DataW.trod enc P W 0 (fun _ => true) true n' tf cs = some elems[i] := h1
        obtain ⟨f, v1, v2, rfl, ht, h2, h3⟩ := fn_cells T h1' (hd _ (List.mem_map.2 ⟨_, List.getElem_mem hie, rfl⟩))
        exact ⟨f, v1, v2, ht, h2, h3, (World.cells?_some hc).2.2⟩
    have : Inhabited Nd.Fn := ⟨⟨[], [], .nil⟩⟩
    obtain ⟨y, hy⟩ := choose_lt each
    refine ⟨(List.range len).map y, some a, cap, by simp, by simp; exact hlc, hcm, by simpa using hlen, (fun e => by cases e), fun i hi => ?_⟩
    have hi2 : i < len := by simpa using hi
    simp only [List.getElem_map, List.getElem_range]
    obtain ⟨v1, v2, h1, h2, h3, h4⟩ := hy i hi2
    obtain ⟨b, off, spot⟩ := a
    have c0 := h4 0 (by decide)
    have hspot : spot = none := by
      obtain ⟨_, _, _, _, _, h5⟩ := hy 0 (by omega)
      simpa [Addr.add] using World.cell?_spot (h5 0 (by decide))
    subst hspot
    have c1 := h4 1 (by decide)
    have c2 := h4 2 (by decide)
    rw [add_none, add_none] at c0 c1 c2
    rw [Nat.add_zero] at c0
    exact ⟨b, off, v1, v2, rfl, World.block_lt_of_cell? W _ c0, h1, c0, c1, c2, h2, h3⟩
end Go.My

/- Arguments, opened, of so great a bulk: programs as trees (NdArgs, NdPArgs, with how many nodes and letters there are). -/
namespace Go.Proofs.YtmkhfonafcikdaaGreatDoor
open Go.RowKit Go.My Go.Nd

theorem bulk_one {H : Type} (d : DataW H) : 1 ≤ Rows.uptoBulk d := by
  cases d with
  | lit l => cases l <;> simp [Rows.uptoBulk]
  | nil => simp [Rows.uptoBulk]
  | ptr d => simp [Rows.uptoBulk]
  | slice elems spare => simp [Rows.uptoBulk]
  | agg parts => simp [Rows.uptoBulk]
  | iface t d => simp [Rows.uptoBulk]
  | map entries => simp [Rows.uptoBulk]
  | held h => simp [Rows.uptoBulk]

/-- The five cells of one node, read. -/
theorem node_cellsU {H : Type} {enc : TypeId × Value → H} {P : Program} {W : World} {tl tn tk ts : TypeId} (T : NodeTypes P tl tn tk ts) {n : Nat} {cs : List Value} {y : DataW H × List MemPlace}
    (h : DataW.trod enc P W 0 (fun _ => true) true n tn cs = some y) (hw : Light P tn y.1) :
    ∃ (m k : Nat) (t : List UInt8) (v1 v2 v3 : Value) (y1 y2 y3 : DataW H × List MemPlace), n = m + 1 ∧ cs = [.int .u8 (k : Int), .string (tx t), v1, v2, v3] ∧ k < 256 ∧ t.length ≤ 140737488351232 ∧
      DataW.trod enc P W 0 (fun _ => true) true m tl [v1] = some y1 ∧ DataW.trod enc P W 0 (fun _ => true) true m tl [v2] = some y2 ∧ DataW.trod enc P W 0 (fun _ => true) true m tl [v3] = some y3 ∧
      Light P tl y1.1 ∧ Light P tl y2.1 ∧ Light P tl y3.1 ∧ 1 + t.length + Rows.uptoBulk y1.1 + Rows.uptoBulk y2.1 + Rows.uptoBulk y3.1 ≤ Rows.uptoBulk y.1 := by
  obtain ⟨f0, f1, f2, f3, f4, hn, e0, o0, e1, o1, e2, o2, e3, o3, e4, o4⟩ := T.n
  obtain ⟨xs, m, rfl, rfl, hc, hx, hf⟩ := DataW.trod_struct hn h
  rw [T.cn] at hc
  obtain ⟨c0, c1, c2, c3, c4, rfl⟩ := list5 hc
  obtain ⟨y0, y1, y2, y3, y4, rfl⟩ := list5' (show xs.length = 5 from hx)
  have g0 := hf 0 f0 rfl
  have g1 := hf 1 f1 rfl
  have g2 := hf 2 f2 rfl
  have g3 := hf 3 f3 rfl
  have g4 := hf 4 f4 rfl
  rw [e0, o0, T.ck] at g0
  rw [e1, o1, T.cs] at g1
  rw [e2, o2, T.cl] at g2
  rw [e3, o3, T.cl] at g3
  rw [e4, o4, T.cl] at g4
  obtain ⟨z, hz, hy0, hwf⟩ := DataW.trod_int T.k (show DataW.trod enc P W 0 (fun _ => true) true m tk [c0] = some y0 from g0)
  obtain ⟨s, hs, hy1, _⟩ := DataW.trod_string T.s (show DataW.trod enc P W 0 (fun _ => true) true m ts [c1] = some y1 from g1)
  have hl := hw.fields hn
  have l1 := hl 1 ts y1.1 (by simp [e1]) rfl
  have l2 := hl 2 tl y2.1 (by simp [e2]) rfl
  have l3 := hl 3 tl y3.1 (by simp [e3]) rfl
  have l4 := hl 4 tl y4.1 (by simp [e4]) rfl
  have hz' : c0 = .int .u8 z := by simpa using hz
  have hs' : c1 = .string s := by simpa using hs
  simp [Lit.wf, IntKind.min, IntKind.max, IntKind.signed, IntKind.bits] at hwf
  refine ⟨m, z.toNat, s.data.toList, c2, c3, c4, y2, y3, y4, rfl, ?_, by omega, ?_, g2, g3, g4, l2, l3, l4, ?_⟩
  · have : ((z.toNat : Nat) : Int) = z := by omega
    rw [hz', hs', this]; rfl
  · have := l1 s.data.toList.length (by rw [hy1]; simp [DataW.weights])
    simpa [reachBytes] using this
  · have := bulk_one y0.1
    simp only [List.map_cons, List.map_nil, Rows.uptoBulk, Rows.uptoBulkAll]
    rw [hy1]
    simp only [Rows.uptoBulk]
    omega

/-- A list of nodes that comes in. -/
theorem nodes_of_trodU {H : Type} {enc : TypeId × Value → H} {P : Program} {W : World} {tl tn tk ts : TypeId} (T : NodeTypes P tl tn tk ts) :
    ∀ (n : Nat) (v : Value) (y : DataW H × List MemPlace), DataW.trod enc P W 0 (fun _ => true) true n tl [v] = some y → Light P tl y.1 → ∃ xs : Ns, Nodes W (fun b => b < W.heap.size) false v xs ∧ xs.sz ≤ Rows.uptoBulk y.1 := by
  intro n
  induction n using Nat.strongRecOn with
  | _ n ih =>
    intro v y h hw
    rcases DataW.trod_slice T.l h with ⟨hv, hy⟩ | ⟨a, len, cap, elems, rest, n', rfl, hv, hy, _, hlc, hcm, hel, helem, hrest, _⟩
    · obtain rfl : v = .slice none 0 0 := by simpa using hv
      exact ⟨.nil, ⟨none, 0, rfl, ⟨Nat.le_refl _, Nat.zero_le _, by decide, fun e => by cases e⟩, .nil none (fun e => by cases e)⟩, Nat.zero_le _⟩
    · obtain rfl : v = .slice (some a) len cap := by simpa using hv
      rw [hy] at hw
      obtain ⟨hb, hd⟩ := hw.slice T.l
      rw [T.bn] at hb
      obtain ⟨hrl, _⟩ := hrest rfl
      have hlen : len * 96 ≤ 140737488351232 := by
        have h1 : (elems.map (·.1)).length = len := by simpa using hel
        rw [h1] at hb
        have h2 : len * 96 ≤ (len + (rest.map (·.1)).length) * 96 := Nat.mul_le_mul_right _ (Nat.le_add_right _ _)
        exact Nat.le_trans h2 hb
      rw [T.cn] at helem
      have hbulk : Rows.uptoBulkAll (elems.map (·.1)) ≤ Rows.uptoBulk y.1 := by rw [hy]; simp only [Rows.uptoBulk]; omega
      -- each node
      have each : ∀ i (hie : i < elems.length), i < len → ∃ (k : Nat) (t : List UInt8) (l body els : Ns) (a1 a2 a3 : Option Addr) (c1 c2 c3 : Nat), k < 256 ∧ t.length ≤ 140737488351232 ∧ (∀ j, j < 5 → W.cell? ((a.add (i * 5)).add j) = [Value.int .u8 (k : Int), .string (tx t), .slice a1 l.len c1, .slice a2 body.len c2, .slice a3 els.len c3][j]?) ∧
          Room false l.len c1 ∧ Room false body.len c2 ∧ Room false els.len c3 ∧ NodesAt W (fun b => b < W.heap.size) false a1 l ∧ NodesAt W (fun b => b < W.heap.size) false a2 body ∧ NodesAt W (fun b => b < W.heap.size) false a3 els ∧ 1 + t.length + l.sz + body.sz + els.sz ≤ Rows.uptoBulk (elems[i]).1 := by
        intro i hie hi
        have h1 := helem i hi
        rw [List.getElem?_eq_getElem hie] at h1
        cases hc : W.cells? 0 (a.add (i * 5)) 5 with
        | none => rw [hc] at h1; cases h1
        | some cs =>
          rw [hc] at h1
          have h1' : DataW.trod enc P W 0 (fun _ => true) true n' tn cs = some elems[i] := h1
          obtain ⟨m, k, t, v1, v2, v3, y1, y2, y3, rfl, rfl, hk, ht, q1, q2, q3, l1, l2, l3, hbk⟩ := node_cellsU T h1' (hd _ (List.mem_map.2 ⟨_, List.getElem_mem hie, rfl⟩))
          obtain ⟨x1, ⟨a1, c1, e1, r1, n1⟩, b1⟩ := ih m (by omega) v1 y1 q1 l1
          obtain ⟨x2, ⟨a2, c2, e2, r2, n2⟩, b2⟩ := ih m (by omega) v2 y2 q2 l2
          obtain ⟨x3, ⟨a3, c3, e3, r3, n3⟩, b3⟩ := ih m (by omega) v3 y3 q3 l3
          subst e1 e2 e3
          exact ⟨k, t, x1, x2, x3, a1, a2, a3, c1, c2, c3, hk, ht, (World.cells?_some hc).2.2, r1, r2, r3, n1, n2, n3, by omega⟩
      by_cases h0 : len = 0
      · subst h0
        exact ⟨.nil, ⟨some a, cap, rfl, ⟨Nat.zero_le _, hcm, by decide, fun e => by cases e⟩, .nil _ (fun e => by cases e)⟩, Nat.zero_le _⟩
      · obtain ⟨b, off, spot⟩ := a
        have hspot : spot = none := by
          obtain ⟨_, _, _, _, _, _, _, _, _, _, _, _, _, hcell, _⟩ := each 0 (by omega) (by omega)
          simpa [Addr.add] using World.cell?_spot (hcell 0 (by decide))
        subst hspot
        have all : ∀ j, j ≤ len → ∃ xs : Ns, xs.len = j ∧ NodesAt W (fun b => b < W.heap.size) false (some ⟨b, off + (len - j) * 5, none⟩) xs ∧ xs.sz ≤ Rows.uptoBulkAll ((elems.drop (len - j)).map (·.1)) := by
          intro j
          induction j with
          | zero => intro _; exact ⟨.nil, rfl, .nil _ (fun e => by cases e), Nat.zero_le _⟩
          | succ j ihj =>
            intro hj
            obtain ⟨xs, hx, hN, hB⟩ := ihj (by omega)
            obtain ⟨k, t, l, body, els, a1, a2, a3, c1, c2, c3, hk, ht, hcell, r1, r2, r3, n1, n2, n3, hbk⟩ := each (len - (j + 1)) (by omega) (by omega)
            have e6 : len - j = len - (j + 1) + 1 := by omega
            have e5 : off + (len - j) * 5 = off + (len - (j + 1)) * 5 + 5 := by
              rw [e6, Nat.succ_mul]; omega
            rw [e5] at hN
            have q : ∀ o, o < 5 → W.cell? ⟨b, off + (len - (j + 1)) * 5 + o, none⟩ = [Value.int .u8 (k : Int), .string (tx t), .slice a1 l.len c1, .slice a2 body.len c2, .slice a3 els.len c3][o]? := by
              intro o ho
              have := hcell o ho
              rw [add_none, add_none] at this
              exact this
            have d0 := q 0 (by decide)
            rw [Nat.add_zero] at d0
            refine ⟨.cons k t l body els xs, by show (Ns.items _).length = _; rw [Ns.items_cons, List.length_cons]; exact congrArg (· + 1) hx,
              .cons (World.block_lt_of_cell? W _ d0) hk ht d0 (q 1 (by decide)) (q 2 (by decide)) (q 3 (by decide)) (q 4 (by decide)) r1 r2 r3 n1 n2 n3 hN, ?_⟩
            rw [List.drop_eq_getElem_cons (show len - (j + 1) < elems.length by omega), ← e6, List.map_cons]
            simp only [Rows.uptoBulkAll]
            show 1 + t.length + l.sz + body.sz + els.sz + xs.sz ≤ _
            omega
        obtain ⟨xs, hx, hN, hB⟩ := all len (Nat.le_refl _)
        rw [Nat.sub_self, Nat.zero_mul, Nat.add_zero] at hN
        rw [Nat.sub_self, List.drop_zero] at hB
        subst hx
        exact ⟨xs, ⟨_, cap, rfl, ⟨hlc, hcm, hlen, fun e => by cases e⟩, hN⟩, by omega⟩

theorem sum_bulk {H : Type} : ∀ (l : List (DataW H)) (f : Nat → Nat), (∀ i (h : i < l.length), f i ≤ Rows.uptoBulk l[i]) → ((List.range l.length).map f).sum ≤ Rows.uptoBulkAll l := by
  intro l
  induction l with
  | nil => intro f _; exact Nat.zero_le _
  | cons d l ih =>
    intro f h
    have h0 := h 0 (by simp)
    have h1 := ih (fun i => f (i + 1)) (fun i hi => h (i + 1) (by simpa using hi))
    rw [List.length_cons, List.range_succ_eq_map, List.map_cons, List.sum_cons, List.map_map]
    simp only [Rows.uptoBulkAll]
    have e : (f ∘ Nat.succ) = fun i => f (i + 1) := rfl
    rw [e]
    simp only [List.getElem_cons_zero] at h0
    omega
theorem sum_bulk' {H : Type} {α : Type} (l : List (DataW H)) (n : Nat) (hn : l.length = n) (y : Nat → α) (f : α → Nat) (h : ∀ i (h : i < l.length), f (y i) ≤ Rows.uptoBulk l[i]) : (((List.range n).map y).map f).sum ≤ Rows.uptoBulkAll l := by
  subst hn
  rw [List.map_map]
  exact sum_bulk l (f ∘ y) h

open Go.ChangeShapes Go.WideShapes Go.ChangeAt Go.Deep in
theorem texts_of_trodU {H : Type} {enc : TypeId × Value → H} {P : Program} {W : World} {ta ts : TypeId} (T : TextTypes P ta ts) {n : Nat} {v : Value} {y : DataW H × List MemPlace}
    (hf : DataW.trod enc P W 0 (fun _ => true) true n ta [v] = some y) (hw : Light P ta y.1) : ∃ l : List (List UInt8), TextsIn W (fun b => b < W.heap.size) false v l ∧ (l.map (·.length + 1)).sum ≤ Rows.uptoBulk y.1 := by
  rcases DataW.trod_slice T.a hf with ⟨hvv, hy⟩ | ⟨a, len, cap, elems, rest, n', rfl, hvv, hy, _, hlc, hcm, hel, helem, hrest, _⟩
  · obtain rfl : v = .slice none 0 0 := by simpa using hvv
    exact ⟨[], ⟨none, 0, rfl, Nat.le_refl _, Nat.zero_le _, by decide, (fun e => by cases e), fun i hi => absurd hi (Nat.not_lt_zero _)⟩, Nat.zero_le _⟩
  · obtain rfl : v = .slice (some a) len cap := by simpa using hvv
    rw [hy] at hw
    obtain ⟨hb, hd⟩ := hw.slice T.a
    rw [T.bs] at hb
    obtain ⟨hrl, _⟩ := hrest rfl
    have hlen : len * 16 ≤ 140737488351232 := by
      have h1 : (elems.map (·.1)).length = len := by simpa using hel
      rw [h1] at hb
      have h2 : len * 16 ≤ (len + (rest.map (·.1)).length) * 16 := Nat.mul_le_mul_right _ (Nat.le_add_right _ _)
      first | exact Nat.le_trans h2 hb | (unfold reachBytes at hb; omega)
    rw [T.cs] at helem
    have hbulk : Rows.uptoBulkAll (elems.map (·.1)) ≤ Rows.uptoBulk y.1 := by rw [hy]; simp only [Rows.uptoBulk]; omega
    have each : ∀ i, i < len → ∃ x : List UInt8, x.length ≤ 140737488351232 ∧ (∀ j, j < 1 → W.cell? ((a.add (i * 1)).add j) = [Value.string (tx x)][j]?) ∧ ∀ (h : i < elems.length), x.length + 1 ≤ Rows.uptoBulk (elems[i]).1 := by
      intro i hi
      have h1 := helem i hi
      have hie : i < elems.length := by omega
      rw [List.getElem?_eq_getElem hie] at h1
      cases hc : W.cells? 0 (a.add (i * 1)) 1 with
      | none => rw [hc] at h1; cases h1
      | some cs =>
        rw [hc] at h1
        have h1' : DataW.trod enc P W 0 (fun _ => true) true n' ts cs = some elems[i] := h1
        have hlw := hd _ (List.mem_map.2 ⟨_, List.getElem_mem hie, rfl⟩)
        obtain ⟨s, hs, hy1, _⟩ := DataW.trod_string T.s h1'
        have ht := hlw s.data.toList.length (by rw [hy1]; simp [DataW.weights])
        subst hs
        refine ⟨s.data.toList, by simpa [reachBytes] using ht, (World.cells?_some hc).2.2, fun _ => ?_⟩
        rw [hy1]; simp [Rows.uptoBulk]
    obtain ⟨y', hy'⟩ := choose_lt each
    refine ⟨(List.range len).map y', ⟨some a, cap, by simp, by simp; exact hlc, hcm, by simpa using hlen, (fun e => by cases e), fun i hi => ?_⟩, ?_⟩
    · have hi2 : i < len := by simpa using hi
      simp only [List.getElem_map, List.getElem_range]
      obtain ⟨h1, h4, _⟩ := hy' i hi2
      obtain ⟨b, off, spot⟩ := a
      have c0 := h4 0 (by decide)
      have hspot : spot = none := by
        obtain ⟨_, h5, _⟩ := hy' 0 (by omega)
        simpa [Addr.add] using World.cell?_spot (h5 0 (by decide))
      subst hspot
      rw [add_none, add_none] at c0
      rw [Nat.add_zero, Nat.mul_one] at c0
      exact ⟨b, off, rfl, World.block_lt_of_cell? W _ c0, c0, h1⟩
    · have := sum_bulk' (elems.map (·.1)) len (by simpa using hel) y' (fun x => x.length + 1) (fun i hi => by
        have hi2 : i < elems.length := by simpa using hi
        obtain ⟨_, _, h⟩ := hy' i (by omega)
        rw [List.getElem_map]
        exact h hi2)
      omega

theorem fn_cellsU {H : Type} {enc : TypeId × Value → H} {P : Program} {W : World} {tF tf ta tl tn tk ts : TypeId} (T : FnTypes P tF tf ta tl tn tk ts) {n : Nat} {cs : List Value} {y : DataW H × List MemPlace}
    (h : DataW.trod enc P W 0 (fun _ => true) true n tf cs = some y) (hw : Light P tf y.1) :
    ∃ (f : Nd.Fn) (v1 v2 : Value), cs = [.string (tx f.name), v1, v2] ∧ f.name.length ≤ 140737488351232 ∧ TextsIn W (fun b => b < W.heap.size) false v1 f.args ∧ Nodes W (fun b => b < W.heap.size) false v2 f.body ∧ fsz f ≤ Rows.uptoBulk y.1 := by
  obtain ⟨f0, f1, f2, hn, e0, o0, e1, o1, e2, o2⟩ := T.f
  obtain ⟨xs, m, rfl, rfl, hc, hx, hf⟩ := DataW.trod_struct hn h
  rw [T.cf] at hc
  obtain ⟨c0, c1, c2, rfl⟩ := list3 hc
  obtain ⟨y0, y1, y2, rfl⟩ := list3' (show xs.length = 3 from hx)
  have g0 := hf 0 f0 rfl
  have g1 := hf 1 f1 rfl
  have g2 := hf 2 f2 rfl
  rw [e0, o0, T.node.cs] at g0
  rw [e1, o1, T.ca] at g1
  rw [e2, o2, T.node.cl] at g2
  have hl := hw.fields hn
  have l0 := hl 0 ts y0.1 (by simp [e0]) rfl
  have l1 := hl 1 ta y1.1 (by simp [e1]) rfl
  have l2 := hl 2 tl y2.1 (by simp [e2]) rfl
  have g0' := show DataW.trod enc P W 0 (fun _ => true) true m ts [c0] = some y0 from g0
  obtain ⟨s, hs, hy1, _⟩ := DataW.trod_string T.node.s g0'
  have htl := l0 s.data.toList.length (by rw [hy1]; simp [DataW.weights])
  obtain ⟨ags, has, bas⟩ := texts_of_trodU T.text (show DataW.trod enc P W 0 (fun _ => true) true m ta [c1] = some y1 from g1) l1
  obtain ⟨bd, hbd, bbd⟩ := nodes_of_trodU T.node m c2 y2 (show DataW.trod enc P W 0 (fun _ => true) true m tl [c2] = some y2 from g2) l2
  have ht' : c0 = .string s := by simpa using hs
  refine ⟨⟨s.data.toList, ags, bd⟩, c1, c2, by rw [ht']; rfl, by simpa [reachBytes] using htl, has, hbd, ?_⟩
  simp only [List.map_cons, List.map_nil, Rows.uptoBulk, Rows.uptoBulkAll]
  rw [hy1]
  simp only [Rows.uptoBulk]
  unfold fsz
  simp only
  omega

open Go.ChangeShapes Go.WideShapes Go.ChangeAt Go.Deep in
theorem funcs_of_trodU {H : Type} {enc : TypeId × Value → H} {P : Program} {W : World} {tF tf ta tl tn tk ts : TypeId} (T : FnTypes P tF tf ta tl tn tk ts) {n : Nat} {v : Value} {y : DataW H × List MemPlace}
    (hf : DataW.trod enc P W 0 (fun _ => true) true n tF [v] = some y) (hw : Light P tF y.1) : ∃ l : List Nd.Fn, FuncsIn W (fun b => b < W.heap.size) false v l ∧ (l.map fsz).sum ≤ Rows.uptoBulk y.1 := by
  rcases DataW.trod_slice T.l hf with ⟨hvv, hy⟩ | ⟨a, len, cap, elems, rest, n', rfl, hvv, hy, _, hlc, hcm, hel, helem, hrest, _⟩
  · obtain rfl : v = .slice none 0 0 := by simpa using hvv
    exact ⟨[], ⟨none, 0, rfl, Nat.le_refl _, Nat.zero_le _, by decide, (fun e => by cases e), fun i hi => absurd hi (Nat.not_lt_zero _)⟩, Nat.zero_le _⟩
  · obtain rfl : v = .slice (some a) len cap := by simpa using hvv
    rw [hy] at hw
    obtain ⟨hb, hd⟩ := hw.slice T.l
    rw [T.bf] at hb
    obtain ⟨hrl, _⟩ := hrest rfl
    have hlen : len * 64 ≤ 140737488351232 := by
      have h1 : (elems.map (·.1)).length = len := by simpa using hel
      rw [h1] at hb
      have h2 : len * 64 ≤ (len + (rest.map (·.1)).length) * 64 := Nat.mul_le_mul_right _ (Nat.le_add_right _ _)
      first | exact Nat.le_trans h2 hb | (unfold reachBytes at hb; omega)
    rw [T.cf] at helem
    have hbulk : Rows.uptoBulkAll (elems.map (·.1)) ≤ Rows.uptoBulk y.1 := by rw [hy]; simp only [Rows.uptoBulk]; omega
    have each : ∀ i, i < len → ∃ x : Nd.Fn, ∃ v1 v2, x.name.length ≤ 140737488351232 ∧ TextsIn W (fun b => b < W.heap.size) false v1 x.args ∧ Nodes W (fun b => b < W.heap.size) false v2 x.body ∧ (∀ j, j < 3 → W.cell? ((a.add (i * 3)).add j) = [Value.string (tx x.name), v1, v2][j]?) ∧ ∀ (h : i < elems.length), fsz x ≤ Rows.uptoBulk (elems[i]).1 := by
      intro i hi
      have h1 := helem i hi
      have hie : i < elems.length := by omega
      rw [List.getElem?_eq_getElem hie] at h1
      cases hc : W.cells? 0 (a.add (i * 3)) 3 with
      | none => rw [hc] at h1; cases h1
      | some cs =>
        rw [hc] at h1
        have h1' : DataW.trod enc P W 0 (fun _ => true) true n' tf cs = some elems[i] := h1
        obtain ⟨f, v1, v2, rfl, ht, h2, h3, hbk⟩ := fn_cellsU T h1' (hd _ (List.mem_map.2 ⟨_, List.getElem_mem hie, rfl⟩))
        exact ⟨f, v1, v2, ht, h2, h3, (World.cells?_some hc).2.2, fun _ => hbk⟩
    have : Inhabited Nd.Fn := ⟨⟨[], [], .nil⟩⟩
    obtain ⟨y', hy'⟩ := choose_lt each
    refine ⟨(List.range len).map y', ⟨some a, cap, by simp, by simp; exact hlc, hcm, by simpa using hlen, (fun e => by cases e), fun i hi => ?_⟩, ?_⟩
    · have hi2 : i < len := by simpa using hi
      simp only [List.getElem_map, List.getElem_range]
      obtain ⟨v1, v2, h1, h2, h3, h4, _⟩ := hy' i hi2
      obtain ⟨b, off, spot⟩ := a
      have c0 := h4 0 (by decide)
      have hspot : spot = none := by
        obtain ⟨_, _, _, _, _, h5, _⟩ := hy' 0 (by omega)
        simpa [Addr.add] using World.cell?_spot (h5 0 (by decide))
      subst hspot
      have c1 := h4 1 (by decide)
      have c2 := h4 2 (by decide)
      rw [add_none, add_none] at c0 c1 c2
      rw [Nat.add_zero] at c0
      exact ⟨b, off, v1, v2, rfl, World.block_lt_of_cell? W _ c0, h1, c0, c1, c2, h2, h3⟩
    · have := sum_bulk' (elems.map (·.1)) len (by simpa using hel) y' fsz (fun i hi => by
        have hi2 : i < elems.length := by simpa using hi
        obtain ⟨_, _, _, _, _, _, h⟩ := hy' i (by omega)
        rw [List.getElem_map]
        exact h hi2)
      omega
end Go.Proofs.YtmkhfonafcikdaaGreatDoor

/- The types of programs, as this program numbers them. -/
namespace Go.Proofs.YtmkhfonafcikdaaGreatDoor
open Go.RowKit Go.My

theorem nodeTypes : NodeTypes Tryz.prog 23 61 59 9 :=
  ⟨Tryz.underlying23, ⟨_, _, _, _, _, Tryz.underlying61, rfl, rfl, rfl, rfl, rfl, rfl, rfl, rfl, rfl, rfl⟩, Tryz.underlying59, Tryz.underlying9, by kernel_rfl, by kernel_rfl, by kernel_rfl, by kernel_rfl, by kernel_rfl⟩
theorem textTypes : TextTypes Tryz.prog 32 9 := ⟨Tryz.underlying32, Tryz.underlying9, by kernel_rfl, by kernel_rfl⟩
theorem fnTypes : FnTypes Tryz.prog 22 57 32 23 61 59 9 :=
  ⟨nodeTypes, textTypes, Tryz.underlying22, ⟨_, _, _, Tryz.underlying57, rfl, rfl, rfl, rfl, rfl, rfl⟩, by kernel_rfl, by kernel_rfl, by kernel_rfl⟩
theorem cellsProg : Tryz.prog.cellsOf 25 = 2 := by kernel_rfl
end Go.Proofs.YtmkhfonafcikdaaGreatDoor

/- Nodes in memory: the cells of a list of nodes. No program in sight. -/
namespace Go.My
open Go.RowKit Go.Nd

/-- The five cells of a node, its kind, its text, its lists as values. -/
structure El where
  kind : Nat
  text : List UInt8
  v1 : Value
  v2 : Value
  v3 : Value
def El.cells (x : El) : List Value := [.int .u8 (x.kind : Int), .string (tx x.text), x.v1, x.v2, x.v3]
def elCells (l : List El) : List Value := l.flatMap El.cells
theorem elCells_cons (x : El) (l : List El) : elCells (x :: l) = .int .u8 (x.kind : Int) :: .string (tx x.text) :: x.v1 :: x.v2 :: x.v3 :: elCells l := by simp [elCells, El.cells]
theorem elCells_length (l : List El) : (elCells l).length = l.length * 5 := by
  induction l with
  | nil => rfl
  | cons x l ih => rw [elCells_cons]; simp only [List.length_cons, ih]; omega
theorem elCells_append (a b : List El) : elCells (a ++ b) = elCells a ++ elCells b := by simp [elCells]

/-- It is this node. -/
structure ElIs (w : World) (S : Nat → Prop) (tw : Bool) (e : El) (x : Nd) : Prop where
  kind : e.kind = x.kind ∧ x.kind < 256
  text : e.text = x.text ∧ x.text.length ≤ 140737488351232
  l : Nodes w S tw e.v1 x.l
  body : Nodes w S tw e.v2 x.body
  els : Nodes w S tw e.v3 x.els
theorem ElIs.frame {w w' : World} {S : Nat → Prop} {tw : Bool} {e : El} {x : Nd} (h : ElIs w S tw e x) (hs : ∀ b, S b → b < w.heap.size → w'.heap[b]? = w.heap[b]?) : ElIs w' S tw e x := ⟨h.kind, h.text, h.l.frame hs, h.body.frame hs, h.els.frame hs⟩
theorem ElIs.mono {w : World} {S T : Nat → Prop} {tw : Bool} {e : El} {x : Nd} (h : ElIs w S tw e x) (hs : ∀ b, b < w.heap.size → S b → T b) : ElIs w T tw e x := ⟨h.kind, h.text, h.l.mono hs, h.body.mono hs, h.els.mono hs⟩

/-- Cells in a row read as nodes. -/
theorem nodesAt_of {w : World} {S : Nat → Prop} {tw : Bool} {b : Nat} (hS : S b) : ∀ (xs : Ns) (els : List El) (off : Nat), els.length = xs.items.length → (∀ j (h : j < els.length) (h' : j < xs.items.length), ElIs w S tw els[j] xs.items[j]) →
    (∀ j u, (elCells els)[j]? = some u → w.cell? ⟨b, off + j, none⟩ = some u) → (tw = true → NodeMark w b (off + els.length * 5)) → NodesAt w S tw (some ⟨b, off, none⟩) xs := by
  intro xs
  induction xs with
  | nil =>
    intro els off hl _ _ hm
    have : els = [] := List.eq_nil_of_length_eq_zero hl
    subst this
    exact .nil _ fun e => ⟨b, off, rfl, hS, by simpa using hm e⟩
  | cons k t l body el r _ _ _ ihr =>
    intro els off hl he hc hm
    rw [Ns.items_cons, List.length_cons] at hl
    obtain ⟨e, els, rfl⟩ : ∃ e q, els = e :: q := by cases els with | nil => simp at hl | cons e q => exact ⟨e, q, rfl⟩
    have h0 := he 0 (by simp) (by simp [Ns.items_cons])
    simp only [List.getElem_cons_zero, Ns.items_cons] at h0
    obtain ⟨a1, c1, f1, r1, n1⟩ := h0.l
    obtain ⟨a2, c2, f2, r2, n2⟩ := h0.body
    obtain ⟨a3, c3, f3, r3, n3⟩ := h0.els
    have q : ∀ j u, j < 5 → (e.cells)[j]? = some u → w.cell? ⟨b, off + j, none⟩ = some u := fun j u hj hu => hc j u (by
      rw [elCells_cons]
      match j, hj with
      | 0, _ => exact hu
      | 1, _ => exact hu
      | 2, _ => exact hu
      | 3, _ => exact hu
      | 4, _ => exact hu)
    have q0 := q 0 _ (by decide) rfl
    rw [Nat.add_zero, h0.kind.1] at q0
    have q1 := q 1 _ (by decide) rfl
    rw [h0.text.1] at q1
    have q2 := q 2 _ (by decide) rfl
    have q3 := q 3 _ (by decide) rfl
    have q4 := q 4 _ (by decide) rfl
    rw [f1] at q2
    rw [f2] at q3
    rw [f3] at q4
    refine .cons hS h0.kind.2 h0.text.2 q0 q1 q2 q3 q4 r1 r2 r3 n1 n2 n3 (ihr els (off + 5) (by simpa using hl) (fun j h h' => ?_) (fun j u hu => ?_) (fun et => ?_))
    · have := he (j + 1) (by simpa using h) (by rw [Ns.items_cons]; simpa using h')
      simpa [Ns.items_cons] using this
    · have := hc (j + 5) u (by rw [elCells_cons]; exact hu)
      rw [show off + 5 + j = off + (j + 5) by omega]; exact this
    · have := hm et
      rw [List.length_cons] at this
      rw [show off + 5 + els.length * 5 = off + (els.length + 1) * 5 by omega]; exact this
end Go.My

/- Nodes in memory that is new: each list stands in a block of its own. No program in sight. -/
namespace Go.My
open Go.RowKit Go.Nd

/-- A list of nodes; F: the blocks of it, and of all lists in it. -/
inductive LF (w : World) (T : TypeId) : List Nat → Value → Ns → Prop
  | mk {v : Value} {xs : Ns} {els : List El} {k : Option Nat} {f1 f2 f3 : Nat → List Nat} (ho : Own w T 5 v xs.len (elCells els) k) (hn : xs.len * 96 ≤ 140737488351232) (he : els.length = xs.items.length)
      (hk : ∀ j (h : j < els.length) (h' : j < xs.items.length), (els[j].kind = xs.items[j].kind ∧ xs.items[j].kind < 256) ∧ els[j].text = xs.items[j].text ∧ xs.items[j].text.length ≤ 140737488351232)
      (g1 : ∀ j (h : j < els.length) (h' : j < xs.items.length), LF w T (f1 j) els[j].v1 xs.items[j].l) (g2 : ∀ j (h : j < els.length) (h' : j < xs.items.length), LF w T (f2 j) els[j].v2 xs.items[j].body)
      (g3 : ∀ j (h : j < els.length) (h' : j < xs.items.length), LF w T (f3 j) els[j].v3 xs.items[j].els) : LF w T (k.toList ++ (List.range els.length).flatMap fun j => f1 j ++ (f2 j ++ f3 j)) v xs

/-- A node. -/
def NF (w : World) (T : TypeId) (F : List Nat) (e : El) (x : Nd) : Prop :=
  ∃ F1 F2 F3, F = F1 ++ (F2 ++ F3) ∧ ((e.kind = x.kind ∧ x.kind < 256) ∧ e.text = x.text ∧ x.text.length ≤ 140737488351232) ∧ LF w T F1 e.v1 x.l ∧ LF w T F2 e.v2 x.body ∧ LF w T F3 e.v3 x.els

theorem LF.frame {w w' : World} {T : TypeId} {F : List Nat} {v : Value} {xs : Ns} (h : LF w T F v xs) (hs : ∀ b ∈ F, w'.heap[b]? = w.heap[b]?) : LF w' T F v xs := by
  induction h with
  | @mk v xs els k f1 f2 f3 ho hn he hk g1 g2 g3 i1 i2 i3 =>
    have mem : ∀ j, j < els.length → ∀ b, b ∈ f1 j ++ (f2 j ++ f3 j) → b ∈ k.toList ++ (List.range els.length).flatMap fun j => f1 j ++ (f2 j ++ f3 j) := fun j hj b hb =>
      List.mem_append_right _ (List.mem_flatMap.2 ⟨j, List.mem_range.2 hj, hb⟩)
    refine .mk (ho.frame fun b hb => hs b (by subst hb; simp)) hn he hk (fun j h h' => i1 j h h' fun b hb => hs b (mem j h b ?_)) (fun j h h' => i2 j h h' fun b hb => hs b (mem j h b ?_)) (fun j h h' => i3 j h h' fun b hb => hs b (mem j h b ?_))
    · exact List.mem_append_left _ hb
    · exact List.mem_append_right _ (List.mem_append_left _ hb)
    · exact List.mem_append_right _ (List.mem_append_right _ hb)

theorem NF.frame {w w' : World} {T : TypeId} {F : List Nat} {e : El} {x : Nd} (h : NF w T F e x) (hs : ∀ b ∈ F, w'.heap[b]? = w.heap[b]?) : NF w' T F e x := by
  obtain ⟨F1, F2, F3, rfl, h0, h1, h2, h3⟩ := h
  exact ⟨F1, F2, F3, rfl, h0, h1.frame fun b hb => hs b (by simp [hb]), h2.frame fun b hb => hs b (by simp [hb]), h3.frame fun b hb => hs b (by simp [hb])⟩

theorem LF.lt {w : World} {T : TypeId} {F : List Nat} {v : Value} {xs : Ns} (h : LF w T F v xs) : ∀ b ∈ F, b < w.heap.size := by
  induction h with
  | @mk v xs els k f1 f2 f3 ho hn he hk g1 g2 g3 i1 i2 i3 =>
    intro b hb
    rcases List.mem_append.1 hb with hb | hb
    · exact ho.lt b (by simpa using hb)
    · obtain ⟨j, hj, hb⟩ := List.mem_flatMap.1 hb
      have hj' := List.mem_range.1 hj
      rcases List.mem_append.1 hb with hb | hb
      · exact i1 j hj' (he ▸ hj') b hb
      · rcases List.mem_append.1 hb with hb | hb
        · exact i2 j hj' (he ▸ hj') b hb
        · exact i3 j hj' (he ▸ hj') b hb

theorem LF.nil (w : World) (T : TypeId) : LF w T [] (.slice none 0 0) .nil := by
  have := LF.mk (T := T) (els := []) (xs := .nil) (k := none) (f1 := fun _ => []) (f2 := fun _ => []) (f3 := fun _ => []) (Own.nil w T 5) (Nat.zero_le _) rfl (fun j h => absurd h (Nat.not_lt_zero _)) (fun j h => absurd h (Nat.not_lt_zero _)) (fun j h => absurd h (Nat.not_lt_zero _)) (fun j h => absurd h (Nat.not_lt_zero _))
  simpa using this

theorem LF.form {w : World} {T : TypeId} {F : List Nat} {v : Value} {xs : Ns} (h : LF w T F v xs) : ∃ a c, v = .slice a xs.len c := by
  cases h with
  | mk ho hn he hk g1 g2 g3 => exact own_form ho

/-- It reads as these nodes. -/
theorem LF.nodes {w : World} {T : TypeId} {S : Nat → Prop} {F : List Nat} {v : Value} {xs : Ns} (h : LF w T F v xs) : (∀ b ∈ F, S b) → Nodes w S false v xs := by
  induction h with
  | @mk v xs els k f1 f2 f3 ho hn he hk g1 g2 g3 i1 i2 i3 =>
    intro hS
    have mem : ∀ j, j < els.length → ∀ b, b ∈ f1 j ++ (f2 j ++ f3 j) → S b := fun j hj b hb => hS b
      (List.mem_append_right _ (List.mem_flatMap.2 ⟨j, List.mem_range.2 hj, hb⟩))
    obtain ⟨h1, h2⟩ := ho
    rcases h2 with ⟨rfl, h0, _⟩ | ⟨b, off, cap, cur, rfl, rfl, hh, h3, h4, h5, h6⟩
    · have : xs = .nil := by
        cases xs with
        | nil => rfl
        | cons a b c d e f => simp [Ns.len, Ns.items_cons] at h0
      subst this
      exact ⟨none, 0, rfl, ⟨Nat.zero_le _, Nat.zero_le _, Nat.zero_le _, fun e => by cases e⟩, .nil _ fun e => by cases e⟩
    · refine ⟨_, cap, rfl, ⟨h3, h4, hn, fun e => by cases e⟩, ?_⟩
      refine nodesAt_of (hS b (by simp)) xs els off he (fun j h h' => ⟨(hk j h h').1, (hk j h h').2, ?_, ?_, ?_⟩) (fun j u hu => ?_) (fun e => by cases e)
      · exact i1 j h h' fun b hb => mem j h b (List.mem_append_left _ hb)
      · exact i2 j h h' fun b hb => mem j h b (List.mem_append_right _ (List.mem_append_left _ hb))
      · exact i3 j h h' fun b hb => mem j h b (List.mem_append_right _ (List.mem_append_right _ hb))
      · have hj : j < xs.len * 5 := by rw [← h1]; exact (List.getElem?_eq_some_iff.1 hu).1
        rw [cell_of_row w b (off + j) cur T (0, 0) hh, ← hu, ← h6, List.getElem?_take, List.getElem?_drop, if_pos hj]
        simp

/-- All of them between lo and hi, each once. -/
def InR (lo hi : Nat) (F : List Nat) : Prop := F.Nodup ∧ ∀ b ∈ F, lo ≤ b ∧ b < hi
theorem InR.nil (lo hi : Nat) : InR lo hi [] := ⟨List.nodup_nil, fun b h => by cases h⟩
theorem InR.app {lo m hi : Nat} {F G : List Nat} (h : InR lo m F) (k : InR m hi G) (h1 : lo ≤ m) (h2 : m ≤ hi) : InR lo hi (F ++ G) :=
  ⟨List.nodup_append.2 ⟨h.1, k.1, fun a ha b hb e => by have := (h.2 a ha).2; have := (k.2 b hb).1; omega⟩, fun b hb => by
    rcases List.mem_append.1 hb with hb | hb
    · have := h.2 b hb; omega
    · have := k.2 b hb; omega⟩
theorem InR.mono {lo hi lo' hi' : Nat} {F : List Nat} (h : InR lo hi F) (h1 : lo' ≤ lo) (h2 : hi ≤ hi') : InR lo' hi' F := ⟨h.1, fun b hb => by have := h.2 b hb; omega⟩
theorem InR.one {b : Nat} : InR b (b + 1) [b] := ⟨by simp, fun c hc => by simp at hc; omega⟩
theorem InR.perm {lo hi : Nat} {F G : List Nat} (h : InR lo hi F) (p : F.Perm G) : InR lo hi G := ⟨p.nodup_iff.1 h.1, fun b hb => h.2 b (p.mem_iff.2 hb)⟩

/-- A list of nodes in memory between lo and hi. -/
def LR (w : World) (T : TypeId) (lo hi : Nat) (v : Value) (xs : Ns) : Prop := ∃ F, LF w T F v xs ∧ InR lo hi F
/-- A node's value. -/
def NR (w : World) (T : TypeId) (lo hi : Nat) (v : Value) (x : Nd) : Prop := ∃ e F, v = .agg #[.int .u8 (e.kind : Int), .string (tx e.text), e.v1, e.v2, e.v3] ∧ NF w T F e x ∧ InR lo hi F

theorem LR.frame {w w' : World} {T : TypeId} {lo hi : Nat} {v : Value} {xs : Ns} (h : LR w T lo hi v xs) (hs : ∀ b, lo ≤ b → b < hi → w'.heap[b]? = w.heap[b]?) : LR w' T lo hi v xs := by
  obtain ⟨F, h1, h2⟩ := h
  exact ⟨F, h1.frame fun b hb => hs b (h2.2 b hb).1 (h2.2 b hb).2, h2⟩
theorem NR.frame {w w' : World} {T : TypeId} {lo hi : Nat} {v : Value} {x : Nd} (h : NR w T lo hi v x) (hs : ∀ b, lo ≤ b → b < hi → w'.heap[b]? = w.heap[b]?) : NR w' T lo hi v x := by
  obtain ⟨e, F, h0, h1, h2⟩ := h
  exact ⟨e, F, h0, h1.frame fun b hb => hs b (h2.2 b hb).1 (h2.2 b hb).2, h2⟩
theorem LR.mono {w : World} {T : TypeId} {lo hi lo' hi' : Nat} {v : Value} {xs : Ns} (h : LR w T lo hi v xs) (h1 : lo' ≤ lo) (h2 : hi ≤ hi') : LR w T lo' hi' v xs := by
  obtain ⟨F, k1, k2⟩ := h; exact ⟨F, k1, k2.mono h1 h2⟩
theorem NR.mono {w : World} {T : TypeId} {lo hi lo' hi' : Nat} {v : Value} {x : Nd} (h : NR w T lo hi v x) (h1 : lo' ≤ lo) (h2 : hi ≤ hi') : NR w T lo' hi' v x := by
  obtain ⟨e, F, h0, k1, k2⟩ := h; exact ⟨e, F, h0, k1, k2.mono h1 h2⟩
theorem LR.nil (w : World) (T : TypeId) (lo hi : Nat) : LR w T lo hi (.slice none 0 0) .nil := ⟨[], LF.nil w T, InR.nil _ _⟩
theorem LR.form {w : World} {T : TypeId} {lo hi : Nat} {v : Value} {xs : Ns} (h : LR w T lo hi v xs) : ∃ a c, v = .slice a xs.len c := by obtain ⟨F, h1, _⟩ := h; exact h1.form
theorem LR.nodes {w : World} {T : TypeId} {lo hi : Nat} {v : Value} {xs : Ns} (h : LR w T lo hi v xs) {S : Nat → Prop} (hS : ∀ b, lo ≤ b → b < hi → S b) : Nodes w S false v xs := by
  obtain ⟨F, h1, h2⟩ := h
  exact h1.nodes fun b hb => hS b (h2.2 b hb).1 (h2.2 b hb).2

theorem NR.form {w : World} {T : TypeId} {lo hi : Nat} {v : Value} {x : Nd} (h : NR w T lo hi v x) : ∃ a1 c1 a2 c2 a3 c3, v = .agg #[.int .u8 (x.kind : Int), .string (tx x.text), .slice a1 x.l.len c1, .slice a2 x.body.len c2, .slice a3 x.els.len c3] := by
  obtain ⟨e, F, h0, ⟨_, _, _, _, hk, h1, h2, h3⟩, hr⟩ := h
  obtain ⟨a1, c1, e1⟩ := h1.form
  obtain ⟨a2, c2, e2⟩ := h2.form
  obtain ⟨a3, c3, e3⟩ := h3.form
  exact ⟨a1, c1, a2, c2, a3, c3, by rw [h0, hk.1.1, hk.2.1, e1, e2, e3]⟩

/-- A node out of its parts. -/
theorem NR.mk {w : World} {T : TypeId} {lo m1 m2 hi k : Nat} {t : List UInt8} {u1 u2 u3 : Value} {l b e : Ns} (hk : k < 256) (ht : t.length ≤ 140737488351232) (h1 : LR w T lo m1 u1 l) (h2 : LR w T m1 m2 u2 b) (h3 : LR w T m2 hi u3 e) (l1 : lo ≤ m1) (l2 : m1 ≤ m2) (l3 : m2 ≤ hi) :
    NR w T lo hi (.agg #[.int .u8 (k : Int), .string (tx t), u1, u2, u3]) ⟨k, t, l, b, e⟩ := by
  obtain ⟨F1, a1, r1⟩ := h1
  obtain ⟨F2, a2, r2⟩ := h2
  obtain ⟨F3, a3, r3⟩ := h3
  exact ⟨⟨k, t, u1, u2, u3⟩, F1 ++ (F2 ++ F3), rfl, ⟨F1, F2, F3, rfl, ⟨⟨rfl, hk⟩, rfl, ht⟩, a1, a2, a3⟩, r1.app (r2.app r3 l2 l3) l1 (by omega)⟩

/-- The parts of a node. -/
theorem NR.parts {w : World} {T : TypeId} {lo hi : Nat} {k : Int} {s : ByteArray} {u1 u2 u3 : Value} {x : Nd} (h : NR w T lo hi (.agg #[.int .u8 k, .string s, u1, u2, u3]) x) : k = (x.kind : Int) ∧ s = tx x.text ∧ x.kind < 256 ∧ x.text.length ≤ 140737488351232 ∧
    ∃ F1 F2 F3, LF w T F1 u1 x.l ∧ LF w T F2 u2 x.body ∧ LF w T F3 u3 x.els ∧ InR lo hi (F1 ++ (F2 ++ F3)) := by
  obtain ⟨e, F, h0, ⟨F1, F2, F3, rfl, hk, a1, a2, a3⟩, h2⟩ := h
  cases h0
  exact ⟨by rw [hk.1.1], by rw [hk.2.1], hk.1.2, hk.2.2, F1, F2, F3, a1, a2, a3, h2⟩

theorem flatMap_same {α β : Type} {l : List α} {f g : α → List β} (h : ∀ a ∈ l, f a = g a) : l.flatMap f = l.flatMap g := by
  induction l with
  | nil => rfl
  | cons a l ih => rw [List.flatMap_cons, List.flatMap_cons, h a (by simp), ih fun b hb => h b (by simp [hb])]
/-- One more list of nodes' blocks, behind its own. -/
theorem LF.snoc {w w' : World} {T : TypeId} {G : List Nat} {v' : Value} {xs ys : Ns} {e : El} {x : Nd} {els : List El} {k' : Option Nat} {f1 f2 f3 : Nat → List Nat} (he : els.length = xs.items.length)
    (hk : ∀ j (h : j < els.length) (h' : j < xs.items.length), (els[j].kind = xs.items[j].kind ∧ xs.items[j].kind < 256) ∧ els[j].text = xs.items[j].text ∧ xs.items[j].text.length ≤ 140737488351232)
    (g1 : ∀ j (h : j < els.length) (h' : j < xs.items.length), LF w T (f1 j) els[j].v1 xs.items[j].l) (g2 : ∀ j (h : j < els.length) (h' : j < xs.items.length), LF w T (f2 j) els[j].v2 xs.items[j].body)
    (g3 : ∀ j (h : j < els.length) (h' : j < xs.items.length), LF w T (f3 j) els[j].v3 xs.items[j].els) (hN : NF w' T G e x) (hy : ys.items = xs.items ++ [x]) (hn : (xs.len + 1) * 96 ≤ 140737488351232)
    (hs : ∀ b ∈ ((List.range els.length).flatMap fun j => f1 j ++ (f2 j ++ f3 j)), w'.heap[b]? = w.heap[b]?) (ho' : Own w' T 5 v' (xs.len + 1) (elCells (els ++ [e])) k') : LF w' T (k'.toList ++ (((List.range els.length).flatMap fun j => f1 j ++ (f2 j ++ f3 j)) ++ G)) v' ys := by
  obtain ⟨G1, G2, G3, rfl, hk', a1, a2, a3⟩ := hN
  have hys : ys.len = xs.len + 1 := by unfold Ns.len; rw [hy]; simp
  have keep : ∀ j, j < els.length → ∀ b, b ∈ f1 j ++ (f2 j ++ f3 j) → w'.heap[b]? = w.heap[b]? := fun j hj b hb => hs b (List.mem_flatMap.2 ⟨j, List.mem_range.2 hj, hb⟩)
  have hit : ∀ j (h : j < xs.items.length) (h' : j < ys.items.length), ys.items[j] = xs.items[j] := fun j h h' => by
    have : ys.items[j]? = xs.items[j]? := by rw [hy, List.getElem?_append_left h]
    rw [List.getElem?_eq_getElem h', List.getElem?_eq_getElem h] at this
    simpa using this
  have hlast : ∀ (h' : els.length < ys.items.length), ys.items[els.length] = x := fun h' => by
    have : ys.items[els.length]? = some x := by rw [hy, he, List.getElem?_append_right (Nat.le_refl _)]; simp
    rw [List.getElem?_eq_getElem h'] at this
    simpa using this
  have hel : ∀ j (h : j < els.length) (h' : j < (els ++ [e]).length), (els ++ [e])[j] = els[j] := fun j h h' => List.getElem_append_left h
  have hee : ∀ (h' : els.length < (els ++ [e]).length), (els ++ [e])[els.length] = e := fun h' => by simp
  have main := LF.mk (w := w') (T := T) (v := v') (xs := ys) (els := els ++ [e]) (k := k') (f1 := fun j => if j < els.length then f1 j else G1) (f2 := fun j => if j < els.length then f2 j else G2) (f3 := fun j => if j < els.length then f3 j else G3)
    (by rw [hys]; exact ho') (by rw [hys]; exact hn) (by rw [List.length_append, hy, List.length_append, he]; rfl)
    (fun j h h' => by
      by_cases hj : j < els.length
      · rw [hel j hj, hit j (he ▸ hj)]; exact hk j hj (he ▸ hj)
      · have hje : j = els.length := by rw [List.length_append] at h; simp at h; omega
        subst hje
        rw [hee, hlast]; exact hk')
    (fun j h h' => by
      by_cases hj : j < els.length
      · rw [hel j hj, hit j (he ▸ hj)]; simp only [if_pos hj]; exact (g1 j hj (he ▸ hj)).frame fun b hb => keep j hj b (List.mem_append_left _ hb)
      · have hje : j = els.length := by rw [List.length_append] at h; simp at h; omega
        subst hje
        rw [hee, hlast]; simp only [Nat.lt_irrefl, if_false]; exact a1)
    (fun j h h' => by
      by_cases hj : j < els.length
      · rw [hel j hj, hit j (he ▸ hj)]; simp only [if_pos hj]; exact (g2 j hj (he ▸ hj)).frame fun b hb => keep j hj b (List.mem_append_right _ (List.mem_append_left _ hb))
      · have hje : j = els.length := by rw [List.length_append] at h; simp at h; omega
        subst hje
        rw [hee, hlast]; simp only [Nat.lt_irrefl, if_false]; exact a2)
    (fun j h h' => by
      by_cases hj : j < els.length
      · rw [hel j hj, hit j (he ▸ hj)]; simp only [if_pos hj]; exact (g3 j hj (he ▸ hj)).frame fun b hb => keep j hj b (List.mem_append_right _ (List.mem_append_right _ hb))
      · have hje : j = els.length := by rw [List.length_append] at h; simp at h; omega
        subst hje
        rw [hee, hlast]; simp only [Nat.lt_irrefl, if_false]; exact a3)
  have hF : ((List.range (els ++ [e]).length).flatMap fun j => (if j < els.length then f1 j else G1) ++ ((if j < els.length then f2 j else G2) ++ (if j < els.length then f3 j else G3))) = ((List.range els.length).flatMap fun j => f1 j ++ (f2 j ++ f3 j)) ++ (G1 ++ (G2 ++ G3)) := by
    rw [List.length_append, List.length_singleton, List.range_succ, List.flatMap_append]
    congr 1
    · refine flatMap_same fun j hj => ?_
      have := List.mem_range.1 hj
      simp only [if_pos this]
    · simp
  rw [hF] at main
  exact main

/-- One new block. -/
theorem own_lit (w : World) (T : TypeId) (n size : Nat) (cs : List Value) (h : cs.length = n * size) (hn : n ≤ maxLen) : Own (w.alloc (.cells cs.toArray T)) T size (.slice (some ⟨w.heap.size, 0, none⟩) n n) n cs (some w.heap.size) :=
  ⟨h, .inr ⟨w.heap.size, 0, n, cs.toArray, rfl, rfl, heap_alloc_new w _, Nat.le_refl _, hn, by simp [h], by rw [← h]; simp⟩⟩
end Go.My

/- Nodes in new memory: lists out of nodes, and one more behind. No program in sight. -/
namespace Go.My
open Go.RowKit Go.Nd

theorem LF.of_nodes {w : World} {T : TypeId} {v : Value} {xs : Ns} {els : List El} {k : Option Nat} (Fs : Nat → List Nat) (ho : Own w T 5 v xs.len (elCells els) k) (hn : xs.len * 96 ≤ 140737488351232) (he : els.length = xs.items.length)
    (h : ∀ j (h : j < els.length) (h' : j < xs.items.length), NF w T (Fs j) els[j] xs.items[j]) : LF w T (k.toList ++ (List.range els.length).flatMap Fs) v xs := by
  have hc : ∀ j, ∃ p : List Nat × List Nat × List Nat, ∀ (hj : j < els.length), Fs j = p.1 ++ (p.2.1 ++ p.2.2) ∧ ((els[j].kind = (xs.items[j]'(he ▸ hj)).kind ∧ (xs.items[j]'(he ▸ hj)).kind < 256) ∧ els[j].text = (xs.items[j]'(he ▸ hj)).text ∧ (xs.items[j]'(he ▸ hj)).text.length ≤ 140737488351232) ∧
      LF w T p.1 els[j].v1 (xs.items[j]'(he ▸ hj)).l ∧ LF w T p.2.1 els[j].v2 (xs.items[j]'(he ▸ hj)).body ∧ LF w T p.2.2 els[j].v3 (xs.items[j]'(he ▸ hj)).els := by
    intro j
    by_cases hj : j < els.length
    · obtain ⟨F1, F2, F3, h1, h2, h3, h4, h5⟩ := h j hj (he ▸ hj)
      exact ⟨(F1, F2, F3), fun _ => ⟨h1, h2, h3, h4, h5⟩⟩
    · exact ⟨([], [], []), fun hj' => absurd hj' hj⟩
  have main := LF.mk (w := w) (T := T) (v := v) (xs := xs) (els := els) (k := k) (f1 := fun j => (Classical.choose (hc j)).1) (f2 := fun j => (Classical.choose (hc j)).2.1) (f3 := fun j => (Classical.choose (hc j)).2.2) ho hn he
    (fun j hj _ => (Classical.choose_spec (hc j) hj).2.1) (fun j hj _ => (Classical.choose_spec (hc j) hj).2.2.1) (fun j hj _ => (Classical.choose_spec (hc j) hj).2.2.2.1) (fun j hj _ => (Classical.choose_spec (hc j) hj).2.2.2.2)
  have hF : ((List.range els.length).flatMap fun j => (Classical.choose (hc j)).1 ++ ((Classical.choose (hc j)).2.1 ++ (Classical.choose (hc j)).2.2)) = (List.range els.length).flatMap Fs :=
    flatMap_same fun j hj => ((Classical.choose_spec (hc j) (List.mem_range.1 hj)).1).symm
  rw [hF] at main
  exact main

theorem elCells_one (e : El) : elCells [e] = [.int .u8 (e.kind : Int), .string (tx e.text), e.v1, e.v2, e.v3] := by simp [elCells, El.cells]
theorem elCells_two (e f : El) : elCells [e, f] = [.int .u8 (e.kind : Int), .string (tx e.text), e.v1, e.v2, e.v3, .int .u8 (f.kind : Int), .string (tx f.text), f.v1, f.v2, f.v3] := by simp [elCells, El.cells]

theorem NR.later {w w' : World} {T : TypeId} {lo hi : Nat} {v : Value} {x : Nd} (h : NR w T lo hi v x) (hb : Below w.heap.size w w') (hh : hi ≤ w.heap.size) : NR w' T lo hi v x := h.frame fun b _ hb' => hb.block b (by omega)
theorem LR.later {w w' : World} {T : TypeId} {lo hi : Nat} {v : Value} {xs : Ns} (h : LR w T lo hi v xs) (hb : Below w.heap.size w w') (hh : hi ≤ w.heap.size) : LR w' T lo hi v xs := h.frame fun b _ hb' => hb.block b (by omega)

/-- A list of one. -/
theorem LR.one {w : World} {T : TypeId} {lo hi : Nat} {c0 c1 c2 c3 c4 : Value} {x : Nd} (h : NR w T lo hi (.agg #[c0, c1, c2, c3, c4]) x) (h1 : lo ≤ hi) (h2 : hi ≤ w.heap.size) :
    LR (w.alloc (.cells #[c0, c1, c2, c3, c4] T)) T lo (w.heap.size + 1) (.slice (some ⟨w.heap.size, 0, none⟩) 1 1) (Ns.of [x]) := by
  obtain ⟨e, F, h0, hN, hr⟩ := h.later (Below.alloc (Below.refl _ w) (Nat.le_refl _) (.cells #[c0, c1, c2, c3, c4] T)) h2
  simp only [Value.agg.injEq, Array.mk.injEq, List.cons.injEq, and_true] at h0
  obtain ⟨rfl, rfl, rfl, rfl, rfl⟩ := h0
  have main := LF.of_nodes (xs := Ns.of [x]) (els := [e]) (fun _ => F) (own_lit w T 1 5 (elCells [e]) (by rw [elCells_length]; rfl) (by decide)) (by show 1 * 96 ≤ _; decide) rfl (fun j h _ => by
    have : j = 0 := by simp at h; omega
    subst this
    have hN' := hN
    rw [show (#[Value.int IntKind.u8 (e.kind : Int), Value.string (tx e.text), e.v1, e.v2, e.v3] : Array Value) = (elCells [e]).toArray by rw [elCells_one]] at hN'
    exact hN')
  simp only [elCells_one] at main
  refine ⟨_, main, ?_⟩
  have e1 : (List.range [e].length).flatMap (fun _ => F) = F := by simp [List.range_succ]
  rw [e1]
  exact ((hr.mono (Nat.le_refl _) h2).app InR.one (by omega) (Nat.le_succ _)).perm List.perm_append_comm

/-- A node in blocks of S, each once. -/
def NS (w : World) (T : TypeId) (S : Nat → Prop) (v : Value) (x : Nd) : Prop := ∃ e F, v = .agg #[.int .u8 (e.kind : Int), .string (tx e.text), e.v1, e.v2, e.v3] ∧ NF w T F e x ∧ F.Nodup ∧ ∀ b ∈ F, S b
theorem NR.ns {w : World} {T : TypeId} {lo hi : Nat} {v : Value} {x : Nd} (h : NR w T lo hi v x) {S : Nat → Prop} (hS : ∀ b, lo ≤ b → b < hi → S b) : NS w T S v x := by
  obtain ⟨e, F, h0, h1, h2⟩ := h
  exact ⟨e, F, h0, h1, h2.1, fun b hb => hS b (h2.2 b hb).1 (h2.2 b hb).2⟩
theorem NF.lt {w : World} {T : TypeId} {F : List Nat} {e : El} {x : Nd} (h : NF w T F e x) : ∀ b ∈ F, b < w.heap.size := by
  obtain ⟨F1, F2, F3, rfl, _, h1, h2, h3⟩ := h
  intro b hb
  rcases List.mem_append.1 hb with hb | hb
  · exact h1.lt b hb
  · rcases List.mem_append.1 hb with hb | hb
    · exact h2.lt b hb
    · exact h3.lt b hb
theorem NS.nr {w : World} {T : TypeId} {S : Nat → Prop} {v : Value} {x : Nd} (h : NS w T S v x) {lo : Nat} (hS : ∀ b, S b → lo ≤ b) : NR w T lo w.heap.size v x := by
  obtain ⟨e, F, h0, h1, h2, h3⟩ := h
  exact ⟨e, F, h0, h1, h2, fun b hb => ⟨hS b (h3 b hb), h1.lt b hb⟩⟩
theorem NS.frame {w w' : World} {T : TypeId} {S : Nat → Prop} {v : Value} {x : Nd} (h : NS w T S v x) (hs : ∀ b, S b → b < w.heap.size → w'.heap[b]? = w.heap[b]?) : NS w' T S v x := by
  obtain ⟨e, F, h0, h1, h2, h3⟩ := h
  exact ⟨e, F, h0, h1.frame fun b hb => hs b (h3 b hb) (h1.lt b hb), h2, h3⟩
theorem NS.later {w w' : World} {T : TypeId} {S : Nat → Prop} {v : Value} {x : Nd} (h : NS w T S v x) (hb : Below w.heap.size w w') : NS w' T S v x := h.frame fun b _ hlt => hb.block b hlt
theorem NS.mono {w : World} {T : TypeId} {S U : Nat → Prop} {v : Value} {x : Nd} (h : NS w T S v x) (hs : ∀ b, S b → b < w.heap.size → U b) : NS w T U v x := by
  obtain ⟨e, F, h0, h1, h2, h3⟩ := h
  exact ⟨e, F, h0, h1, h2, fun b hb => hs b (h3 b hb) (h1.lt b hb)⟩
theorem NS.form {w : World} {T : TypeId} {S : Nat → Prop} {v : Value} {x : Nd} (h : NS w T S v x) : ∃ a1 c1 a2 c2 a3 c3, v = .agg #[.int .u8 (x.kind : Int), .string (tx x.text), .slice a1 x.l.len c1, .slice a2 x.body.len c2, .slice a3 x.els.len c3] :=
  (h.nr (lo := 0) fun _ _ => Nat.zero_le _).form

/-- A list of two. -/
theorem NS.two {w : World} {T : TypeId} {S U : Nat → Prop} {c0 c1 c2 c3 c4 d0 d1 d2 d3 d4 : Value} {x y : Nd} (h : NS w T S (.agg #[c0, c1, c2, c3, c4]) x) (k : NS w T U (.agg #[d0, d1, d2, d3, d4]) y) (hd : ∀ b, S b → U b → False) :
    ∃ F, LF (w.alloc (.cells #[c0, c1, c2, c3, c4, d0, d1, d2, d3, d4] T)) T F (.slice (some ⟨w.heap.size, 0, none⟩) 2 2) (Ns.of [x, y]) ∧ F.Nodup ∧ ∀ b ∈ F, S b ∨ U b ∨ w.heap.size ≤ b := by
  have hA := Below.alloc (Below.refl w.heap.size w) (Nat.le_refl _) (.cells #[c0, c1, c2, c3, c4, d0, d1, d2, d3, d4] T)
  obtain ⟨e, F, h0, hN', hr1, hr2⟩ := h
  obtain ⟨f, G, k0, kN', kr1, kr2⟩ := k
  have hlt := hN'.lt
  have klt := kN'.lt
  have hN := hN'.frame fun b hb => hA.block b (hlt b hb)
  have kN := kN'.frame fun b hb => hA.block b (klt b hb)
  simp only [Value.agg.injEq, Array.mk.injEq, List.cons.injEq, and_true] at h0 k0
  obtain ⟨rfl, rfl, rfl, rfl, rfl⟩ := h0
  obtain ⟨rfl, rfl, rfl, rfl, rfl⟩ := k0
  have main := LF.of_nodes (xs := Ns.of [x, y]) (els := [e, f]) (fun j => if j = 0 then F else G) (own_lit w T 2 5 (elCells [e, f]) (by rw [elCells_length]; rfl) (by decide)) (by show 2 * 96 ≤ _; decide) rfl (fun j h _ => by
    have : j = 0 ∨ j = 1 := by simp at h; omega
    have hN' := hN
    have kN' := kN
    rw [show (#[Value.int IntKind.u8 (e.kind : Int), Value.string (tx e.text), e.v1, e.v2, e.v3, Value.int IntKind.u8 (f.kind : Int), Value.string (tx f.text), f.v1, f.v2, f.v3] : Array Value) = (elCells [e, f]).toArray by rw [elCells_two]] at hN' kN'
    rcases this with rfl | rfl
    · exact hN'
    · exact kN')
  simp only [elCells_two] at main
  refine ⟨_, main, ?_⟩
  have e1 : (List.range [e, f].length).flatMap (fun j => if j = 0 then F else G) = F ++ G := by simp [List.range_succ]
  rw [e1]
  refine ⟨List.nodup_append.2 ⟨by simp, List.nodup_append.2 ⟨hr1, kr1, fun a ha b hb e => hd a (hr2 a ha) (by subst e; exact kr2 a hb)⟩, fun a ha b hb e => ?_⟩, fun b hb => ?_⟩
  · simp at ha
    rcases List.mem_append.1 hb with hb | hb
    · have := hlt b hb; omega
    · have := klt b hb; omega
  · rcases List.mem_append.1 hb with hb | hb
    · simp at hb; exact .inr (.inr (by omega))
    · rcases List.mem_append.1 hb with hb | hb
      · exact .inl (hr2 b hb)
      · exact .inr (.inl (kr2 b hb))

theorem LF.oneCell {w : World} {T : TypeId} {F : List Nat} {v : Value} {xs : Ns} (h : LF w T F v xs) : v.oneCell' = true := by obtain ⟨a, c, rfl⟩ := h.form; rfl
theorem NF.oneCells {w : World} {T : TypeId} {F : List Nat} {e : El} {x : Nd} (h : NF w T F e x) : ∀ u ∈ elCells [e], u.oneCell' = true := by
  obtain ⟨F1, F2, F3, _, _, h1, h2, h3⟩ := h
  intro u hu
  rw [elCells_one] at hu
  simp at hu
  rcases hu with rfl | rfl | rfl | rfl | rfl
  · rfl
  · rfl
  · exact h1.oneCell
  · exact h2.oneCell
  · exact h3.oneCell

theorem Ns.len_of (l : List Nd) : (Ns.of l).len = l.length := by unfold Ns.len; rw [Ns.items_of]

/-- One more, appended: what is so behind it. -/
theorem LR.app {w : World} {T : TypeId} {lo hi hi2 : Nat} {v : Value} {l : List Nd} {cs : Array Value} {x : Nd} (h : LR w T lo hi v (Ns.of l)) (hN : NR w T hi hi2 (.agg cs) x) (h1 : lo ≤ hi) (h2 : hi ≤ hi2) (h3 : hi2 ≤ w.heap.size) (hn : (l.length + 1) * 96 ≤ 140737488351232) :
    (∀ u ∈ cs.toList, u.oneCell' = true) ∧ ∃ xs k, Own w T 5 v l.length xs k ∧ (∀ b, k = some b → lo ≤ b ∧ b < hi) ∧ ∀ w' v' k', Own w' T 5 v' (l.length + 1) (xs ++ cs.toList) k' → Step w w' k → (k' = k ∨ ∃ j, k' = some j ∧ w.heap.size ≤ j) → LR w' T lo w'.heap.size v' (Ns.of (l ++ [x])) := by
  obtain ⟨F, hF, hr⟩ := h
  obtain ⟨e, G, h0, hG, kr⟩ := hN
  cases h0
  refine ⟨by simpa [elCells_one] using hG.oneCells, ?_⟩
  cases hF with
  | @mk _ _ els k f1 f2 f3 ho hn' he hk g1 g2 g3 =>
    rw [Ns.len_of] at ho
    have hk1 : ∀ b, k = some b → lo ≤ b ∧ b < hi := fun b hb => hr.2 b (by subst hb; simp)
    refine ⟨elCells els, k, ho, hk1, fun w' v' k' ho' st hk' => ?_⟩
    have hkC : ∀ b, k = some b → b ∉ (List.range els.length).flatMap fun j => f1 j ++ (f2 j ++ f3 j) := fun b hb hm => by
      subst hb
      exact (List.nodup_append.1 hr.1).2.2 b (by simp) b hm rfl
    have hC : InR lo hi ((List.range els.length).flatMap fun j => f1 j ++ (f2 j ++ f3 j)) := ⟨(List.nodup_append.1 hr.1).2.1, fun b hb => hr.2 b (List.mem_append_right _ hb)⟩
    have hG' : NF w' T G e x := hG.frame fun b hb => st.block b (by have := (kr.2 b hb).2; omega) fun hbk => by have := (hk1 b hbk.symm).2; have := (kr.2 b hb).1; omega
    have main := LF.snoc (w' := w') (v' := v') (ys := Ns.of (l ++ [x])) he hk g1 g2 g3 hG' (by rw [Ns.items_of, Ns.items_of]) (by rw [Ns.len_of]; exact hn)
      (fun b hb => st.block b (by have := (hC.2 b hb).2; omega) fun hbk => hkC b hbk.symm hb) (k' := k') (by rw [Ns.len_of, elCells_append, elCells_one]; exact ho')
    refine ⟨_, main, ?_⟩
    have hs := st.size
    rcases hk' with rfl | ⟨j, rfl, hj⟩
    · rw [← List.append_assoc]
      exact (hr.app kr h1 h2).mono (Nat.le_refl _) (by omega)
    · have hjlt := ho'.lt j rfl
      exact (((hC.app kr h1 h2).mono (Nat.le_refl _) (show hi2 ≤ j by omega)).app (InR.one.mono (Nat.le_refl j) hjlt) (by omega) (by omega)).perm (by
        show List.Perm (_ ++ [j]) ([j] ++ _)
        exact List.perm_append_comm)

section
variable {P : Program} (w : World)
/-- APPEND OF A NODE, FOR THE WALK. -/
theorem wpList_node {ops : Array Oper} {rest : List Oper} {o : Oper} {a : Act} {Q : Exit → Act → World → Prop} (hgd : o.guard = none) (s x : Operand) {t e : TypeId}
    (ho : o.op = .call { callee := .builtin .append, args := #[s, x], argTypes := #[t, t] }) {z : Value} (E : Elem P t e 5 96 z) {v : Value} {l : List Nd} {lo hi hi2 : Nat} {cs : Array Value} {y : Value} {nd : Nd}
    (hs : a.eval s = v) (hown : LR w e lo hi v (Ns.of l)) (hN : NR w e hi hi2 (.agg cs) nd) (hy : a.eval x = y) (hx : Src w 5 y 1 cs.toList) (h1 : lo ≤ hi) (h2 : hi ≤ hi2) (h3 : hi2 ≤ w.heap.size) (hn : (l.length + 1) * 96 ≤ 140737488351232)
    (h : ∀ ao cap w', LR w' e lo w'.heap.size (.slice ao (l.length + 1) cap) (Ns.of (l ++ [nd])) → Below lo w w' → wpList P ops Q rest (a.put o.dst (.slice ao (l.length + 1) cap)) w') : wpList P ops Q (o :: rest) a w := by
  obtain ⟨hc, xs, k, ho', hk, go⟩ := hown.app hN h1 h2 h3 hn
  refine wpList_append w hgd s x ho E hs ho' hy hx hc (by simp only [maxLen]; omega) (by omega) fun v' w' k' q1 q2 q3 => ?_
  obtain ⟨ao, cap, rfl⟩ := own_form q1
  exact h ao cap w' (go w' _ k' q1 q2 q3) (q2.below (by omega) fun b hb => (hk b hb).1)
end
end Go.My

/- A struct in a block of its own: its cells written one by one. No program in sight. -/
namespace Go.My
open Go.RowKit

/-- From w to w': block c now holds these cells; all else is as it was. -/
structure Put (w w' : World) (c : Nat) (cs : Array Value) (T : TypeId) : Prop where
  row : w'.heap[c]? = some (.cells cs T (0, 0))
  os : w'.os = w.os
  tape : w'.tape = w.tape
  output : w'.output = w.output
  size : w'.heap.size = w.heap.size
  oth : ∀ k, k ≠ c → w'.heap[k]? = w.heap[k]?

theorem Put.one {w : World} {c : Nat} {cs : Array Value} {T : TypeId} (h : w.heap[c]? = some (.cells cs T (0, 0))) (i : Nat) (v : Value) : Put w (w.setCell ⟨c, i, none⟩ v) c (cs.setIfInBounds i v) T :=
  ⟨heap_setCell_same w c i _ _ v h, rfl, rfl, rfl, by simp, fun k hk => Below.heap_setCell w ⟨c, i, none⟩ v k (by simpa using hk)⟩
theorem Put.trans {w w1 w2 : World} {c : Nat} {cs ds : Array Value} {T : TypeId} (h : Put w w1 c cs T) (k : Put w1 w2 c ds T) : Put w w2 c ds T :=
  ⟨k.row, k.os.trans h.os, k.tape.trans h.tape, k.output.trans h.output, k.size.trans h.size, fun j hj => (k.oth j hj).trans (h.oth j hj)⟩
theorem Put.below {w0 w w' : World} {n c : Nat} {cs : Array Value} {T : TypeId} (h : Put w w' c cs T) (hb : Below n w0 w) (hn : n ≤ c) : Below n w0 w' :=
  ⟨h.os.trans hb.os, h.tape.trans hb.tape, h.output.trans hb.output, by rw [h.size]; exact hb.size, fun k hk => (h.oth k (by omega)).trans (hb.block k hk)⟩
theorem Put.step {w w' : World} {c : Nat} {cs : Array Value} {T : TypeId} (h : Put w w' c cs T) : Step w w' (some c) :=
  ⟨h.os, h.tape, h.output, by rw [h.size]; exact Nat.le_refl _, fun k _ hk => h.oth k fun e => hk (by rw [e])⟩
theorem Put.cells {w w' : World} {c : Nat} {cs : Array Value} {T : TypeId} (h : Put w w' c cs T) (i : Nat) : w'.cell? ⟨c, i, none⟩ = cs[i]? ∧ w'.frozen? ⟨c, i, none⟩ = false := ⟨cell_of_row _ _ _ _ _ _ h.row, frozen_of_row _ _ _ _ _ h.row⟩

theorem put2 {w : World} {c : Nat} {z0 z1 : Value} {T : TypeId} (h : w.heap[c]? = some (.cells #[z0, z1] T (0, 0))) (v0 v1 : Value) : Put w ((w.setCell ⟨c, 0, none⟩ v0).setCell ⟨c, 1, none⟩ v1) c #[v0, v1] T :=
  (Put.one h 0 v0).trans (Put.one (Put.one h 0 v0).row 1 v1)
theorem put3 {w : World} {c : Nat} {z0 z1 z2 : Value} {T : TypeId} (h : w.heap[c]? = some (.cells #[z0, z1, z2] T (0, 0))) (v0 v1 v2 : Value) : Put w (((w.setCell ⟨c, 0, none⟩ v0).setCell ⟨c, 1, none⟩ v1).setCell ⟨c, 2, none⟩ v2) c #[v0, v1, v2] T :=
  have h1 := put2' h v0 v1
  h1.trans (Put.one h1.row 2 v2)
where put2' {w : World} {c : Nat} {z0 z1 z2 : Value} {T : TypeId} (h : w.heap[c]? = some (.cells #[z0, z1, z2] T (0, 0))) (v0 v1 : Value) : Put w ((w.setCell ⟨c, 0, none⟩ v0).setCell ⟨c, 1, none⟩ v1) c #[v0, v1, z2] T :=
  (Put.one h 0 v0).trans (Put.one (Put.one h 0 v0).row 1 v1)
theorem put5 {w : World} {c : Nat} {z0 z1 z2 z3 z4 : Value} {T : TypeId} (h : w.heap[c]? = some (.cells #[z0, z1, z2, z3, z4] T (0, 0))) (v0 v1 v2 v3 v4 : Value) :
    Put w (((((w.setCell ⟨c, 0, none⟩ v0).setCell ⟨c, 1, none⟩ v1).setCell ⟨c, 2, none⟩ v2).setCell ⟨c, 3, none⟩ v3).setCell ⟨c, 4, none⟩ v4) c #[v0, v1, v2, v3, v4] T := by
  have h0 : Put w _ c #[v0, z1, z2, z3, z4] T := Put.one h 0 v0
  have h1 : Put w _ c #[v0, v1, z2, z3, z4] T := h0.trans (Put.one h0.row 1 v1)
  have h2 : Put w _ c #[v0, v1, v2, z3, z4] T := h1.trans (Put.one h1.row 2 v2)
  have h3 : Put w _ c #[v0, v1, v2, v3, z4] T := h2.trans (Put.one h2.row 3 v3)
  exact h3.trans (Put.one h3.row 4 v4)

/-- A new block. -/
theorem Put.new (w : World) (cs : Array Value) (T : TypeId) : Below w.heap.size w (w.alloc (.cells cs T)) ∧ (w.alloc (.cells cs T)).heap[w.heap.size]? = some (.cells cs T (0, 0)) ∧ (w.alloc (.cells cs T)).heap.size = w.heap.size + 1 :=
  ⟨Below.alloc (Below.refl _ w) (Nat.le_refl _) _, heap_alloc_new w _, World.size_alloc _ _⟩

theorem row5 {w : World} {c : Nat} {v0 v1 v2 v3 v4 : Value} {T : TypeId} (h : w.heap[c]? = some (.cells #[v0, v1, v2, v3, v4] T (0, 0))) :
    w.cell? ⟨c, 0, none⟩ = some v0 ∧ w.cell? ⟨c, 1, none⟩ = some v1 ∧ w.cell? ⟨c, 2, none⟩ = some v2 ∧ w.cell? ⟨c, 3, none⟩ = some v3 ∧ w.cell? ⟨c, 4, none⟩ = some v4 ∧
    w.frozen? ⟨c, 0, none⟩ = false ∧ w.frozen? ⟨c, 1, none⟩ = false ∧ w.frozen? ⟨c, 2, none⟩ = false ∧ w.frozen? ⟨c, 3, none⟩ = false ∧ w.frozen? ⟨c, 4, none⟩ = false :=
  ⟨cell_of_row w c 0 _ _ _ h, cell_of_row w c 1 _ _ _ h, cell_of_row w c 2 _ _ _ h, cell_of_row w c 3 _ _ _ h, cell_of_row w c 4 _ _ _ h, frozen_of_row w c 0 _ _ h, frozen_of_row w c 1 _ _ h, frozen_of_row w c 2 _ _ h, frozen_of_row w c 3 _ _ h, frozen_of_row w c 4 _ _ h⟩

/-- What a cell of a struct holds gives the result. -/
theorem results_cell1 {fn : Func} {p : Tmp} {tp : TypeId} (h : fn.results = #[.cell p tp]) (tmps : Array Value) (P : Program) (w : World) {a : Addr} {va : Value}
    (ea : tmps.getD p undef = .pointer (some a)) (ra : (loadVar tp a).run P w = .ok va w) : (results fn tmps).run P w = .ok va w := by
  have ea' : tmps[p]?.getD undef = .pointer (some a) := by simpa using ea
  simp [results, h, ea', asAddr, ra]
/-- A block that was there is as it was behind a step of the reader. -/
theorem Step.kept {w w' : World} {rb c : Nat} (h : Step w w' (some rb)) (hc : c < w.heap.size) (hne : c ≠ rb) : w'.heap[c]? = w.heap[c]? := h.block c hc fun e => hne (by cases e; rfl)
/-- What is written into a new block is no step in what was there. -/
theorem Step.put {w w1 w2 : World} {rb c : Nat} {cs : Array Value} {T : TypeId} (hs : Step w w1 (some rb)) (hp : Put w1 w2 c cs T) (hc : w.heap.size ≤ c) : Step w w2 (some rb) :=
  ⟨hp.os.trans hs.os, hp.tape.trans hs.tape, hp.output.trans hs.output, by rw [hp.size]; exact hs.size, fun k hk hk' => (hp.oth k (by omega)).trans (hs.block k hk hk')⟩
end Go.My

/- Lists of texts, functions in new memory: each in a block of its own. -/
namespace Go.Proofs.YtmkhfonafcikdaaGreatDoor
open Go.RowKit Go.My Go.Nd

abbrev TN : TypeId := 61
abbrev TS : TypeId := 9
theorem strEl : Elem Tryz.prog 32 9 1 16 (.string ⟨#[]⟩) := Elem.mk' Tryz.underlying32 (by kernel_rfl) rfl (by decide)

/-- A list of texts; F: its block. -/
def TF (w : World) (F : List Nat) (v : Value) (l : List Tx) : Prop := ∃ k, F = k.toList ∧ Go.My.Own w TS 1 v l.length (l.map fun t => .string (tx t)) k ∧ l.length * 16 ≤ 140737488351232 ∧ ∀ t ∈ l, t.length ≤ 140737488351232
def TR (w : World) (lo hi : Nat) (v : Value) (l : List Tx) : Prop := ∃ F, TF w F v l ∧ InR lo hi F

theorem TF.frame {w w' : World} {F : List Nat} {v : Value} {l : List Tx} (h : TF w F v l) (hs : ∀ b ∈ F, w'.heap[b]? = w.heap[b]?) : TF w' F v l := by
  obtain ⟨k, rfl, h1, h2⟩ := h
  exact ⟨k, rfl, h1.frame fun b hb => hs b (by subst hb; simp), h2⟩
theorem TR.frame {w w' : World} {lo hi : Nat} {v : Value} {l : List Tx} (h : TR w lo hi v l) (hs : ∀ b, lo ≤ b → b < hi → w'.heap[b]? = w.heap[b]?) : TR w' lo hi v l := by
  obtain ⟨F, h1, h2⟩ := h
  exact ⟨F, h1.frame fun b hb => hs b (h2.2 b hb).1 (h2.2 b hb).2, h2⟩
theorem TR.mono {w : World} {lo hi lo' hi' : Nat} {v : Value} {l : List Tx} (h : TR w lo hi v l) (h1 : lo' ≤ lo) (h2 : hi ≤ hi') : TR w lo' hi' v l := by obtain ⟨F, k1, k2⟩ := h; exact ⟨F, k1, k2.mono h1 h2⟩
theorem TR.nil (w : World) (lo hi : Nat) : TR w lo hi (.slice none 0 0) [] := ⟨[], ⟨none, rfl, Go.My.Own.nil w TS 1, Nat.zero_le _, fun _ h => by cases h⟩, InR.nil _ _⟩
theorem TR.form {w : World} {lo hi : Nat} {v : Value} {l : List Tx} (h : TR w lo hi v l) : ∃ a c, v = .slice a l.length c := by obtain ⟨F, ⟨k, _, h, _⟩, _⟩ := h; exact own_form h
theorem TR.later {w w' : World} {lo hi : Nat} {v : Value} {l : List Tx} (h : TR w lo hi v l) (hb : Below w.heap.size w w') (hh : hi ≤ w.heap.size) : TR w' lo hi v l := h.frame fun b _ hb' => hb.block b (by omega)
theorem TR.kept {w w' : World} {rb lo hi : Nat} {v : Value} {l : List Tx} (h : TR w lo hi v l) (hs : Step w w' (some rb)) (hrb : rb < lo) (hh : hi ≤ w.heap.size) : TR w' lo hi v l := h.frame fun b h1 h2 => hs.kept (by omega) (by omega)

theorem TF.texts {w : World} {S : Nat → Prop} {F : List Nat} {v : Value} {l : List Tx} (h : TF w F v l) (hS : ∀ b ∈ F, S b) : TextsIn w S false v l := by
  obtain ⟨k, rfl, ho, h3, h4⟩ := h
  obtain ⟨h1, h2⟩ := ho
  rcases h2 with ⟨rfl, h0, _⟩ | ⟨b, off, cap, cur, rfl, rfl, hh, h5, h6, h7, h8⟩
  · have : l = [] := List.eq_nil_of_length_eq_zero h0
    subst this
    exact ⟨none, 0, rfl, Nat.le_refl _, Nat.zero_le _, Nat.zero_le _, fun e => (by cases e), fun i hi => absurd hi (Nat.not_lt_zero _)⟩
  · refine ⟨_, cap, rfl, h5, h6, h3, fun e => (by cases e), fun i hi => ⟨b, off, rfl, hS b (by simp), ?_, h4 _ (List.getElem_mem hi)⟩⟩
    have hj : i < l.length * 1 := by omega
    have : (l.map fun t => Value.string (tx t))[i]? = some (.string (tx l[i])) := by simp [hi]
    rw [cell_of_row w b (off + i) cur TS (0, 0) hh, ← this, ← h8, List.getElem?_take, List.getElem?_drop, if_pos hj]
    simp

abbrev TFn : TypeId := 57

/-- A function's cells, and its blocks. -/
structure FV where
  f : Nd.Fn
  va : Value
  vb : Value
  F1 : List Nat
  F2 : List Nat
def FV.cells (x : FV) : List Value := [.string (tx x.f.name), x.va, x.vb]
structure FV.Ok (w : World) (x : FV) : Prop where
  name : x.f.name.length ≤ 140737488351232
  args : TF w x.F1 x.va x.f.args
  body : LF w TN x.F2 x.vb x.f.body
def FR (w : World) (lo hi : Nat) (v : Value) (f : Nd.Fn) : Prop := ∃ x : FV, v = .agg x.cells.toArray ∧ x.Ok w ∧ x.f = f ∧ InR lo hi (x.F1 ++ x.F2)

theorem FV.Ok.frame {w w' : World} {x : FV} (h : x.Ok w) (hs : ∀ b ∈ x.F1 ++ x.F2, w'.heap[b]? = w.heap[b]?) : x.Ok w' :=
  ⟨h.name, h.args.frame fun b hb => hs b (List.mem_append_left _ hb), h.body.frame fun b hb => hs b (List.mem_append_right _ hb)⟩
theorem FR.frame {w w' : World} {lo hi : Nat} {v : Value} {f : Nd.Fn} (h : FR w lo hi v f) (hs : ∀ b, lo ≤ b → b < hi → w'.heap[b]? = w.heap[b]?) : FR w' lo hi v f := by
  obtain ⟨x, h0, h1, h2, h3⟩ := h
  exact ⟨x, h0, h1.frame fun b hb => hs b (h3.2 b hb).1 (h3.2 b hb).2, h2, h3⟩
theorem FR.mono {w : World} {lo hi lo' hi' : Nat} {v : Value} {f : Nd.Fn} (h : FR w lo hi v f) (h1 : lo' ≤ lo) (h2 : hi ≤ hi') : FR w lo' hi' v f := by
  obtain ⟨x, k0, k1, k2, k3⟩ := h; exact ⟨x, k0, k1, k2, k3.mono h1 h2⟩
theorem FR.later {w w' : World} {lo hi : Nat} {v : Value} {f : Nd.Fn} (h : FR w lo hi v f) (hb : Below w.heap.size w w') (hh : hi ≤ w.heap.size) : FR w' lo hi v f := h.frame fun b _ hb' => hb.block b (by omega)
theorem fnEl : Elem Tryz.prog 22 57 3 64 (.agg #[.string ⟨#[]⟩, .slice none 0 0, .slice none 0 0]) := Elem.mk' Tryz.underlying22 (by kernel_rfl) rfl (by decide)

/-- A list of functions; F: the blocks of it, and of all in it. -/
def FsF (w : World) (F : List Nat) (v : Value) (fs : List Nd.Fn) : Prop :=
  ∃ (els : List FV) (k : Option Nat), F = k.toList ++ els.flatMap (fun x => x.F1 ++ x.F2) ∧ els.map (·.f) = fs ∧ Go.My.Own w TFn 3 v els.length (els.flatMap FV.cells) k ∧ els.length * 64 ≤ 140737488351232 ∧ ∀ x ∈ els, x.Ok w
def FsR (w : World) (lo hi : Nat) (v : Value) (fs : List Nd.Fn) : Prop := ∃ F, FsF w F v fs ∧ InR lo hi F

theorem FsF.frame {w w' : World} {F : List Nat} {v : Value} {fs : List Nd.Fn} (h : FsF w F v fs) (hs : ∀ b ∈ F, w'.heap[b]? = w.heap[b]?) : FsF w' F v fs := by
  obtain ⟨els, k, rfl, h1, h2, h3, h4⟩ := h
  refine ⟨els, k, rfl, h1, h2.frame fun b hb => hs b (by subst hb; simp), h3, fun x hx => (h4 x hx).frame fun b hb => hs b (List.mem_append_right _ (List.mem_flatMap.2 ⟨x, hx, hb⟩))⟩
theorem FsR.frame {w w' : World} {lo hi : Nat} {v : Value} {fs : List Nd.Fn} (h : FsR w lo hi v fs) (hs : ∀ b, lo ≤ b → b < hi → w'.heap[b]? = w.heap[b]?) : FsR w' lo hi v fs := by
  obtain ⟨F, h1, h2⟩ := h
  exact ⟨F, h1.frame fun b hb => hs b (h2.2 b hb).1 (h2.2 b hb).2, h2⟩
theorem FsR.mono {w : World} {lo hi lo' hi' : Nat} {v : Value} {fs : List Nd.Fn} (h : FsR w lo hi v fs) (h1 : lo' ≤ lo) (h2 : hi ≤ hi') : FsR w lo' hi' v fs := by obtain ⟨F, k1, k2⟩ := h; exact ⟨F, k1, k2.mono h1 h2⟩
theorem FsR.nil (w : World) (lo hi : Nat) : FsR w lo hi (.slice none 0 0) [] := ⟨[], ⟨[], none, rfl, rfl, Go.My.Own.nil w TFn 3, Nat.zero_le _, fun _ h => by cases h⟩, InR.nil _ _⟩
theorem FsR.form {w : World} {lo hi : Nat} {v : Value} {fs : List Nd.Fn} (h : FsR w lo hi v fs) : ∃ a c, v = .slice a fs.length c := by
  obtain ⟨F, ⟨els, k, _, h1, h2, _⟩, _⟩ := h
  have := own_form h2
  rwa [show els.length = fs.length by rw [← h1, List.length_map]] at this
theorem FsR.later {w w' : World} {lo hi : Nat} {v : Value} {fs : List Nd.Fn} (h : FsR w lo hi v fs) (hb : Below w.heap.size w w') (hh : hi ≤ w.heap.size) : FsR w' lo hi v fs := h.frame fun b _ hb' => hb.block b (by omega)
theorem FsR.kept {w w' : World} {rb lo hi : Nat} {v : Value} {fs : List Nd.Fn} (h : FsR w lo hi v fs) (hs : Step w w' (some rb)) (hrb : rb < lo) (hh : hi ≤ w.heap.size) : FsR w' lo hi v fs := h.frame fun b h1 h2 => hs.kept (by omega) (by omega)

/-- One more, appended: what is so behind it. -/
theorem FsR.app {w : World} {lo hi hi2 : Nat} {v : Value} {fs : List Nd.Fn} {cs : Array Value} {f : Nd.Fn} (h : FsR w lo hi v fs) (hN : FR w hi hi2 (.agg cs) f) (h1 : lo ≤ hi) (h2 : hi ≤ hi2) (h3 : hi2 ≤ w.heap.size) (hn : (fs.length + 1) * 64 ≤ 140737488351232) :
    (∀ u ∈ cs.toList, u.oneCell' = true) ∧ ∃ xs k, Go.My.Own w TFn 3 v fs.length xs k ∧ (∀ b, k = some b → lo ≤ b ∧ b < hi) ∧ ∀ w' v' k', Go.My.Own w' TFn 3 v' (fs.length + 1) (xs ++ cs.toList) k' → Step w w' k → (k' = k ∨ ∃ j, k' = some j ∧ w.heap.size ≤ j) → FsR w' lo w'.heap.size v' (fs ++ [f]) := by
  obtain ⟨F, ⟨els, k, rfl, hmap, ho, hle, hok⟩, hr⟩ := h
  obtain ⟨x, h0, hx, hf, kr⟩ := hN
  cases h0
  have hlen : els.length = fs.length := by rw [← hmap, List.length_map]
  have hc1 : ∀ u ∈ x.cells, u.oneCell' = true := by
    intro u hu
    obtain ⟨k1, _, ha, _⟩ := hx.args
    obtain ⟨a1, c1, e1⟩ := own_form ha
    obtain ⟨a2, c2, e2⟩ := hx.body.form
    unfold FV.cells at hu
    simp at hu
    rcases hu with rfl | rfl | rfl
    · rfl
    · rw [e1]; rfl
    · rw [e2]; rfl
  refine ⟨by simpa using hc1, els.flatMap FV.cells, k, hlen ▸ ho, fun b hb => hr.2 b (by subst hb; simp), fun w' v' k' ho' st hk' => ?_⟩
  have hk1 : ∀ b, k = some b → lo ≤ b ∧ b < hi := fun b hb => hr.2 b (by subst hb; simp)
  have hC : InR lo hi (els.flatMap fun x => x.F1 ++ x.F2) := ⟨(List.nodup_append.1 hr.1).2.1, fun b hb => hr.2 b (List.mem_append_right _ hb)⟩
  have hkC : ∀ b, k = some b → b ∉ els.flatMap (fun x => x.F1 ++ x.F2) := fun b hb hm => by
    subst hb
    exact (List.nodup_append.1 hr.1).2.2 b (by simp) b hm rfl
  have hx' : x.Ok w' := hx.frame fun b hb => st.block b (by have := (kr.2 b hb).2; omega) fun hbk => by have := (hk1 b hbk.symm).2; have := (kr.2 b hb).1; omega
  have hok' : ∀ y ∈ els, y.Ok w' := fun y hy => (hok y hy).frame fun b hb => by
    have hm : b ∈ els.flatMap (fun x => x.F1 ++ x.F2) := List.mem_flatMap.2 ⟨y, hy, hb⟩
    exact st.block b (by have := (hC.2 b hm).2; omega) fun hbk => hkC b hbk.symm hm
  refine ⟨k'.toList ++ (els ++ [x]).flatMap (fun x => x.F1 ++ x.F2), ⟨els ++ [x], k', rfl, by rw [List.map_append, hmap]; simp [hf], ?_, by rw [List.length_append, List.length_singleton, hlen]; exact hn, fun y hy => ?_⟩, ?_⟩
  · rw [List.length_append, List.length_singleton, List.flatMap_append, List.flatMap_singleton, hlen]; simpa using ho'
  · rcases List.mem_append.1 hy with hy | hy
    · exact hok' y hy
    · simp at hy; subst hy; exact hx'
  · rw [List.flatMap_append, List.flatMap_singleton]
    have hs := st.size
    rcases hk' with rfl | ⟨j, rfl, hj⟩
    · rw [← List.append_assoc]
      exact (hr.app kr h1 h2).mono (Nat.le_refl _) (by omega)
    · have hjlt := ho'.lt j rfl
      exact (((hC.app kr h1 h2).mono (Nat.le_refl _) (show hi2 ≤ j by omega)).app (InR.one.mono (Nat.le_refl j) hjlt) (by omega) (by omega)).perm (by
        show List.Perm (_ ++ [j]) ([j] ++ _)
        exact List.perm_append_comm)

/-- It reads as these functions. -/
theorem FsR.funcs {w : World} {lo hi : Nat} {v : Value} {fs : List Nd.Fn} {S : Nat → Prop} (h : FsR w lo hi v fs) (hS : ∀ b, lo ≤ b → b < hi → S b) : FuncsIn w S false v fs := by
  obtain ⟨F, ⟨els, k, rfl, hmap, ho, hle, hok⟩, hr⟩ := h
  have hlen : els.length = fs.length := by rw [← hmap, List.length_map]
  have hS' : ∀ b ∈ k.toList ++ els.flatMap (fun x => x.F1 ++ x.F2), S b := fun b hb => hS b (hr.2 b hb).1 (hr.2 b hb).2
  obtain ⟨h1, h2⟩ := ho
  rcases h2 with ⟨rfl, h0, _⟩ | ⟨b, off, cap, cur, rfl, rfl, hh, h5, h6, h7, h8⟩
  · have : fs = [] := List.eq_nil_of_length_eq_zero (by omega)
    subst this
    exact ⟨none, 0, rfl, Nat.le_refl _, Nat.zero_le _, Nat.zero_le _, fun e => (by cases e), fun i hi => absurd hi (Nat.not_lt_zero _)⟩
  · rw [hlen]
    refine ⟨_, cap, rfl, hlen ▸ h5, h6, hlen ▸ hle, fun e => (by cases e), fun i hi => ?_⟩
    have hi' : i < els.length := by omega
    have hx := hok _ (List.getElem_mem hi')
    have hfi : els[i].f = fs[i] := by
      have : (els.map (·.f))[i]? = fs[i]? := by rw [hmap]
      simpa [List.getElem?_map, List.getElem?_eq_getElem hi', List.getElem?_eq_getElem hi] using this
    have hcell : ∀ j (hj : j < 3), w.cell? ⟨b, off + i * 3 + j, none⟩ = (els[i].cells)[j]? := by
      intro j hj
      have hidx : ∀ (l : List FV) (i : Nat) (hi : i < l.length), (l.flatMap FV.cells)[i * 3 + j]? = (l[i].cells)[j]? := by
        intro l
        induction l with
        | nil => intro i hi; exact absurd hi (Nat.not_lt_zero _)
        | cons y l ih =>
          intro i hi
          rw [List.flatMap_cons]
          have hy : y.cells.length = 3 := rfl
          cases i with
          | zero => rw [List.getElem?_append_left (by rw [hy]; omega)]; simp
          | succ i =>
            rw [List.getElem?_append_right (by rw [hy]; omega), hy, show (i + 1) * 3 + j - 3 = i * 3 + j by omega, ih i (by simpa using hi)]
            simp
      have hlt : i * 3 + j < els.length * 3 := by omega
      have e1 := hidx els i hi'
      rw [cell_of_row w b (off + i * 3 + j) cur TFn (0, 0) hh, ← e1, ← h8, List.getElem?_take, List.getElem?_drop, if_pos hlt]
      simp [Nat.add_assoc]
    have m1 : ∀ b ∈ els[i].F1 ++ els[i].F2, S b := fun b hb => hS' b (List.mem_append_right _ (List.mem_flatMap.2 ⟨els[i], List.getElem_mem hi', hb⟩))
    refine ⟨b, off, els[i].va, els[i].vb, rfl, hS' b (by simp), ?_⟩
    rw [← hfi]
    exact ⟨hx.name, hcell 0 (by decide), hcell 1 (by decide), hcell 2 (by decide), hx.args.texts fun b hb => m1 b (List.mem_append_left _ hb), hx.body.nodes fun b hb => m1 b (List.mem_append_right _ hb)⟩

end Go.Proofs.YtmkhfonafcikdaaGreatDoor

/- Programs: functions, as cells of a list. -/
namespace Go.My
open Go.RowKit Go.Nd
structure Fl where
  name : List UInt8
  v1 : Value
  v2 : Value
def Fl.cells (x : Fl) : List Value := [.string (tx x.name), x.v1, x.v2]
def flCells (l : List Fl) : List Value := l.flatMap Fl.cells
theorem flCells_cons (x : Fl) (l : List Fl) : flCells (x :: l) = .string (tx x.name) :: x.v1 :: x.v2 :: flCells l := by simp [flCells, Fl.cells]
theorem flCells_length (l : List Fl) : (flCells l).length = l.length * 3 := by
  induction l with
  | nil => rfl
  | cons x l ih => rw [flCells_cons]; simp only [List.length_cons, ih]; omega
theorem flCells_append (a b : List Fl) : flCells (a ++ b) = flCells a ++ flCells b := by simp [flCells]
theorem flCells_at (l : List Fl) (i : Nat) (hi : i < l.length) : (flCells l)[i * 3]? = some (.string (tx l[i].name)) ∧ (flCells l)[i * 3 + 1]? = some l[i].v1 ∧ (flCells l)[i * 3 + 2]? = some l[i].v2 := by
  induction l generalizing i with
  | nil => exact absurd hi (Nat.not_lt_zero _)
  | cons x l ih =>
    rw [flCells_cons]
    cases i with
    | zero => exact ⟨rfl, rfl, rfl⟩
    | succ i =>
      have := ih i (by simpa using hi)
      rw [show (i + 1) * 3 = i * 3 + 3 by omega]
      exact this

structure FlIs (w : World) (S : Nat → Prop) (tw : Bool) (e : Fl) (f : Nd.Fn) : Prop where
  name : e.name = f.name ∧ f.name.length ≤ 140737488351232
  args : TextsIn w S tw e.v1 f.args
  body : Nodes w S tw e.v2 f.body
end Go.My
namespace Go.Proofs.YtmkhfonafcikdaaGreatDoor
open Go.RowKit Go.My Go.Nd
theorem fnElem : Elem Tryz.prog 22 57 3 64 (.agg #[.string ⟨#[]⟩, .slice none 0 0, .slice none 0 0]) := Elem.mk' Tryz.underlying22 (by kernel_rfl) rfl (by decide)
end Go.Proofs.YtmkhfonafcikdaaGreatDoor

/- Lists that a book keeps, each in memory of its own: what an append leaves of the shorter list. No program in sight. -/
namespace Go.My
open Go.RowKit

section
variable {P : Program} (w : World)

/-- APPEND, and where the longer list lies: at the old place, or in a new block (then all old blocks are as they were). -/
theorem run_append_at {t e : TypeId} {size bytes : Nat} {z : Value} (E : Elem P t e size bytes z) (ty : TypeId)
    {v : Value} {n : Nat} {xs : List Value} {g : Option Nat} (hown : Own w e size v n xs g) {ad : Addr} {c : Nat} {m : Nat} {news : List Value} (hl : news.length = m * size) (hnews : ∀ j u, news[j]? = some u → w.cell? (ad.add j) = some u) (h1 : ∀ u ∈ news, u.oneCell' = true)
    (h63 : n + m ≤ maxLen) (hbytes : (n + m) * bytes ≤ 140737488355328) (hm : 0 < m) :
    ∃ v' w' g', (Builtin.append_ #[t, t] ty #[v, .slice (some ad) m c]).run P w = .ok v' w' ∧ Own w' e size v' (n + m) (xs ++ news) g' ∧
      ((∃ b off cap, v = .slice (some ⟨b, off, none⟩) n cap ∧ v' = .slice (some ⟨b, off, none⟩) (n + m) cap ∧ g = some b ∧ g' = some b ∧ Step w w' (some b)) ∨
       (Below w.heap.size w w' ∧ ∃ k cap, v' = .slice (some ⟨k, 0, none⟩) (n + m) cap ∧ g' = some k ∧ w.heap.size ≤ k)) := by
  obtain ⟨ht, ⟨i, hi, hz, hsize, hby⟩, hzs, hsz⟩ := E
  subst hsize
  subst hby
  have hsmall : n + m ≤ 9223372036854775807 := by simp only [maxLen] at h63; omega
  have hlen : (xs ++ news).length = (n + m) * i.size := by rw [List.length_append, hown.1, hl, Nat.add_mul]
  have grown : ∀ (old : Nat), old < n + m →
      Own (w.drew.alloc (.cells (xs.toArray ++ news.toArray ++ Builtin.zeroCells z.cells (grownCap w (n + m) old e - (n + m))) e)) e i.size
        (.slice (some ⟨w.heap.size, 0, none⟩) (n + m) (grownCap w (n + m) old e)) (n + m) (xs ++ news) (some w.heap.size) ∧
      Below w.heap.size w (w.drew.alloc (.cells (xs.toArray ++ news.toArray ++ Builtin.zeroCells z.cells (grownCap w (n + m) old e - (n + m))) e)) := by
    intro old ho
    have hge := grownCap_ge w (n + m) old e
    have hcm : grownCap w (n + m) old e ≤ maxLen := grownCap_le_maxLen w (n + m) old e h63
    refine ⟨⟨hlen, .inr ⟨w.heap.size, 0, _, _, rfl, rfl, heap_alloc_new w.drew _, hge, hcm, ?_, ?_⟩⟩, ⟨rfl, rfl, rfl, by simp, fun k hk => Below.heap_alloc w.drew _ k hk⟩⟩
    · simp only [Array.size_append, List.size_toArray, size_zeroCells, hzs, hown.1, hl, ← Nat.add_mul, Nat.zero_add]
      apply Nat.mul_le_mul_right
      omega
    · simp only [Array.toList_append, List.append_assoc, List.drop_zero]
      rw [← List.append_assoc, ← hlen]
      exact List.take_left
  rcases hown.2 with ⟨rfl, rfl, rfl⟩ | ⟨b, off, cap, cur, rfl, rfl, hh, h3, h4, h5, h6⟩
  · have hxs : xs = [] := List.eq_nil_of_length_eq_zero (by simpa using hown.1)
    subst hxs
    have hr := run_append_nil (P := P) w t ty e i z ht hi hz ad m c news hl hnews (by omega) (by omega) (by have hb := hbytes; simp only [Nat.zero_add] at hb; omega)
    have hgr := grown 0 (by omega)
    simp only [Nat.zero_add, List.nil_append, Array.empty_append] at hgr ⊢
    exact ⟨_, _, _, hr, hgr.1, .inr ⟨hgr.2, _, _, rfl, rfl, Nat.le_refl _⟩⟩
  · by_cases hroom : n + m ≤ cap
    · have hfit : off + n * i.size + news.length ≤ cur.size := by
        have := Nat.mul_le_mul_right i.size hroom
        rw [hl]; rw [Nat.add_mul] at this; omega
      have hf := run_firstCells_some (P := P) w i.size m ad m c news hl hnews
      have hst := run_storeCells_at P b (off + n * i.size) e news 0 cur w hh (by simpa using hfit) h1
      simp only [Nat.add_zero] at hst
      have hr : (Builtin.append_ #[t, t] ty #[.slice (some ⟨b, off, none⟩) n cap, .slice (some ad) m c]).run P w =
          .ok (.slice (some ⟨b, off, none⟩) (n + m) cap) (w.setRow b (cur.toList.take (off + n * i.size) ++ news ++ cur.toList.drop (off + n * i.size + news.length)).toArray) := by
        simp [Builtin.append_, run_underlying ht, sizeOf, typeInfo, hi, Builtin.lenOf, hroom, hf, Addr.add_lit, hst]
      refine ⟨_, _, some b, hr, ⟨hlen, .inr ⟨b, off, cap, _, rfl, rfl, setRow_heap w b cur _ e _ hh, hroom, h4, ?_, ?_⟩⟩,
        .inl ⟨b, off, cap, rfl, rfl, rfl, rfl, rfl, rfl, rfl, by simp, fun k _ hk => setRow_other w b k _ (fun e => hk (by simp [e]))⟩⟩
      · simp only [List.size_toArray, List.length_append, List.length_take, List.length_drop, Array.length_toList]
        omega
      · have hx1 : xs.length = n * i.size := hown.1
        have hpre : (cur.toList.take (off + n * i.size)).drop off = xs := by
          rw [List.drop_take, ← h6]; congr 1; omega
        have hlo : off ≤ (cur.toList.take (off + n * i.size)).length := by simp; omega
        show List.take ((n + m) * i.size) (List.drop off (cur.toList.take (off + n * i.size) ++ news ++ cur.toList.drop (off + n * i.size + news.length))) = xs ++ news
        rw [List.append_assoc, List.drop_append_of_le_length hlo, hpre, ← List.append_assoc, ← hlen]
        exact List.take_left
    · have holds : ∀ j u, xs[j]? = some u → w.cell? ((⟨b, off, none⟩ : Addr).add j) = some u := by
        intro j u hj
        rw [add_none, cell_of_row w b (off + j) cur e (0, 0) hh, ← hj, ← h6, List.getElem?_take, List.getElem?_drop]
        rw [if_pos (by have := (List.getElem?_eq_some_iff.1 hj).1; rw [hown.1] at this; exact this)]; simp
      have hr := run_append_grow (P := P) w t ty e i z ht hi hz ⟨b, off, none⟩ n cap xs hown.1 holds ad m c news hl hnews (by omega) (by omega) (growslice_fits (by omega) hbytes)
      have hgr := grown cap (by omega)
      exact ⟨_, _, _, hr, hgr.1, .inr ⟨hgr.2, _, _, rfl, rfl, Nat.le_refl _⟩⟩
end

/-- A list v of n elements, and a longer one, u, that began as it: the first reads as xs, the second as xs and more. Both are t's. -/
def Grown (w : World) (g : Tags) (t : Nat) (e : TypeId) (size : Nat) (v : Value) (n : Nat) (xs : List Value) (u : Value) (m : Nat) (more : List Value) : Prop :=
  xs.length = n * size ∧ Owns w g t e size u (n + m) (xs ++ more) ∧
  ∃ ao cap, v = .slice ao n cap ∧ ((ao = none ∧ n = 0) ∨ ∃ b off, ao = some ⟨b, off, none⟩ ∧ g b = t ∧ b < w.heap.size ∧ ∀ j c, xs[j]? = some c → w.cell? ⟨b, off + j, none⟩ = some c) ∧
    (∀ b off c, u = .slice (some ⟨b, off, none⟩) (n + m) c → ao = some ⟨b, off, none⟩ ∨ ∀ o, ao = some o → o.block ≠ b)

theorem Owns.grown {w : World} {g : Tags} {t : Nat} {e : TypeId} {size : Nat} {v : Value} {n : Nat} {xs : List Value} (h : Owns w g t e size v n xs) : Grown w g t e size v n xs v 0 [] := by
  obtain ⟨k, ho, hk⟩ := h
  refine ⟨ho.1, ⟨k, by simpa using ho, hk⟩, ?_⟩
  rcases ho.2 with ⟨rfl, rfl, _⟩ | ⟨b, off, cap, cur, rfl, hg, hh, h3, h4, h5, h6⟩
  · exact ⟨none, 0, rfl, .inl ⟨rfl, rfl⟩, fun b off c hu => by cases hu⟩
  · refine ⟨_, cap, rfl, .inr ⟨b, off, rfl, hk b hg, (Array.getElem?_eq_some_iff.1 hh).1, fun j c hj => ?_⟩, fun b' off' c hu => by cases hu; exact .inl rfl⟩
    rw [cell_of_row w b (off + j) cur e (0, 0) hh, ← hj, ← h6, List.getElem?_take, List.getElem?_drop]
    rw [if_pos (by have := (List.getElem?_eq_some_iff.1 hj).1; rw [ho.1] at this; exact this)]; simp

/-- The shorter one reads as it did. -/
theorem Grown.cell {w : World} {g : Tags} {t : Nat} {e : TypeId} {size : Nat} {v : Value} {n : Nat} {xs : List Value} {u : Value} {m : Nat} {more : List Value} (h : Grown w g t e size v n xs u m more) (hn : 0 < n) :
    ∃ b off cap, v = .slice (some ⟨b, off, none⟩) n cap ∧ ∀ j c, xs[j]? = some c → w.cell? ⟨b, off + j, none⟩ = some c := by
  obtain ⟨_, _, ao, cap, hv, hc, _⟩ := h
  rcases hc with ⟨_, h0⟩ | ⟨b, off, rfl, _, _, hcell⟩
  · omega
  · exact ⟨b, off, cap, hv, hcell⟩

theorem Grown.turn {w w' : World} {g g' : Tags} {T : List Nat} {t : Nat} {e : TypeId} {size : Nat} {v : Value} {n : Nat} {xs : List Value} {u : Value} {m : Nat} {more : List Value} (h : Grown w g t e size v n xs u m more) (k : Turn w g w' g' T) (ht : t ∉ T) : Grown w' g' t e size v n xs u m more := by
  obtain ⟨hl, ho, ao, cap, hv, hc, hu⟩ := h
  refine ⟨hl, ho.turn k ht, ao, cap, hv, ?_, hu⟩
  rcases hc with h0 | ⟨b, off, ha, hg, hb, hcell⟩
  · exact .inl h0
  refine .inr ⟨b, off, ha, (k.old b hb).trans hg, Nat.lt_of_lt_of_le hb k.size, fun j c hj => ?_⟩
  exact (World.cell?_of_block (k.block b hb (by rw [hg]; exact ht))).trans (hcell j c hj)

section
variable {P : Program} (w : World)
/-- ONE MORE BEHIND THE LONGER ONE, FOR THE WALK. -/
theorem wpList_append_grown {ops : Array Oper} {rest : List Oper} {o : Oper} {a : Act} {Q : Exit → Act → World → Prop} (hgd : o.guard = none) (s x : Operand) {t e : TypeId}
    (ho : o.op = .call { callee := .builtin .append, args := #[s, x], argTypes := #[t, t] }) {size bytes : Nat} {z : Value} (E : Elem P t e size bytes z)
    {v u : Value} {n m : Nat} {xs more : List Value} {g : Tags} {tg : Nat} (hs : a.eval s = u) (hG : Grown w g tg e size v n xs u m more) {y : Value} {ad : Addr} {c : Nat} {news : List Value} (hy : a.eval x = y) (hyy : y = .slice (some ad) 1 c) (hl : news.length = size) (hnews : ∀ j q, news[j]? = some q → w.cell? (ad.add j) = some q) (h1 : ∀ q ∈ news, q.oneCell' = true)
    (h63 : n + m + 1 ≤ maxLen) (hbytes : (n + m + 1) * bytes ≤ 140737488355328)
    (h : ∀ ao cap w' g', Grown w' g' tg e size v n xs (.slice ao (n + (m + 1)) cap) (m + 1) (more ++ news) → Turn w g w' g' [tg] → wpList P ops Q rest (a.put o.dst (.slice ao (n + (m + 1)) cap)) w') : wpList P ops Q (o :: rest) a w := by
  obtain ⟨hxl, ⟨k, hown, hk⟩, ao, cap, hv, hcell, hap⟩ := hG
  subst hyy
  obtain ⟨v', w', g', hr, hown', hor⟩ := run_append_at w E o.type hown (m := 1) (c := c) (by omega) hnews h1 h63 hbytes (by decide)
  refine wpList_plain hgd fun _ hK => ?_
  unfold Oper.wp execOp
  simp only [ho, resolve, invoke, builtin, Sem.run_bind, Sem.run_pure, Result.andThen_ok, List.map_toArray, List.map_cons, List.map_nil, hs, hy, hr]
  refine hK _ _ ?_
  rw [List.append_assoc] at hown'
  rcases hor with ⟨b, off, cp, hu, hv', hkb, hkb', hst⟩ | ⟨hb, k', cp, hv', hk', hge⟩
  · subst hv'
    have hT := Turn.of_step hst g tg (fun q e => by cases e; exact hk b hkb)
    refine h _ _ w' _ ⟨hxl, ⟨g', hown', fun q hq => ?_⟩, ao, cap, hv, ?_, fun b2 off2 c2 h2 => ?_⟩ hT
    · rw [hkb'] at hq; cases hq
      rw [Tags.ext_old _ _ _ _ (hown.lt b hkb)]; exact hk b hkb
    · rcases hcell with h0 | ⟨b3, off3, ha3, hg3, hlt3, hc3⟩
      · exact .inl h0
      refine .inr ⟨b3, off3, ha3, by rw [Tags.ext_old _ _ _ _ hlt3]; exact hg3, Nat.lt_of_lt_of_le hlt3 hst.size, fun j q hj => ?_⟩
      rcases hap b off cp (by rw [hu]) with h4 | h4
      · rw [ha3] at h4; cases h4
        rcases hown'.2 with ⟨e1, _⟩ | ⟨b5, off5, cap5, cur5, e5, _, hh5, h35, h45, h55, h65⟩
        · cases e1
        · cases e5
          have hj2 := (List.getElem?_eq_some_iff.1 hj).1
          rw [cell_of_row w' b (off + j) cur5 e (0, 0) hh5]
          have h7 : (xs ++ (more ++ news))[j]? = some q := by rw [List.getElem?_append_left hj2]; exact hj
          rw [← h65, List.getElem?_take] at h7
          split at h7
          · rw [List.getElem?_drop, Array.getElem?_toList] at h7; exact h7
          · cases h7
      · have hne : b3 ≠ b := h4 _ ha3
        exact (hst.cell (a := ⟨b3, off3 + j, none⟩) hlt3 (fun e => hne (by cases e; rfl))).trans (hc3 j q hj)
    · cases h2
      rcases hap b off cp (by rw [hu]) with h4 | h4
      · exact .inl h4
      · exact .inr h4
  · subst hv'
    have hT := (Turn.of_below hb g tg)
    refine h _ _ w' _ ⟨hxl, ⟨g', hown', fun q hq => ?_⟩, ao, cap, hv, ?_, fun b2 off2 c2 h2 => ?_⟩ (hT.mono (by simp))
    · rw [hk'] at hq; cases hq
      exact Tags.ext_new _ _ _ _ hge
    · rcases hcell with h0 | ⟨b3, off3, ha3, hg3, hlt3, hc3⟩
      · exact .inl h0
      refine .inr ⟨b3, off3, ha3, by rw [Tags.ext_old _ _ _ _ hlt3]; exact hg3, Nat.lt_of_lt_of_le hlt3 hb.size, fun j q hj => ?_⟩
      exact (World.cell?_of_block (hb.block b3 hlt3)).trans (hc3 j q hj)
    · cases h2
      rcases hcell with ⟨h0, _⟩ | ⟨b3, off3, ha3, hg3, hlt3, hc3⟩
      · exact .inr fun q hq => by rw [h0] at hq; cases hq
      · refine .inr fun q hq => ?_
        rw [ha3] at hq; cases hq
        show b3 ≠ k'
        omega
end

theorem oneCell_set {w : World} {b o : Nat} {cur : Array Value} {e : TypeId} (u : Value) (h : w.heap[b]? = some (.cells cur e (0, 0))) : (w.setCell ⟨b, o, none⟩ u).heap[b]? = some (.cells (cur.setIfInBounds o u) e (0, 0)) := heap_setCell_same w b o _ _ u h

theorem drop_set_take (l : List Value) (off j n : Nat) (u : Value) (hj : j < n) (_ : off + n ≤ l.length) : ((l.set (off + j) u).drop off).take n = ((l.drop off).take n).set j u := by
  apply List.ext_getElem
  · simp
  · intro i h1 h2
    simp only [List.getElem_take, List.getElem_drop, List.getElem_set]
    by_cases hij : i = j
    · subst hij; simp
    · rw [if_neg (by omega), if_neg (by omega)]

/-- A cell of a list that the call owns. -/
theorem Owns.cell {w : World} {g : Tags} {t : Nat} {e : TypeId} {size : Nat} {v : Value} {n : Nat} {xs : List Value} (h : Owns w g t e size v n xs) (hn : 0 < n) :
    ∃ b off cap, v = .slice (some ⟨b, off, none⟩) n cap ∧ g b = t ∧ n ≤ cap ∧ cap ≤ maxLen ∧ b < w.heap.size ∧ ∀ j, j < n * size → w.cell? ⟨b, off + j, none⟩ = xs[j]? ∧ w.frozen? ⟨b, off + j, none⟩ = false := by
  obtain ⟨k, ho, hk⟩ := h
  rcases ho.2 with ⟨_, rfl, _⟩ | ⟨b, off, cap, cur, rfl, hg, hh, h3, h4, h5, h6⟩
  · exact absurd hn (Nat.lt_irrefl _)
  · refine ⟨b, off, cap, rfl, hk b hg, h3, h4, (Array.getElem?_eq_some_iff.1 hh).1, fun j hj => ⟨?_, frozen_of_row w b (off + j) _ _ hh⟩⟩
    rw [cell_of_row w b (off + j) cur e (0, 0) hh, ← h6, List.getElem?_take, if_pos hj, List.getElem?_drop, Array.getElem?_toList]

/-- A STORE INTO IT. -/
theorem Owns.set {w : World} {g : Tags} {t : Nat} {e : TypeId} {size b off n cap : Nat} {xs : List Value} (h : Owns w g t e size (.slice (some ⟨b, off, none⟩) n cap) n xs) (j : Nat) (hj : j < n * size) (u : Value) :
    Owns (w.setCell ⟨b, off + j, none⟩ u) g t e size (.slice (some ⟨b, off, none⟩) n cap) n (xs.set j u) ∧ Turn w g (w.setCell ⟨b, off + j, none⟩ u) g [t] := by
  obtain ⟨k, ho, hk⟩ := h
  rcases ho.2 with ⟨hv, _⟩ | ⟨b', off', cap', cur, hv, hg, hh, h3, h4, h5, h6⟩
  · cases hv
  · cases hv
    have hb : g b = t := hk b hg
    refine ⟨⟨k, ⟨by rw [List.length_set]; exact ho.1, .inr ⟨b, off, cap, _, rfl, hg, oneCell_set u hh, h3, h4, by simpa using h5, ?_⟩⟩, hk⟩, ?_⟩
    · have h7 : n * size ≤ cap * size := Nat.mul_le_mul_right _ h3
      rw [← h6, Array.toList_setIfInBounds]
      exact drop_set_take _ _ _ _ _ hj (by rw [Array.length_toList]; omega)
    · have := Turn.setCell w g ⟨b, off + j, none⟩ u (by simp) rfl rfl rfl
      rw [hb] at this; exact this

/-- Many are not one of many. -/
theorem not_mem_upto (t m k : Nat) (h : t < k ∨ k + m ≤ t) : t ∉ (List.range m).map (k + ·) := by
  intro hm
  obtain ⟨j, hj, he⟩ := List.mem_map.1 hm
  have := List.mem_range.1 hj
  omega

/-- A block of cells that the call made. -/
def Bx (w : World) (g : Tags) (b : Nat) (ty : TypeId) (t : Nat) (cs : Array Value) : Prop := w.heap[b]? = some (.cells cs ty (0, 0)) ∧ g b = t
theorem Bx.lt {w : World} {g : Tags} {b : Nat} {ty : TypeId} {t : Nat} {cs : Array Value} (h : Bx w g b ty t cs) : b < w.heap.size := (Array.getElem?_eq_some_iff.1 h.1).1
theorem Bx.turn {w w' : World} {g g' : Tags} {T : List Nat} {b : Nat} {ty : TypeId} {t : Nat} {cs : Array Value} (h : Bx w g b ty t cs) (k : Turn w g w' g' T) (ht : t ∉ T) : Bx w' g' b ty t cs :=
  ⟨(k.block b h.lt (by rw [h.2]; exact ht)).trans h.1, (k.old b h.lt).trans h.2⟩
theorem Bx.cell {w : World} {g : Tags} {b : Nat} {ty : TypeId} {t : Nat} {cs : Array Value} (h : Bx w g b ty t cs) (i : Nat) : w.cell? ⟨b, i, none⟩ = cs[i]? ∧ w.frozen? ⟨b, i, none⟩ = false :=
  ⟨cell_of_row w b i _ _ _ h.1, frozen_of_row w b i _ _ h.1⟩
theorem Bx.alloc (w : World) (g : Tags) (ty : TypeId) (t : Nat) (cs : Array Value) : Bx (w.alloc (.cells cs ty)) (g.ext w.heap.size t) w.heap.size ty t cs :=
  ⟨heap_alloc_new w _, Tags.ext_new _ _ _ _ (Nat.le_refl _)⟩
theorem Bx.store {w : World} {g : Tags} {b : Nat} {ty : TypeId} {t : Nat} {cs : Array Value} (h : Bx w g b ty t cs) (i : Nat) (v : Value) :
    Turn w g (w.setCell ⟨b, i, none⟩ v) g [t] ∧ Bx (w.setCell ⟨b, i, none⟩ v) g b ty t (cs.setIfInBounds i v) := by
  refine ⟨?_, heap_setCell_same w b i _ _ v h.1, h.2⟩
  have := Turn.setCell w g ⟨b, i, none⟩ v (by simp) rfl rfl rfl
  rw [h.2] at this; exact this
end Go.My

/- A book: the kinds of lists that it does not hold. -/
namespace Go.Proofs.YtmkhfonafcikdaaGreatDoor
open Go.RowKit Go.My

theorem fillByte_nil {w : World} {bp : Nat} {v : Value} (hv : v = .slice none 0 0) (hc : w.cell? ⟨bp, 1, none⟩ = some v) {Q : Ending → World → Prop} (h : Q (.returned (.tuple #[])) w) : Calls Tryz.prog 52 #[.pointer (some ⟨bp, 0, none⟩)] w Q := by
  subst hv
  have H := Lib.hid h
  clear h
  go_enter Tryz.func52, Tryz.ntmps52
  go_wp2
  go_loop [2] (fun i => i = .int .i64 0) (fun _ => 0)
  case atStart => rfl
  case round =>
    obtain rfl := hrel
    go_wp2
    go_end0
    exact H.out

theorem growByte_nil {w : World} {bp : Nat} {v : Value} (hv : v = .slice none 0 0) (hc : w.cell? ⟨bp, 1, none⟩ = some v) {Q : Ending → World → Prop} (h : Q (.returned (.tuple #[])) w) : Calls Tryz.prog 64 #[.pointer (some ⟨bp, 0, none⟩)] w Q := by
  subst hv
  have H := Lib.hid h
  clear h
  go_enter Tryz.func64, Tryz.ntmps64
  go_wp2
  go_loop [2] (fun i => i = .int .i64 0) (fun _ => 0)
  case atStart => rfl
  case round =>
    obtain rfl := hrel
    go_wp2
    go_end0
    exact H.out

theorem lookByte_nil {w : World} {bp : Nat} {v : Value} (hv : v = .slice none 0 0) (hc : w.cell? ⟨bp, 1, none⟩ = some v) : Calls Tryz.prog 76 #[.pointer (some ⟨bp, 0, none⟩)] w fun e w' => e = .returned (.bool true) ∧ w' = w := by
  subst hv
  go_enter Tryz.func76, Tryz.ntmps76
  go_wp2
  go_loop [3] (fun i => i = .int .i64 0) (fun _ => 0)
  case atStart => rfl
  case round =>
    obtain rfl := hrel
    go_wp2
    go_ret
    exact ⟨rfl, rfl⟩

theorem fillLimb_nil {w : World} {bp : Nat} {v : Value} (hv : v = .slice none 0 0) (hc : w.cell? ⟨bp, 2, none⟩ = some v) {Q : Ending → World → Prop} (h : Q (.returned (.tuple #[])) w) : Calls Tryz.prog 53 #[.pointer (some ⟨bp, 0, none⟩)] w Q := by
  subst hv
  have H := Lib.hid h
  clear h
  go_enter Tryz.func53, Tryz.ntmps53
  go_wp2
  go_loop [2] (fun i => i = .int .i64 0) (fun _ => 0)
  case atStart => rfl
  case round =>
    obtain rfl := hrel
    go_wp2
    go_end0
    exact H.out

theorem growLimb_nil {w : World} {bp : Nat} {v : Value} (hv : v = .slice none 0 0) (hc : w.cell? ⟨bp, 2, none⟩ = some v) {Q : Ending → World → Prop} (h : Q (.returned (.tuple #[])) w) : Calls Tryz.prog 65 #[.pointer (some ⟨bp, 0, none⟩)] w Q := by
  subst hv
  have H := Lib.hid h
  clear h
  go_enter Tryz.func65, Tryz.ntmps65
  go_wp2
  go_loop [2] (fun i => i = .int .i64 0) (fun _ => 0)
  case atStart => rfl
  case round =>
    obtain rfl := hrel
    go_wp2
    go_end0
    exact H.out

theorem lookLimb_nil {w : World} {bp : Nat} {v : Value} (hv : v = .slice none 0 0) (hc : w.cell? ⟨bp, 2, none⟩ = some v) : Calls Tryz.prog 77 #[.pointer (some ⟨bp, 0, none⟩)] w fun e w' => e = .returned (.bool true) ∧ w' = w := by
  subst hv
  go_enter Tryz.func77, Tryz.ntmps77
  go_wp2
  go_loop [3] (fun i => i = .int .i64 0) (fun _ => 0)
  case atStart => rfl
  case round =>
    obtain rfl := hrel
    go_wp2
    go_ret
    exact ⟨rfl, rfl⟩

theorem fillText_nil {w : World} {bp : Nat} {v : Value} (hv : v = .slice none 0 0) (hc : w.cell? ⟨bp, 3, none⟩ = some v) {Q : Ending → World → Prop} (h : Q (.returned (.tuple #[])) w) : Calls Tryz.prog 54 #[.pointer (some ⟨bp, 0, none⟩)] w Q := by
  subst hv
  have H := Lib.hid h
  clear h
  go_enter Tryz.func54, Tryz.ntmps54
  go_wp2
  go_loop [2] (fun i => i = .int .i64 0) (fun _ => 0)
  case atStart => rfl
  case round =>
    obtain rfl := hrel
    go_wp2
    go_end0
    exact H.out

theorem growText_nil {w : World} {bp : Nat} {v : Value} (hv : v = .slice none 0 0) (hc : w.cell? ⟨bp, 3, none⟩ = some v) {Q : Ending → World → Prop} (h : Q (.returned (.tuple #[])) w) : Calls Tryz.prog 66 #[.pointer (some ⟨bp, 0, none⟩)] w Q := by
  subst hv
  have H := Lib.hid h
  clear h
  go_enter Tryz.func66, Tryz.ntmps66
  go_wp2
  go_loop [2] (fun i => i = .int .i64 0) (fun _ => 0)
  case atStart => rfl
  case round =>
    obtain rfl := hrel
    go_wp2
    go_end0
    exact H.out

theorem lookText_nil {w : World} {bp : Nat} {v : Value} (hv : v = .slice none 0 0) (hc : w.cell? ⟨bp, 3, none⟩ = some v) : Calls Tryz.prog 78 #[.pointer (some ⟨bp, 0, none⟩)] w fun e w' => e = .returned (.bool true) ∧ w' = w := by
  subst hv
  go_enter Tryz.func78, Tryz.ntmps78
  go_wp2
  go_loop [3] (fun i => i = .int .i64 0) (fun _ => 0)
  case atStart => rfl
  case round =>
    obtain rfl := hrel
    go_wp2
    go_ret
    exact ⟨rfl, rfl⟩

theorem fillToken_nil {w : World} {bp : Nat} {v : Value} (hv : v = .slice none 0 0) (hc : w.cell? ⟨bp, 4, none⟩ = some v) {Q : Ending → World → Prop} (h : Q (.returned (.tuple #[])) w) : Calls Tryz.prog 55 #[.pointer (some ⟨bp, 0, none⟩)] w Q := by
  subst hv
  have H := Lib.hid h
  clear h
  go_enter Tryz.func55, Tryz.ntmps55
  go_wp2
  go_loop [2] (fun i => i = .int .i64 0) (fun _ => 0)
  case atStart => rfl
  case round =>
    obtain rfl := hrel
    go_wp2
    go_end0
    exact H.out

theorem growToken_nil {w : World} {bp : Nat} {v : Value} (hv : v = .slice none 0 0) (hc : w.cell? ⟨bp, 4, none⟩ = some v) {Q : Ending → World → Prop} (h : Q (.returned (.tuple #[])) w) : Calls Tryz.prog 67 #[.pointer (some ⟨bp, 0, none⟩)] w Q := by
  subst hv
  have H := Lib.hid h
  clear h
  go_enter Tryz.func67, Tryz.ntmps67
  go_wp2
  go_loop [2] (fun i => i = .int .i64 0) (fun _ => 0)
  case atStart => rfl
  case round =>
    obtain rfl := hrel
    go_wp2
    go_end0
    exact H.out

theorem lookToken_nil {w : World} {bp : Nat} {v : Value} (hv : v = .slice none 0 0) (hc : w.cell? ⟨bp, 4, none⟩ = some v) : Calls Tryz.prog 79 #[.pointer (some ⟨bp, 0, none⟩)] w fun e w' => e = .returned (.bool true) ∧ w' = w := by
  subst hv
  go_enter Tryz.func79, Tryz.ntmps79
  go_wp2
  go_loop [3] (fun i => i = .int .i64 0) (fun _ => 0)
  case atStart => rfl
  case round =>
    obtain rfl := hrel
    go_wp2
    go_ret
    exact ⟨rfl, rfl⟩

theorem fillNum_nil {w : World} {bp : Nat} {v : Value} (hv : v = .slice none 0 0) (hc : w.cell? ⟨bp, 5, none⟩ = some v) {Q : Ending → World → Prop} (h : Q (.returned (.tuple #[])) w) : Calls Tryz.prog 56 #[.pointer (some ⟨bp, 0, none⟩)] w Q := by
  subst hv
  have H := Lib.hid h
  clear h
  go_enter Tryz.func56, Tryz.ntmps56
  go_wp2
  go_loop [2] (fun i => i = .int .i64 0) (fun _ => 0)
  case atStart => rfl
  case round =>
    obtain rfl := hrel
    go_wp2
    go_end0
    exact H.out

theorem growNum_nil {w : World} {bp : Nat} {v : Value} (hv : v = .slice none 0 0) (hc : w.cell? ⟨bp, 5, none⟩ = some v) {Q : Ending → World → Prop} (h : Q (.returned (.tuple #[])) w) : Calls Tryz.prog 68 #[.pointer (some ⟨bp, 0, none⟩)] w Q := by
  subst hv
  have H := Lib.hid h
  clear h
  go_enter Tryz.func68, Tryz.ntmps68
  go_wp2
  go_loop [2] (fun i => i = .int .i64 0) (fun _ => 0)
  case atStart => rfl
  case round =>
    obtain rfl := hrel
    go_wp2
    go_end0
    exact H.out

theorem lookNum_nil {w : World} {bp : Nat} {v : Value} (hv : v = .slice none 0 0) (hc : w.cell? ⟨bp, 5, none⟩ = some v) : Calls Tryz.prog 80 #[.pointer (some ⟨bp, 0, none⟩)] w fun e w' => e = .returned (.bool true) ∧ w' = w := by
  subst hv
  go_enter Tryz.func80, Tryz.ntmps80
  go_wp2
  go_loop [3] (fun i => i = .int .i64 0) (fun _ => 0)
  case atStart => rfl
  case round =>
    obtain rfl := hrel
    go_wp2
    go_ret
    exact ⟨rfl, rfl⟩

theorem fillTerm_nil {w : World} {bp : Nat} {v : Value} (hv : v = .slice none 0 0) (hc : w.cell? ⟨bp, 6, none⟩ = some v) {Q : Ending → World → Prop} (h : Q (.returned (.tuple #[])) w) : Calls Tryz.prog 57 #[.pointer (some ⟨bp, 0, none⟩)] w Q := by
  subst hv
  have H := Lib.hid h
  clear h
  go_enter Tryz.func57, Tryz.ntmps57
  go_wp2
  go_loop [2] (fun i => i = .int .i64 0) (fun _ => 0)
  case atStart => rfl
  case round =>
    obtain rfl := hrel
    go_wp2
    go_end0
    exact H.out

theorem growTerm_nil {w : World} {bp : Nat} {v : Value} (hv : v = .slice none 0 0) (hc : w.cell? ⟨bp, 6, none⟩ = some v) {Q : Ending → World → Prop} (h : Q (.returned (.tuple #[])) w) : Calls Tryz.prog 69 #[.pointer (some ⟨bp, 0, none⟩)] w Q := by
  subst hv
  have H := Lib.hid h
  clear h
  go_enter Tryz.func69, Tryz.ntmps69
  go_wp2
  go_loop [2] (fun i => i = .int .i64 0) (fun _ => 0)
  case atStart => rfl
  case round =>
    obtain rfl := hrel
    go_wp2
    go_end0
    exact H.out

theorem lookTerm_nil {w : World} {bp : Nat} {v : Value} (hv : v = .slice none 0 0) (hc : w.cell? ⟨bp, 6, none⟩ = some v) : Calls Tryz.prog 81 #[.pointer (some ⟨bp, 0, none⟩)] w fun e w' => e = .returned (.bool true) ∧ w' = w := by
  subst hv
  go_enter Tryz.func81, Tryz.ntmps81
  go_wp2
  go_loop [3] (fun i => i = .int .i64 0) (fun _ => 0)
  case atStart => rfl
  case round =>
    obtain rfl := hrel
    go_wp2
    go_ret
    exact ⟨rfl, rfl⟩

theorem fillFactor_nil {w : World} {bp : Nat} {v : Value} (hv : v = .slice none 0 0) (hc : w.cell? ⟨bp, 7, none⟩ = some v) {Q : Ending → World → Prop} (h : Q (.returned (.tuple #[])) w) : Calls Tryz.prog 58 #[.pointer (some ⟨bp, 0, none⟩)] w Q := by
  subst hv
  have H := Lib.hid h
  clear h
  go_enter Tryz.func58, Tryz.ntmps58
  go_wp2
  go_loop [2] (fun i => i = .int .i64 0) (fun _ => 0)
  case atStart => rfl
  case round =>
    obtain rfl := hrel
    go_wp2
    go_end0
    exact H.out

theorem growFactor_nil {w : World} {bp : Nat} {v : Value} (hv : v = .slice none 0 0) (hc : w.cell? ⟨bp, 7, none⟩ = some v) {Q : Ending → World → Prop} (h : Q (.returned (.tuple #[])) w) : Calls Tryz.prog 70 #[.pointer (some ⟨bp, 0, none⟩)] w Q := by
  subst hv
  have H := Lib.hid h
  clear h
  go_enter Tryz.func70, Tryz.ntmps70
  go_wp2
  go_loop [2] (fun i => i = .int .i64 0) (fun _ => 0)
  case atStart => rfl
  case round =>
    obtain rfl := hrel
    go_wp2
    go_end0
    exact H.out

theorem lookFactor_nil {w : World} {bp : Nat} {v : Value} (hv : v = .slice none 0 0) (hc : w.cell? ⟨bp, 7, none⟩ = some v) : Calls Tryz.prog 82 #[.pointer (some ⟨bp, 0, none⟩)] w fun e w' => e = .returned (.bool true) ∧ w' = w := by
  subst hv
  go_enter Tryz.func82, Tryz.ntmps82
  go_wp2
  go_loop [3] (fun i => i = .int .i64 0) (fun _ => 0)
  case atStart => rfl
  case round =>
    obtain rfl := hrel
    go_wp2
    go_ret
    exact ⟨rfl, rfl⟩

theorem fillNode_nil {w : World} {bp : Nat} {v : Value} (hv : v = .slice none 0 0) (hc : w.cell? ⟨bp, 8, none⟩ = some v) {Q : Ending → World → Prop} (h : Q (.returned (.tuple #[])) w) : Calls Tryz.prog 59 #[.pointer (some ⟨bp, 0, none⟩)] w Q := by
  subst hv
  have H := Lib.hid h
  clear h
  go_enter Tryz.func59, Tryz.ntmps59
  go_wp2
  go_loop [2] (fun i => i = .int .i64 0) (fun _ => 0)
  case atStart => rfl
  case round =>
    obtain rfl := hrel
    go_wp2
    go_end0
    exact H.out

theorem growNode_nil {w : World} {bp : Nat} {v : Value} (hv : v = .slice none 0 0) (hc : w.cell? ⟨bp, 8, none⟩ = some v) {Q : Ending → World → Prop} (h : Q (.returned (.tuple #[])) w) : Calls Tryz.prog 71 #[.pointer (some ⟨bp, 0, none⟩)] w Q := by
  subst hv
  have H := Lib.hid h
  clear h
  go_enter Tryz.func71, Tryz.ntmps71
  go_wp2
  go_loop [2] (fun i => i = .int .i64 0) (fun _ => 0)
  case atStart => rfl
  case round =>
    obtain rfl := hrel
    go_wp2
    go_end0
    exact H.out

theorem lookNode_nil {w : World} {bp : Nat} {v : Value} (hv : v = .slice none 0 0) (hc : w.cell? ⟨bp, 8, none⟩ = some v) : Calls Tryz.prog 83 #[.pointer (some ⟨bp, 0, none⟩)] w fun e w' => e = .returned (.bool true) ∧ w' = w := by
  subst hv
  go_enter Tryz.func83, Tryz.ntmps83
  go_wp2
  go_loop [3] (fun i => i = .int .i64 0) (fun _ => 0)
  case atStart => rfl
  case round =>
    obtain rfl := hrel
    go_wp2
    go_ret
    exact ⟨rfl, rfl⟩

theorem fillFunc_nil {w : World} {bp : Nat} {v : Value} (hv : v = .slice none 0 0) (hc : w.cell? ⟨bp, 9, none⟩ = some v) {Q : Ending → World → Prop} (h : Q (.returned (.tuple #[])) w) : Calls Tryz.prog 60 #[.pointer (some ⟨bp, 0, none⟩)] w Q := by
  subst hv
  have H := Lib.hid h
  clear h
  go_enter Tryz.func60, Tryz.ntmps60
  go_wp2
  go_loop [2] (fun i => i = .int .i64 0) (fun _ => 0)
  case atStart => rfl
  case round =>
    obtain rfl := hrel
    go_wp2
    go_end0
    exact H.out

theorem growFunc_nil {w : World} {bp : Nat} {v : Value} (hv : v = .slice none 0 0) (hc : w.cell? ⟨bp, 9, none⟩ = some v) {Q : Ending → World → Prop} (h : Q (.returned (.tuple #[])) w) : Calls Tryz.prog 72 #[.pointer (some ⟨bp, 0, none⟩)] w Q := by
  subst hv
  have H := Lib.hid h
  clear h
  go_enter Tryz.func72, Tryz.ntmps72
  go_wp2
  go_loop [2] (fun i => i = .int .i64 0) (fun _ => 0)
  case atStart => rfl
  case round =>
    obtain rfl := hrel
    go_wp2
    go_end0
    exact H.out

theorem lookFunc_nil {w : World} {bp : Nat} {v : Value} (hv : v = .slice none 0 0) (hc : w.cell? ⟨bp, 9, none⟩ = some v) : Calls Tryz.prog 84 #[.pointer (some ⟨bp, 0, none⟩)] w fun e w' => e = .returned (.bool true) ∧ w' = w := by
  subst hv
  go_enter Tryz.func84, Tryz.ntmps84
  go_wp2
  go_loop [3] (fun i => i = .int .i64 0) (fun _ => 0)
  case atStart => rfl
  case round =>
    obtain rfl := hrel
    go_wp2
    go_ret
    exact ⟨rfl, rfl⟩

theorem fillValue_nil {w : World} {bp : Nat} {v : Value} (hv : v = .slice none 0 0) (hc : w.cell? ⟨bp, 10, none⟩ = some v) {Q : Ending → World → Prop} (h : Q (.returned (.tuple #[])) w) : Calls Tryz.prog 61 #[.pointer (some ⟨bp, 0, none⟩)] w Q := by
  subst hv
  have H := Lib.hid h
  clear h
  go_enter Tryz.func61, Tryz.ntmps61
  go_wp2
  go_loop [2] (fun i => i = .int .i64 0) (fun _ => 0)
  case atStart => rfl
  case round =>
    obtain rfl := hrel
    go_wp2
    go_end0
    exact H.out

theorem growValue_nil {w : World} {bp : Nat} {v : Value} (hv : v = .slice none 0 0) (hc : w.cell? ⟨bp, 10, none⟩ = some v) {Q : Ending → World → Prop} (h : Q (.returned (.tuple #[])) w) : Calls Tryz.prog 73 #[.pointer (some ⟨bp, 0, none⟩)] w Q := by
  subst hv
  have H := Lib.hid h
  clear h
  go_enter Tryz.func73, Tryz.ntmps73
  go_wp2
  go_loop [2] (fun i => i = .int .i64 0) (fun _ => 0)
  case atStart => rfl
  case round =>
    obtain rfl := hrel
    go_wp2
    go_end0
    exact H.out

theorem lookValue_nil {w : World} {bp : Nat} {v : Value} (hv : v = .slice none 0 0) (hc : w.cell? ⟨bp, 10, none⟩ = some v) : Calls Tryz.prog 85 #[.pointer (some ⟨bp, 0, none⟩)] w fun e w' => e = .returned (.bool true) ∧ w' = w := by
  subst hv
  go_enter Tryz.func85, Tryz.ntmps85
  go_wp2
  go_loop [3] (fun i => i = .int .i64 0) (fun _ => 0)
  case atStart => rfl
  case round =>
    obtain rfl := hrel
    go_wp2
    go_ret
    exact ⟨rfl, rfl⟩

theorem fillInstr_nil {w : World} {bp : Nat} {v : Value} (hv : v = .slice none 0 0) (hc : w.cell? ⟨bp, 11, none⟩ = some v) {Q : Ending → World → Prop} (h : Q (.returned (.tuple #[])) w) : Calls Tryz.prog 62 #[.pointer (some ⟨bp, 0, none⟩)] w Q := by
  subst hv
  have H := Lib.hid h
  clear h
  go_enter Tryz.func62, Tryz.ntmps62
  go_wp2
  go_loop [2] (fun i => i = .int .i64 0) (fun _ => 0)
  case atStart => rfl
  case round =>
    obtain rfl := hrel
    go_wp2
    go_end0
    exact H.out

theorem growInstr_nil {w : World} {bp : Nat} {v : Value} (hv : v = .slice none 0 0) (hc : w.cell? ⟨bp, 11, none⟩ = some v) {Q : Ending → World → Prop} (h : Q (.returned (.tuple #[])) w) : Calls Tryz.prog 74 #[.pointer (some ⟨bp, 0, none⟩)] w Q := by
  subst hv
  have H := Lib.hid h
  clear h
  go_enter Tryz.func74, Tryz.ntmps74
  go_wp2
  go_loop [2] (fun i => i = .int .i64 0) (fun _ => 0)
  case atStart => rfl
  case round =>
    obtain rfl := hrel
    go_wp2
    go_end0
    exact H.out

theorem lookInstr_nil {w : World} {bp : Nat} {v : Value} (hv : v = .slice none 0 0) (hc : w.cell? ⟨bp, 11, none⟩ = some v) : Calls Tryz.prog 86 #[.pointer (some ⟨bp, 0, none⟩)] w fun e w' => e = .returned (.bool true) ∧ w' = w := by
  subst hv
  go_enter Tryz.func86, Tryz.ntmps86
  go_wp2
  go_loop [3] (fun i => i = .int .i64 0) (fun _ => 0)
  case atStart => rfl
  case round =>
    obtain rfl := hrel
    go_wp2
    go_ret
    exact ⟨rfl, rfl⟩

theorem fillChunk_nil {w : World} {bp : Nat} {v : Value} (hv : v = .slice none 0 0) (hc : w.cell? ⟨bp, 12, none⟩ = some v) {Q : Ending → World → Prop} (h : Q (.returned (.tuple #[])) w) : Calls Tryz.prog 63 #[.pointer (some ⟨bp, 0, none⟩)] w Q := by
  subst hv
  have H := Lib.hid h
  clear h
  go_enter Tryz.func63, Tryz.ntmps63
  go_wp2
  go_loop [2] (fun i => i = .int .i64 0) (fun _ => 0)
  case atStart => rfl
  case round =>
    obtain rfl := hrel
    go_wp2
    go_end0
    exact H.out

theorem growChunk_nil {w : World} {bp : Nat} {v : Value} (hv : v = .slice none 0 0) (hc : w.cell? ⟨bp, 12, none⟩ = some v) {Q : Ending → World → Prop} (h : Q (.returned (.tuple #[])) w) : Calls Tryz.prog 75 #[.pointer (some ⟨bp, 0, none⟩)] w Q := by
  subst hv
  have H := Lib.hid h
  clear h
  go_enter Tryz.func75, Tryz.ntmps75
  go_wp2
  go_loop [2] (fun i => i = .int .i64 0) (fun _ => 0)
  case atStart => rfl
  case round =>
    obtain rfl := hrel
    go_wp2
    go_end0
    exact H.out

theorem lookChunk_nil {w : World} {bp : Nat} {v : Value} (hv : v = .slice none 0 0) (hc : w.cell? ⟨bp, 12, none⟩ = some v) : Calls Tryz.prog 87 #[.pointer (some ⟨bp, 0, none⟩)] w fun e w' => e = .returned (.bool true) ∧ w' = w := by
  subst hv
  go_enter Tryz.func87, Tryz.ntmps87
  go_wp2
  go_loop [3] (fun i => i = .int .i64 0) (fun _ => 0)
  case atStart => rfl
  case round =>
    obtain rfl := hrel
    go_wp2
    go_ret
    exact ⟨rfl, rfl⟩

end Go.Proofs.YtmkhfonafcikdaaGreatDoor
