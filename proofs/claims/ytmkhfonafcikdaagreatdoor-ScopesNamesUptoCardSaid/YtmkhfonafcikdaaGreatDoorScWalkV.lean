/- Scopes: the iterator over all nodes, each ahead of those in it. -/
import Derived.Test.YtmkhfonafcikdaaGreatDoorScNVV
import Derived.Test.YtmkhfonafcikdaaGreatDoorTrC2
import Derived.Test.YtmkhfonafcikdaaGreatDoorTrC1
import Derived.Test.YtmkhfonafcikdaaGreatDoorTrC3
import Derived.IntWalk
namespace Go.Nd
/-- All nodes of a list. -/
def flatL : List Nd → List Nd
  | [] => []
  | x :: r => x :: (x.l.flat ++ (x.body.flat ++ (x.els.flat ++ flatL r)))
theorem flat_items (xs : Ns) : xs.flat = flatL xs.items := by
  induction xs with
  | nil => rfl
  | cons k t l b e r _ _ _ ih => show _ :: (l.flat ++ (b.flat ++ (e.flat ++ r.flat))) = _ :: (l.flat ++ (b.flat ++ (e.flat ++ flatL r.items))); rw [ih]
end Go.Nd
namespace Go.Proofs.YtmkhfonafcikdaaGreatDoor
open Go.RowKit Go.My Go.Nd

/-- What a loop over all nodes keeps: J says how things stand while so many nodes are still to come; Jx, how once the loop has been left. -/
structure ItW (w0 : World) (B : Nat) (tw : Bool) (l yb ab : Nat) (TB : List Nat) (J : List Nd → World → Tags → Prop) (Jx : World → Prop) : Prop where
  stay : ∀ r W g W' g', J r W g → Turn W g W' g' [] → J r W' g'
  below : ∀ r W g, J r W g → Below w0.heap.size w0 W
  cyb : ∀ r W g, J r W g → W.cell? ⟨yb, 0, none⟩ = some (.func (.yield l) #[] #[])
  cab : ∀ r W g, J r W g → W.cell? ⟨ab, 0, none⟩ = some (.func (.func 149) #[] #[.pointer (some ⟨yb, 0, none⟩), .pointer (some ⟨ab, 0, none⟩)])
  yields : ∀ x r W g v, J (x :: r) W g → NV tw W B v x → YieldsTo Tryz.prog l #[v] W fun e W' => (e = .returned (.bool true) ∧ ∃ g', J r W' g' ∧ Turn W g W' g' TB) ∨ (e = .returned (.bool false) ∧ Jx W')
  hB : B ≤ w0.heap.size
  tb : 500 ∉ TB

def WalkSaid (B : Nat) (tw : Bool) (yb ab : Nat) (TB : List Nat) (J : List Nd → World → Tags → Prop) (Jx : World → Prop) (xs : Ns) : Prop :=
  ∀ r W g v, J (xs.flat ++ r) W g → Nodes W (· < B) tw v xs → Calls Tryz.prog 149 #[v, .pointer (some ⟨yb, 0, none⟩), .pointer (some ⟨ab, 0, none⟩)] W fun e W' =>
    (e = .returned (.bool true) ∧ ∃ g', J r W' g' ∧ Turn W g W' g' TB) ∨ (e = .returned (.bool false) ∧ Jx W')

def WkAt (J : List Nd → World → Tags → Prop) (TB : List Nat) (W : World) (g : Tags) (l r : List Nd) (gk : Nat) (v9 : Value) (wr : World) : Prop :=
  ∃ (i : Nat) (gr : Tags), i ≤ l.length ∧ gk = l.length - i ∧ v9 = .int .i64 (i : Int) ∧ J (flatL (l.drop i) ++ r) wr gr ∧ Turn W g wr gr TB

set_option maxRecDepth 100000 in
set_option maxHeartbeats 8000000 in
theorem walk_all {w0 : World} {B : Nat} {tw : Bool} {l yb ab : Nat} {TB : List Nat} {J : List Nd → World → Tags → Prop} {Jx : World → Prop} (I : ItW w0 B tw l yb ab TB J Jx) : ∀ xs, WalkSaid B tw yb ab TB J Jx xs := by
  refine Ns.each fun xs ih r W g v hJ hv => ?_
  obtain ⟨a, c, rfl, hr, hc⟩ := hv.open_
  have HI := Lib.hid ih
  have HC := Lib.hid hc
  have II := Lib.hid I
  have HW := Lib.hid (I.below _ _ _ hJ)
  rw [flat_items] at hJ
  have HJ := Lib.hid hJ
  have l0 : (0 : Int) ≤ (xs.items.length : Int) := by omega
  have l1 : (xs.items.length : Int) ≤ 140737488351232 := by have := hr.2.2.1; omega
  clear ih hv hc hr hJ I
  go_enter Tryz.func149, Tryz.ntmps149
  go_wp2_with fail
  go_loopg [9] xs.items.length (fun gk v9 wr => WkAt J TB W g xs.items r gk v9 wr)
  case atStart => exact ⟨0, g, Nat.zero_le _, rfl, rfl, HJ.out, Turn.refl _ _ _⟩
  case round =>
    obtain ⟨i, gr, hi, rfl, rfl, hJ, hT⟩ := hrel
    have i0 : (0 : Int) ≤ (i : Int) := by omega
    by_cases hlt : i < xs.items.length
    · have i1 : (i : Int) < (xs.items.length : Int) := by omega
      rw [List.drop_eq_getElem_cons hlt] at hJ
      obtain ⟨b, off, v1, v2, v3, rfl, hS, hN⟩ := HC.out i hlt
      have hbw := II.out.below _ _ _ hJ
      have hN' := hN.frame hS fun k hk _ => (hbw.block k (Nat.lt_of_lt_of_le hk II.out.hB)).trans (HW.out.block k (Nat.lt_of_lt_of_le hk II.out.hB)).symm
      have hI := HI.out _ (List.getElem_mem hlt)
      obtain ⟨x, hx⟩ : ∃ x, x = xs.items[i] := ⟨_, rfl⟩
      rw [← hx] at hN' hI hJ
      have hJ : J (x :: (x.l.flat ++ (x.body.flat ++ (x.els.flat ++ (flatL (xs.items.drop (i + 1)) ++ r))))) wr gr := by
        have e : flatL (x :: xs.items.drop (i + 1)) ++ r = x :: (x.l.flat ++ (x.body.flat ++ (x.els.flat ++ (flatL (xs.items.drop (i + 1)) ++ r)))) := by
          show x :: (_ ++ (_ ++ (_ ++ _))) ++ r = _
          simp only [List.cons_append, List.append_assoc]
        rw [e] at hJ
        exact hJ
      have hM1 := hN'.l
      have hM2 := hN'.body
      have hM3 := hN'.els
      have hm1 := hM1
      obtain ⟨a1, c1, rfl, _, _⟩ := hm1
      have hm2 := hM2
      obtain ⟨a2, c2, rfl, _, _⟩ := hm2
      have hm3 := hM3
      obtain ⟨a3, c3, rfl, _, _⟩ := hm3
      have d0 := hN'.d0
      have d1 := hN'.d1
      have d2 := hN'.d2
      have d3 := hN'.d3
      have d4 := hN'.d4
      -- the round's own box
      have T1 := Turn.alloc wr gr 500 (.cells #[.int .u8 (x.kind : Int), .string (tx x.text), .slice a1 x.l.len c1, .slice a2 x.body.len c2, .slice a3 x.els.len c3] 61)
      have hB1 := Blk.alloc wr gr 500 (.cells #[.int .u8 (x.kind : Int), .string (tx x.text), .slice a1 x.l.len c1, .slice a2 x.body.len c2, .slice a3 x.els.len c3] 61 (0, 0))
      have hJ1 := II.out.stay _ _ _ _ _ hJ T1
      have hT1 := hT.trans T1 (V := TB) (fun _ h => h) (by simp)
      have hV := NodeAt.nv hN'
      obtain ⟨bx, hbx⟩ : ∃ bx, bx = wr.heap.size := ⟨_, rfl⟩
      obtain ⟨w1, hw1⟩ : ∃ w1, w1 = wr.alloc (.cells #[.int .u8 (x.kind : Int), .string (tx x.text), .slice a1 x.l.len c1, .slice a2 x.body.len c2, .slice a3 x.els.len c3] 61) := ⟨_, rfl⟩
      obtain ⟨g1, hg1⟩ : ∃ g1, g1 = gr.ext wr.heap.size 500 := ⟨_, rfl⟩
      rw [← hw1, ← hg1] at hJ1 hT1
      rw [← hw1, ← hg1, ← hbx] at hB1
      have hb1 := II.out.below _ _ _ hJ1
      have hV1 : NV tw w1 B (.agg #[.int .u8 (x.kind : Int), .string (tx x.text), .slice a1 x.l.len c1, .slice a2 x.body.len c2, .slice a3 x.els.len c3]) x := hV.below ⟨hb1.os.trans hbw.os.symm, hb1.tape.trans hbw.tape.symm, hb1.output.trans hbw.output.symm, by rw [hw1]; simp, fun k hk => (hb1.block k (Nat.lt_of_lt_of_le hk II.out.hB)).trans (hbw.block k (Nat.lt_of_lt_of_le hk II.out.hB)).symm⟩
      have HND := Lib.hid (fun (W3 : World) (h3 : Below w0.heap.size w0 W3) => (show Nodes W3 (· < B) tw (.slice a1 x.l.len c1) x.l ∧ Nodes W3 (· < B) tw (.slice a2 x.body.len c2) x.body ∧ Nodes W3 (· < B) tw (.slice a3 x.els.len c3) x.els from by
        have fr : ∀ b, b < B → b < wr.heap.size → W3.heap[b]? = wr.heap[b]? := fun b hb _ => (h3.block b (Nat.lt_of_lt_of_le hb II.out.hB)).trans (hbw.block b (Nat.lt_of_lt_of_le hb II.out.hB)).symm
        exact ⟨Nodes.frame hM1 fr, Nodes.frame hM2 fr, Nodes.frame hM3 fr⟩))
      have Y := Lib.hid (II.out.yields x _ w1 g1 _ hJ1 hV1)
      have e0 := II.out.cyb _ _ _ hJ1
      have e1 := II.out.cab _ _ _ hJ1
      obtain ⟨q0, q1, q2, q3, q4, _, _, _, _, _⟩ := row5 hB1.1
      have HX := Lib.hid (And.intro hJ1 (And.intro hT1 (And.intro hB1 (And.intro hlt hI))))
      have k0 : (0 : Int) ≤ (x.kind : Int) := by omega
      clear hx hJ hT hN hN' hI hM1 hM2 hM3 hV hV1 hJ1 hT1 hB1 hb1 hbw T1 hS hi hlt
      go_upto_region 4 with fail
      rw [← hbx, ← hw1]
      clear hbx hw1 hg1
      obtain ⟨fn, tmps, assign, body, hy, hR⟩ := Y.out
      refine (wpIn_wide (n := 5)).1 ?_
      gi_wp2
      refine hR.mono ?_
      rintro e W' (⟨rfl, g2, hJ2, hT2⟩ | ⟨rfl, hJx⟩)
      · have hB2 := HX.out.2.2.1.turn hT2 II.out.tb
        have e1 := II.out.cab _ _ _ hJ2
        obtain ⟨q0, q1, q2, q3, q4, _, _, _, _, _⟩ := row5 hB2.1
        have X2 := Lib.hid (And.intro hJ2 (And.intro (HX.out.2.1.trans hT2 (V := TB) (fun _ h => h) (fun _ h => h)) hB2))
        have hNK := fun (W3 : World) (h3 : Below w0.heap.size w0 W3) => HND.out W3 h3
        have X2n := Lib.hid (hNK W' (II.out.below _ _ _ hJ2))
        clear hJ2 hT2 hB2 hR hy hNK
        gi_wp2
        refine ⟨trivial, callsIn_wide.2 ((HX.out.2.2.2.2.1 _ _ _ _ X2.out.1 (X2n.out.1)).mono ?_)⟩
        rintro e W2 (⟨rfl, g3, hJ3, hT3⟩ | ⟨rfl, hJx⟩)
        · have hB3 := X2.out.2.2.turn hT3 II.out.tb
          have e1 := II.out.cab _ _ _ hJ3
          obtain ⟨q0, q1, q2, q3, q4, _, _, _, _, _⟩ := row5 hB3.1
          have X3 := Lib.hid (And.intro hJ3 (And.intro (X2.out.2.1.trans hT3 (V := TB) (fun _ h => h) (fun _ h => h)) hB3))
          have X3n := Lib.hid (HND.out W2 (II.out.below _ _ _ hJ3))
          clear hJ3 hT3 hB3
          gi_wp2
          refine ⟨trivial, callsIn_wide.2 ((HX.out.2.2.2.2.2.1 _ _ _ _ X3.out.1 (X3n.out.2.1)).mono ?_)⟩
          rintro e W3 (⟨rfl, g4, hJ4, hT4⟩ | ⟨rfl, hJx⟩)
          · have hB4 := X3.out.2.2.turn hT4 II.out.tb
            have e1 := II.out.cab _ _ _ hJ4
            obtain ⟨q0, q1, q2, q3, q4, _, _, _, _, _⟩ := row5 hB4.1
            have X4 := Lib.hid (And.intro hJ4 (And.intro (X3.out.2.1.trans hT4 (V := TB) (fun _ h => h) (fun _ h => h)) hB4))
            have X4n := Lib.hid (HND.out W3 (II.out.below _ _ _ hJ4))
            clear hJ4 hT4 hB4
            gi_wp2
            refine ⟨trivial, callsIn_wide.2 ((HX.out.2.2.2.2.2.2 _ _ _ _ X4.out.1 (X4n.out.2.2)).mono ?_)⟩
            rintro e W4 (⟨rfl, g5, hJ5, hT5⟩ | ⟨rfl, hJx⟩)
            · have X5 := Lib.hid (And.intro hJ5 (X4.out.2.1.trans hT5 (V := TB) (fun _ h => h) (fun _ h => h)))
              clear hJ5 hT5
              gi_wp2
              repeat (refine ⟨by simp, ?_⟩; try gi_wp2)
              go_wp2_with fail
              go_roundg (xs.items.length - (i + 1))
              case measure => have := HX.out.2.2.2.1; omega
              case rel => exact ⟨i + 1, g5, HX.out.2.2.2.1, rfl, by go_num, X5.out.1, X5.out.2⟩
            · have HJX := Lib.hid hJx
              clear hJx
              gi_wp2
              repeat (refine ⟨by simp, ?_⟩; try gi_wp2)
              go_wp2_with fail
              go_ret
              exact .inr ⟨rfl, HJX.out⟩
          · have HJX := Lib.hid hJx
            clear hJx
            gi_wp2
            repeat (refine ⟨by simp, ?_⟩; try gi_wp2)
            go_wp2_with fail
            go_ret
            exact .inr ⟨rfl, HJX.out⟩
        · have HJX := Lib.hid hJx
          clear hJx
          gi_wp2
          repeat (refine ⟨by simp, ?_⟩; try gi_wp2)
          go_wp2_with fail
          go_ret
          exact .inr ⟨rfl, HJX.out⟩
      · have HJX := Lib.hid hJx
        clear hJx hR hy
        gi_wp2
        repeat (refine ⟨by simp, ?_⟩; try gi_wp2)
        go_wp2_with fail
        go_ret
        exact .inr ⟨rfl, HJX.out⟩
    · obtain rfl : i = xs.items.length := by omega
      rw [List.drop_length] at hJ
      have HE := Lib.hid (And.intro hJ hT)
      clear hlt hJ hT hi
      go_wp2_with fail
      go_ret
      exact .inl ⟨rfl, gr, HE.out.1, HE.out.2⟩
end Go.Proofs.YtmkhfonafcikdaaGreatDoor
