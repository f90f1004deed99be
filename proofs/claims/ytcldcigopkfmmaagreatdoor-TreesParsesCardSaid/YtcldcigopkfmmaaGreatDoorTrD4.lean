/- Texts put together: ToAll, ToIt2, ToRead, ToTokM, ToRefName, NdLong3, BkMem, Gk, Gk2, BkNil, PxZero, PxCatch. -/
import Derived.Test.YtcldcigopkfmmaaGreatDoorTrD3
import Derived.Test.YtcldcigopkfmmaaGreatDoorTrD2
import Derived.StillTailTactics
import Derived.BigRegion
import Derived.IntWalk
import Derived.ChangeAlike
import Derived.OwnWalkIn
import Derived.RangeFuncCalls
import Derived.BigRegionIn
import Derived.Shelf.RegionOpen
import Derived.Test.YtcldcigopkfmmaaGreatDoorShelf
import Derived.Lib.AppendIntMem
import Derived.Lib.ItoaLen
import Derived.Test.YtcldcigopkfmmaaGreatDoorRows
import Derived.Defers
import Derived.Recover

/- Tokens: the iterator. -/
namespace Go.To
theorem number_le (l : List UInt8) : number l ≤ l.length := run_le _ _
theorem step_tok {s l0 : List UInt8} {k p : Nat} (A : List T × Option Nat) (hl : l0 = s.drop p) (hne : l0 ≠ []) (h0 : (tok l0).1 ≠ 0) (hsc : scan' p (s.drop p) = (A.1.drop k, A.2)) :
    ∃ hk : k < A.1.length, A.1[k] = ⟨(tok l0).1, l0.take (tok l0).2, p⟩ ∧ scan' (p + (tok l0).2 + sil false (l0.drop (tok l0).2)) (s.drop (p + (tok l0).2 + sil false (l0.drop (tok l0).2))) = (A.1.drop (k + 1), A.2) := by
  rw [← hl, scan'_tok p l0 hne h0] at hsc
  have e1 : ((l0.drop (tok l0).2).drop (sil false (l0.drop (tok l0).2))) = s.drop (p + (tok l0).2 + sil false (l0.drop (tok l0).2)) := by
    generalize sil false (l0.drop (tok l0).2) = q
    rw [hl, List.drop_drop, List.drop_drop]; congr 1; omega
  rw [e1] at hsc
  generalize scan' (p + (tok l0).2 + sil false (l0.drop (tok l0).2)) (s.drop (p + (tok l0).2 + sil false (l0.drop (tok l0).2))) = B at hsc
  simp only [Prod.mk.injEq] at hsc
  have hk : k < A.1.length := by
    have h := congrArg List.length hsc.1
    rw [List.length_drop, List.length_cons] at h
    omega
  have h := List.drop_eq_getElem_cons hk
  rw [← hsc.1] at h
  exact ⟨hk, (List.cons.inj h).1.symm, Prod.ext (List.cons.inj h).2 hsc.2⟩
theorem step_bad {s l0 : List UInt8} {k p : Nat} (A : List T × Option Nat) (hl : l0 = s.drop p) (hne : l0 ≠ []) (h0 : (tok l0).1 = 0) (hk : k ≤ A.1.length) (hsc : scan' p (s.drop p) = (A.1.drop k, A.2)) :
    k = A.1.length ∧ A.2 = some p := by
  rw [← hl, scan'_bad p l0 hne h0] at hsc
  simp only [Prod.mk.injEq] at hsc
  have h := congrArg List.length hsc.1
  rw [List.length_drop, List.length_nil] at h
  exact ⟨by omega, hsc.2.symm⟩
end Go.To
namespace Go.Proofs.YtcldcigopkfmmaaGreatDoor
open Go.RowKit Go.My

/-- A token, as a value; its cells. -/
def tokVal (x : To.T) : Value := .agg #[.int .u8 (x.kind : Int), .string (bs x.text), .int .i64 (x.pos : Int)]

/-- A token's cells. -/
def tokCells (x : To.T) : Array Value := #[.int .u8 (x.kind : Int), .string (bs x.text), .int .i64 (x.pos : Int)]

/-- What stands while a token is looked for. -/
structure TkAt (J : Nat → World → Tags → Prop) (s : List UInt8) (sb tb k : Nat) (x : To.T) (wr : World) (gr : Tags) : Prop where
  j : J k wr gr
  box : Box1 wr gr sb 9 501 #[.string (bs s)]
  tok : Box1 wr gr tb 55 500 (tokCells x)

theorem TkAt.turn0 {J : Nat → World → Tags → Prop} {s : List UInt8} {sb tb k : Nat} {x : To.T} {w w' : World} {g g' : Tags} (h : TkAt J s sb tb k x w g) (hJ : ∀ k W g W' g', J k W g → Turn W g W' g' [500] → J k W' g') (T : Turn w g w' g' []) : TkAt J s sb tb k x w' g' :=
  ⟨hJ _ _ _ _ _ h.j (T.mono (by simp)), h.box.turn T (by simp), h.tok.turn T (by simp)⟩

theorem tk_set {J : Nat → World → Tags → Prop} {s : List UInt8} {sb tb k p : Nat} {w : World} {g : Tags} (h : TkAt J s sb tb k ⟨0, [], p⟩ w g) (hJ : ∀ k W g W' g', J k W g → Turn W g W' g' [500] → J k W' g') (kd : Nat) (text : List UInt8) :
    TkAt J s sb tb k ⟨kd, text, p⟩ ((w.setCell ⟨tb, 0, none⟩ (.int .u8 (kd : Int))).setCell ⟨tb, 1, none⟩ (.string (bs text))).drew g := by
  obtain ⟨T1, B1⟩ := h.tok.store 0 (.int .u8 (kd : Int))
  obtain ⟨T2, B2⟩ := B1.store 1 (.string (bs text))
  have T := (T1.trans T2 (V := [500]) (by simp) (by simp)).trans (Turn.drew _ g) (V := [500]) (by simp) (by simp)
  refine ⟨hJ _ _ _ _ _ h.j T, h.box.turn T (by simp), ?_⟩
  exact B2.turn (Turn.drew _ g) (by simp)

theorem sign_b {w : World} (l : List UInt8) (hl : l.length ≤ 9223372036854775807) {Q : Ending → World → Prop} (h : ∀ w', Below w.heap.size w w' → Q (.returned (.int .i64 (To.sign l : Nat))) w') :
    Calls Tryz.prog 124 #[.string (bs l)] w Q := sign_t l hl (h w (Below.refl _ _))

theorem sl_pn (s l0 : List UInt8) (p n : Nat) (hl : l0 = s.drop p) (hn : p + n ≤ s.length) :
    ∀ wx, (Instr.slice 9 (.string (bs s)) (some (.int .i64 (p : Int))) (some (.int .i64 ((p : Int) + (n : Int)))) none).run Tryz.prog wx = .ok (.string (bs (l0.take n))) wx := by
  intro wx
  have hs := bs_size s
  rw [run_slice_string_if wx 9 (bs s) .i64 .i64 (p : Int) ((p : Int) + (n : Int)) Tryz.underlying9, if_pos ⟨by omega, by omega⟩, if_pos ⟨by omega, by omega⟩]
  have e : ((p : Int) + (n : Int)).toNat = p + n := by omega
  rw [e, Int.toNat_natCast, bs_cut, hl, Nat.add_sub_cancel_left]

/-- Before the j-th kind is tried. -/
def KindAt (J : Nat → World → Tags → Prop) (s : List UInt8) (sb tb k p : Nat) (l : List UInt8) (gk : Nat) (vj : Value) (wr : World) : Prop :=
  ∃ (j : Nat) (gr : Tags), j ≤ 3 ∧ gk = 3 - j ∧ vj = .int .i64 (j : Int) ∧ (1 ≤ j → To.word l = 0) ∧ (2 ≤ j → To.number l = 0) ∧ (3 ≤ j → To.sign l = 0) ∧ TkAt J s sb tb k ⟨0, [], p⟩ wr gr

/-- The token is found, or there is none. -/
def FoundAt (J : Nat → World → Tags → Prop) (s : List UInt8) (sb tb k p : Nat) (l : List UInt8) (wr : World) : Prop :=
  ∃ gr : Tags, TkAt J s sb tb k (if (To.tok l).1 = 0 then ⟨0, [], p⟩ else ⟨(To.tok l).1, l.take (To.tok l).2, p⟩) wr gr

theorem found_at {J : Nat → World → Tags → Prop} {s : List UInt8} {sb tb k p kd n : Nat} {l : List UInt8} {wr : World} {gr : Tags} (ht : To.tok l = (kd + 1 - 1, n)) (h : TkAt J s sb tb k ⟨kd, l.take n, p⟩ wr gr) (hk : kd ≠ 0 := by decide) : FoundAt J s sb tb k p l wr := by
  refine ⟨gr, ?_⟩
  rw [Nat.add_sub_cancel] at ht
  rw [ht, if_neg hk]
  exact h

/-- At the head of a round. -/
def ItAt (J : Nat → World → Tags → Prop) (s : List UInt8) (sb gk : Nat) (vp : Value) (wr : World) : Prop :=
  ∃ (k p : Nat) (gr : Tags), p ≤ s.length ∧ gk = s.length - p ∧ vp = .int .i64 (p : Int) ∧ To.scan' p (s.drop p) = ((To.all s).1.drop k, (To.all s).2) ∧ k ≤ (To.all s).1.length ∧ J k wr gr ∧ Box1 wr gr sb 9 501 #[.string (bs s)]

theorem ycells (x : To.T) : tokVal x = .agg #[.int .u8 (x.kind : Int), .string (bs x.text), .int .i64 (x.pos : Int)] := rfl

set_option maxRecDepth 100000 in
set_option maxHeartbeats 8000000 in
theorem all1_t {w : World} {g : Tags} (s : List UInt8) (hs : s.length ≤ 1000000) {sb : Nat} (hbox : Box1 w g sb 9 501 #[.string (bs s)]) (l : Nat) (J : Nat → World → Tags → Prop) (Jx R : World → Prop) (TB : List Nat) (h5 : 500 ∉ TB ∧ 501 ∉ TB)
    (hJ : ∀ k W g W' g', J k W g → Turn W g W' g' [500] → J k W' g')
    (hY : ∀ k W g (hk : k < (To.all s).1.length), J k W g → YieldsTo Tryz.prog l #[tokVal (To.all s).1[k]] W fun e W' => ∃ g', e = .returned (.bool true) ∧ J (k + 1) W' g' ∧ Turn W g W' g' TB)
    (hX : ∀ p W g, (To.all s).2 = some p → J (To.all s).1.length W g → YieldsTo Tryz.prog l #[tokVal ⟨0, [], p⟩] W fun e W' => e = .returned (.bool false) ∧ Jx W')
    (h0 : J 0 w g) (hend : ∀ W g, (To.all s).2 = none → J (To.all s).1.length W g → R W) (hstop : ∀ p W, (To.all s).2 = some p → Jx W → R W) :
    Calls Tryz.prog 66 #[.func (.yield l) #[] #[], .pointer (some ⟨sb, 0, none⟩)] w fun e w' => (∃ v, e = .returned v) ∧ R w' := by
  have HJ := Lib.hid (And.intro hJ (And.intro hY (And.intro hX (And.intro hend hstop))))
  have H0 := Lib.hid (And.intro h0 hbox)
  have hs1 := bs_size s
  have hs2 : (s.length : Int) ≤ 1000000 := by omega
  have c0 : w.cell? ⟨sb, 0, none⟩ = some (.string (bs s)) := (hbox.cell 0).1
  clear hJ hY hX hend hstop h0 hbox
  go_enter Tryz.func66, Tryz.ntmps66
  go_wp2_with fail
  refine silence_t s (by omega) fun w1 hB => ?_
  have X1 := Lib.hid (show ItAt J s sb (s.length - To.sil false s) (.int .i64 (To.sil false s : Int)) w1 from
    ⟨0, To.sil false s, g.ext w.heap.size 500, To.sil_le s false, rfl, rfl, by rw [← To.all_scan']; rfl, Nat.zero_le _, HJ.out.1 _ _ _ _ _ H0.out.1 ((Turn.of_below hB g 500).mono (by simp)), H0.out.2.turn (Turn.of_below hB g 500) (by simp)⟩)
  clear hB c0
  go_wp2_with fail
  go_loopg [3] (s.length - To.sil false s) (fun gk vp wr => ItAt J s sb gk vp wr)
  case atStart => exact X1.out
  case round =>
    obtain ⟨k, p, gr, hp, rfl, rfl, hsc, hk, hj, hbx⟩ := hrel
    have HX := Lib.hid (And.intro hsc (And.intro hk (And.intro hj hbx)))
    have p0 : (0 : Int) ≤ (p : Int) := by omega
    have c0 : wr.cell? ⟨sb, 0, none⟩ = some (.string (bs s)) := (hbx.cell 0).1
    clear hsc hk hj hbx X1 H0
    by_cases hlt : p < s.length
    · have hpi : (p : Int) < (s.length : Int) := by omega
      obtain ⟨tb, htb⟩ : ∃ tb, tb = wr.heap.size := ⟨_, rfl⟩
      have T0 := Turn.alloc wr gr 500 (.cells #[.int .u8 0, .string ⟨#[]⟩, .int .i64 (p : Int)] 55)
      have K0 := Lib.hid (show TkAt J s sb tb k ⟨0, [], p⟩ (wr.alloc (.cells #[.int .u8 0, .string ⟨#[]⟩, .int .i64 (p : Int)] 55)) (gr.ext wr.heap.size 500) from ⟨HJ.out.1 _ _ _ _ _ HX.out.2.2.1 (T0.mono (by simp)), HX.out.2.2.2.turn T0 (by simp), by rw [htb]; exact Box1.alloc wr gr _ 500 _⟩)
      clear T0
      go_wp2_with fail
      rw [← htb] at K0 ⊢
      clear htb
      refine kinds_t fun w2 hB => ?_
      have K2 := Lib.hid (show TkAt J s sb tb k ⟨0, [], p⟩ w2 _ from ⟨HJ.out.1 _ _ _ _ _ K0.out.j ((Turn.of_below hB _ 500).mono (by simp)), K0.out.box.turn (Turn.of_below hB _ 500) (by simp), K0.out.tok.turn (Turn.of_below hB _ 500) (by simp)⟩)
      clear hB K0 c0
      obtain ⟨l0, hl0⟩ : ∃ l0, l0 = s.drop p := ⟨_, rfl⟩
      have HL := Lib.hid hl0
      have hll : l0.length ≤ 1000000 := by rw [hl0, List.length_drop]; omega
      clear hl0
      go_upto_block 2 with fail
      go_cut [] (fun wx => FoundAt J s sb tb k p l0 wx)
      case first =>
        go_wp2_with fail
        go_loopg [23] 3 (fun gk vj wr => KindAt J s sb tb k p l0 gk vj wr)
        case atStart => exact ⟨0, _, by omega, rfl, rfl, fun h => absurd h (by omega), fun h => absurd h (by omega), fun h => absurd h (by omega), K2.out⟩
        case round =>
          obtain ⟨j, gj, hj, rfl, rfl, hj1, hj2, hj3, hK⟩ := hrel
          have j0 : (0 : Int) ≤ (j : Int) := by omega
          clear K2
          rcases (show j = 0 ∨ j = 1 ∨ j = 2 ∨ j = 3 by omega) with rfl | rfl | rfl | rfl
          · have HZ := Lib.hid (And.intro hj1 hj2)
            clear hj1 hj2 hj3
            have hk0 := fun wx => (kix wx).1
            have hsl := sl_s s .i64 p (z := (p : Int)) rfl hp
            have T0 := Turn.alloc wr gj 500 (.cells #[.int .u8 1, .func (.func 122) #[] #[]] 82)
            obtain ⟨kb, hkb⟩ : ∃ kb, kb = wr.heap.size := ⟨_, rfl⟩
            have K3 := Lib.hid (And.intro (show TkAt J s sb tb k ⟨0, [], p⟩ _ _ from ⟨HJ.out.1 _ _ _ _ _ hK.j (T0.mono (by simp)), hK.box.turn T0 (by simp), hK.tok.turn T0 (by simp)⟩) (show Box1 _ (gj.ext wr.heap.size 500) kb 82 500 #[.int .u8 1, .func (.func 122) #[] #[]] by rw [hkb]; exact Box1.alloc wr gj _ 500 _))
            have htk : tb ≠ kb ∧ kb ≠ tb := by have := hK.tok.lt; omega
            have hst : sb ≠ tb ∧ tb ≠ sb := by have h1 := hK.box.2; have h2 := hK.tok.2; exact ⟨fun e => by rw [e, h2] at h1; omega, fun e => by rw [← e, h2] at h1; omega⟩
            have HNE := Lib.hid (And.intro htk hst)
            clear hK T0 htk hst
            go_wp2_with fail
            rw [← hkb] at K3 ⊢
            clear hkb
            generalize wr.alloc (.cells #[.int .u8 1, .func (.func 122) #[] #[]] 82) = w3 at K3 ⊢
            have c1 : w3.cell? ⟨kb, 1, none⟩ = some (.func (.func 122) #[] #[]) := (K3.out.2.cell 1).1
            have c0 : w3.cell? ⟨sb, 0, none⟩ = some (.string (bs s)) := (K3.out.1.box.cell 0).1
            go_still_tail 5, (by kernel_rfl)
            change wpList _ _ _ _ _ w3.drew
            have D3 := Turn.drew w3 (gj.ext kb 500)
            have K4 := Lib.hid (And.intro (K3.out.1.turn0 HJ.out.1 D3) (K3.out.2.turn D3 (by simp)))
            clear D3 K3 c1 c0 hsl
            generalize w3.drew = w4 at K4 ⊢
            go_wp2_with fail
            rw [← HL.out]
            refine word_t l0 (by omega) fun w5 hB => ?_
            have T5 := Turn.of_below hB (gj.ext kb 500) 500
            have K5 := Lib.hid (And.intro (K4.out.1.turn0 HJ.out.1 T5) (K4.out.2.turn T5 (by simp)))
            clear hB T5 K4
            obtain ⟨n, hn⟩ : ∃ n, n = To.word l0 := ⟨_, rfl⟩
            rw [← hn]
            have HN := Lib.hid hn
            have hnl := To.word_le l0
            rw [← hn] at hnl
            clear hn
            by_cases hpos : 0 < n
            · have hp1 : (0 : Int) < (n : Int) := by omega
              have hp2 : (p : Int) + (n : Int) ≤ 1000000 := by have := congrArg List.length HL.out; rw [List.length_drop] at this; omega
              have c1 : w5.cell? ⟨kb, 0, none⟩ = some (.int .u8 1) := (K5.out.2.cell 0).1
              have c0 : w5.cell? ⟨sb, 0, none⟩ = some (.string (bs s)) := (K5.out.1.box.cell 0).1
              have t0 : w5.cell? ⟨tb, 0, none⟩ = some (.int .u8 0) := (K5.out.1.tok.cell 0).1
              have t1 : w5.cell? ⟨tb, 1, none⟩ = some (.string (bs [])) := (K5.out.1.tok.cell 1).1
              have f0 := (K5.out.1.tok.cell 0).2
              have f1 := (K5.out.1.tok.cell 1).2
              have hsl := sl_pn s l0 p n HL.out (by have := congrArg List.length HL.out; rw [List.length_drop] at this; omega)
              have hwr : IntKind.i64.wrap ((p : Int) + (n : Int)) = (p : Int) + (n : Int) := IntWalk.i64_in _ (by omega)
              obtain ⟨⟨e1, e2⟩, ⟨e3, e4⟩⟩ := HNE.out
              have HP := Lib.hid hpos
              clear hpos
              go_wp2_with fail
              go_region
              all_goals
                go_wp2_with fail
                go_meet
                case rel => exact found_at (kd := 1) (n := n) (by unfold To.tok; rw [← HN.out, if_pos HP.out]) (tk_set K5.out.1 HJ.out.1 1 (l0.take n))
            · have hp1 : (n : Int) = 0 := by omega
              go_wp2_with fail
              go_roundg 2
              case measure => omega
              case rel => exact ⟨1, _, by omega, rfl, rfl, fun _ => by rw [← HN.out]; omega, fun h => absurd h (by omega), fun h => absurd h (by omega), K5.out.1⟩
          · have HZ := Lib.hid (And.intro hj1 hj2)
            clear hj1 hj2 hj3
            have hk0 := fun wx => (kix wx).2.1
            have hsl := sl_s s .i64 p (z := (p : Int)) rfl hp
            have T0 := Turn.alloc wr gj 500 (.cells #[.int .u8 2, .func (.func 123) #[] #[]] 82)
            obtain ⟨kb, hkb⟩ : ∃ kb, kb = wr.heap.size := ⟨_, rfl⟩
            have K3 := Lib.hid (And.intro (show TkAt J s sb tb k ⟨0, [], p⟩ _ _ from ⟨HJ.out.1 _ _ _ _ _ hK.j (T0.mono (by simp)), hK.box.turn T0 (by simp), hK.tok.turn T0 (by simp)⟩) (show Box1 _ (gj.ext wr.heap.size 500) kb 82 500 #[.int .u8 2, .func (.func 123) #[] #[]] by rw [hkb]; exact Box1.alloc wr gj _ 500 _))
            have htk : tb ≠ kb ∧ kb ≠ tb := by have := hK.tok.lt; omega
            have hst : sb ≠ tb ∧ tb ≠ sb := by have h1 := hK.box.2; have h2 := hK.tok.2; exact ⟨fun e => by rw [e, h2] at h1; omega, fun e => by rw [← e, h2] at h1; omega⟩
            have HNE := Lib.hid (And.intro htk hst)
            clear hK T0 htk hst
            go_wp2_with fail
            rw [← hkb] at K3 ⊢
            clear hkb
            generalize wr.alloc (.cells #[.int .u8 2, .func (.func 123) #[] #[]] 82) = w3 at K3 ⊢
            have c1 : w3.cell? ⟨kb, 1, none⟩ = some (.func (.func 123) #[] #[]) := (K3.out.2.cell 1).1
            have c0 : w3.cell? ⟨sb, 0, none⟩ = some (.string (bs s)) := (K3.out.1.box.cell 0).1
            go_still_tail 5, (by kernel_rfl)
            change wpList _ _ _ _ _ w3.drew
            have D3 := Turn.drew w3 (gj.ext kb 500)
            have K4 := Lib.hid (And.intro (K3.out.1.turn0 HJ.out.1 D3) (K3.out.2.turn D3 (by simp)))
            clear D3 K3 c1 c0 hsl
            generalize w3.drew = w4 at K4 ⊢
            go_wp2_with fail
            rw [← HL.out]
            refine number_t l0 (by omega) fun w5 hB => ?_
            have T5 := Turn.of_below hB (gj.ext kb 500) 500
            have K5 := Lib.hid (And.intro (K4.out.1.turn0 HJ.out.1 T5) (K4.out.2.turn T5 (by simp)))
            clear hB T5 K4
            obtain ⟨n, hn⟩ : ∃ n, n = To.number l0 := ⟨_, rfl⟩
            rw [← hn]
            have HN := Lib.hid hn
            have hnl := To.number_le l0
            rw [← hn] at hnl
            clear hn
            by_cases hpos : 0 < n
            · have hp1 : (0 : Int) < (n : Int) := by omega
              have hp2 : (p : Int) + (n : Int) ≤ 1000000 := by have := congrArg List.length HL.out; rw [List.length_drop] at this; omega
              have c1 : w5.cell? ⟨kb, 0, none⟩ = some (.int .u8 2) := (K5.out.2.cell 0).1
              have c0 : w5.cell? ⟨sb, 0, none⟩ = some (.string (bs s)) := (K5.out.1.box.cell 0).1
              have t0 : w5.cell? ⟨tb, 0, none⟩ = some (.int .u8 0) := (K5.out.1.tok.cell 0).1
              have t1 : w5.cell? ⟨tb, 1, none⟩ = some (.string (bs [])) := (K5.out.1.tok.cell 1).1
              have f0 := (K5.out.1.tok.cell 0).2
              have f1 := (K5.out.1.tok.cell 1).2
              have hsl := sl_pn s l0 p n HL.out (by have := congrArg List.length HL.out; rw [List.length_drop] at this; omega)
              have hwr : IntKind.i64.wrap ((p : Int) + (n : Int)) = (p : Int) + (n : Int) := IntWalk.i64_in _ (by omega)
              obtain ⟨⟨e1, e2⟩, ⟨e3, e4⟩⟩ := HNE.out
              have HP := Lib.hid hpos
              clear hpos
              go_wp2_with fail
              go_region
              all_goals
                go_wp2_with fail
                go_meet
                case rel => exact found_at (kd := 2) (n := n) (by unfold To.tok; rw [← HN.out, if_neg (by have := HZ.out.1 (by omega); omega), if_pos HP.out]) (tk_set K5.out.1 HJ.out.1 2 (l0.take n))
            · have hp1 : (n : Int) = 0 := by omega
              go_wp2_with fail
              go_roundg 1
              case measure => omega
              case rel => exact ⟨2, _, by omega, rfl, rfl, fun _ => HZ.out.1 (by omega), fun _ => by rw [← HN.out]; omega, fun h => absurd h (by omega), K5.out.1⟩
          · have HZ := Lib.hid (And.intro hj1 hj2)
            clear hj1 hj2 hj3
            have hk0 := fun wx => (kix wx).2.2
            have hsl := sl_s s .i64 p (z := (p : Int)) rfl hp
            have T0 := Turn.alloc wr gj 500 (.cells #[.int .u8 3, .func (.func 124) #[] #[]] 82)
            obtain ⟨kb, hkb⟩ : ∃ kb, kb = wr.heap.size := ⟨_, rfl⟩
            have K3 := Lib.hid (And.intro (show TkAt J s sb tb k ⟨0, [], p⟩ _ _ from ⟨HJ.out.1 _ _ _ _ _ hK.j (T0.mono (by simp)), hK.box.turn T0 (by simp), hK.tok.turn T0 (by simp)⟩) (show Box1 _ (gj.ext wr.heap.size 500) kb 82 500 #[.int .u8 3, .func (.func 124) #[] #[]] by rw [hkb]; exact Box1.alloc wr gj _ 500 _))
            have htk : tb ≠ kb ∧ kb ≠ tb := by have := hK.tok.lt; omega
            have hst : sb ≠ tb ∧ tb ≠ sb := by have h1 := hK.box.2; have h2 := hK.tok.2; exact ⟨fun e => by rw [e, h2] at h1; omega, fun e => by rw [← e, h2] at h1; omega⟩
            have HNE := Lib.hid (And.intro htk hst)
            clear hK T0 htk hst
            go_wp2_with fail
            rw [← hkb] at K3 ⊢
            clear hkb
            generalize wr.alloc (.cells #[.int .u8 3, .func (.func 124) #[] #[]] 82) = w3 at K3 ⊢
            have c1 : w3.cell? ⟨kb, 1, none⟩ = some (.func (.func 124) #[] #[]) := (K3.out.2.cell 1).1
            have c0 : w3.cell? ⟨sb, 0, none⟩ = some (.string (bs s)) := (K3.out.1.box.cell 0).1
            go_still_tail 5, (by kernel_rfl)
            change wpList _ _ _ _ _ w3.drew
            have D3 := Turn.drew w3 (gj.ext kb 500)
            have K4 := Lib.hid (And.intro (K3.out.1.turn0 HJ.out.1 D3) (K3.out.2.turn D3 (by simp)))
            clear D3 K3 c1 c0 hsl
            generalize w3.drew = w4 at K4 ⊢
            go_wp2_with fail
            rw [← HL.out]
            refine sign_b l0 (by omega) fun w5 hB => ?_
            have T5 := Turn.of_below hB (gj.ext kb 500) 500
            have K5 := Lib.hid (And.intro (K4.out.1.turn0 HJ.out.1 T5) (K4.out.2.turn T5 (by simp)))
            clear hB T5 K4
            obtain ⟨n, hn⟩ : ∃ n, n = To.sign l0 := ⟨_, rfl⟩
            rw [← hn]
            have HN := Lib.hid hn
            have hnl := To.sign_le l0
            rw [← hn] at hnl
            clear hn
            by_cases hpos : 0 < n
            · have hp1 : (0 : Int) < (n : Int) := by omega
              have hp2 : (p : Int) + (n : Int) ≤ 1000000 := by have := congrArg List.length HL.out; rw [List.length_drop] at this; omega
              have c1 : w5.cell? ⟨kb, 0, none⟩ = some (.int .u8 3) := (K5.out.2.cell 0).1
              have c0 : w5.cell? ⟨sb, 0, none⟩ = some (.string (bs s)) := (K5.out.1.box.cell 0).1
              have t0 : w5.cell? ⟨tb, 0, none⟩ = some (.int .u8 0) := (K5.out.1.tok.cell 0).1
              have t1 : w5.cell? ⟨tb, 1, none⟩ = some (.string (bs [])) := (K5.out.1.tok.cell 1).1
              have f0 := (K5.out.1.tok.cell 0).2
              have f1 := (K5.out.1.tok.cell 1).2
              have hsl := sl_pn s l0 p n HL.out (by have := congrArg List.length HL.out; rw [List.length_drop] at this; omega)
              have hwr : IntKind.i64.wrap ((p : Int) + (n : Int)) = (p : Int) + (n : Int) := IntWalk.i64_in _ (by omega)
              obtain ⟨⟨e1, e2⟩, ⟨e3, e4⟩⟩ := HNE.out
              have HP := Lib.hid hpos
              clear hpos
              go_wp2_with fail
              go_region
              all_goals
                go_wp2_with fail
                go_meet
                case rel => exact found_at (kd := 3) (n := n) (by unfold To.tok; rw [← HN.out, if_neg (by have := HZ.out.1 (by omega); omega), if_neg (by have := HZ.out.2 (by omega); omega), if_pos HP.out]) (tk_set K5.out.1 HJ.out.1 3 (l0.take n))
            · have hp1 : (n : Int) = 0 := by omega
              go_wp2_with fail
              go_roundg 0
              case measure => omega
              case rel => exact ⟨3, _, by omega, rfl, rfl, fun _ => HZ.out.1 (by omega), fun _ => HZ.out.2 (by omega), fun _ => by rw [← HN.out]; omega, K5.out.1⟩
          · have hz := Lib.hid (show (To.tok l0).1 = 0 by unfold To.tok; rw [if_neg (by have := hj1 (by omega); omega), if_neg (by have := hj2 (by omega); omega), if_neg (by have := hj3 (by omega); omega)])
            clear hj1 hj2 hj3
            go_wp2_with fail
            go_meet
            case rel => exact ⟨gj, by rw [if_pos hz.out]; exact hK⟩
      case rest =>
        obtain ⟨g3, hT⟩ := hcut
        have HT := Lib.hid hT
        have hne : l0 ≠ [] := by intro e; have := congrArg List.length HL.out; rw [e, List.length_drop, List.length_nil] at this; omega
        have HNE := Lib.hid hne
        clear hT K2 hne
        by_cases hz : (To.tok l0).1 = 0
        · have HT2 := Lib.hid (show TkAt J s sb tb k ⟨0, [], p⟩ _ g3 by have := HT.out; rw [if_pos hz] at this; exact this)
          have hb := To.step_bad (To.all s) HL.out HNE.out hz HX.out.2.1 HX.out.1
          have HB := Lib.hid hb
          have t0 : wc.cell? ⟨tb, 0, none⟩ = some (.int .u8 0) := (HT2.out.tok.cell 0).1
          have t1 : wc.cell? ⟨tb, 1, none⟩ = some (.string (bs [])) := (HT2.out.tok.cell 1).1
          have t2 : wc.cell? ⟨tb, 2, none⟩ = some (.int .i64 (p : Int)) := (HT2.out.tok.cell 2).1
          have hYk := HJ.out.2.2.1 p wc g3 hb.2 (hb.1 ▸ HT2.out.j)
          clear HT hz hb
          go_upto_region 11 with fail
          refine (wpIn_wide (n := 5)).1 ?_
          obtain ⟨fn, tmps, assign, body, hy, hR⟩ := hYk
          have hy : (Instr.yield l #[.agg #[.int .u8 0, .string (bs []), .int .i64 (p : Int)]]).run Tryz.prog wc = .ok (.round l fn tmps assign body) wc := hy
          gi_wp2
          refine hR.mono ?_
          rintro e W' ⟨rfl, hJx⟩
          have hRR := Lib.hid (HJ.out.2.2.2.2 p W' HB.out.2 hJx)
          clear hJx hR hy
          gi_wp2
          go_wp2_with fail
          refine bodyPost_ret (results_none rfl _ _ _) rfl ?_
          exact ⟨⟨_, rfl⟩, hRR.out⟩
        · obtain ⟨kd, hkd⟩ : ∃ kd, kd = (To.tok l0).1 := ⟨_, rfl⟩
          obtain ⟨n, hn⟩ : ∃ n, n = (To.tok l0).2 := ⟨_, rfl⟩
          have HT2 := Lib.hid (show TkAt J s sb tb k ⟨kd, l0.take n, p⟩ _ g3 by have := HT.out; rw [if_neg hz] at this; rw [hkd, hn]; exact this)
          have hst := To.step_tok (To.all s) HL.out HNE.out hz HX.out.1
          have hnl := To.tok_le l0
          have hnp := To.tok_pos l0 hz
          rw [← hn] at hnl hnp
          rw [← hkd, ← hn] at hst
          obtain ⟨m, hm⟩ : ∃ m, m = To.sil false (l0.drop n) := ⟨_, rfl⟩
          have hml := To.sil_le (l0.drop n) false
          rw [← hm] at hml hst
          have hll2 := congrArg List.length HL.out
          rw [List.length_drop] at hml hll2
          have hpn : p + n + m ≤ s.length := by omega
          obtain ⟨hk2, hA, hsc2⟩ := hst
          have HZ := Lib.hid (And.intro hm (And.intro hsc2 (And.intro hk2 (And.intro hpn hnp))))
          have t0 : wc.cell? ⟨tb, 0, none⟩ = some (.int .u8 (kd : Int)) := (HT2.out.tok.cell 0).1
          have t1 : wc.cell? ⟨tb, 1, none⟩ = some (.string (bs (l0.take n))) := (HT2.out.tok.cell 1).1
          have t2 : wc.cell? ⟨tb, 2, none⟩ = some (.int .i64 (p : Int)) := (HT2.out.tok.cell 2).1
          have hYk := HJ.out.2.1 k wc g3 hk2 HT2.out.j
          rw [hA] at hYk
          have hs3 : (bs (l0.take n)).size = n := by rw [bs_size, List.length_take]; omega
          have hpn1 : (p : Int) + (n : Int) ≤ (s.length : Int) := by omega
          have hpn2 : (p : Int) + (n : Int) + (m : Int) ≤ (s.length : Int) := by omega
          have hsl := sl_s s .i64 (p + n) (z := (p : Int) + (n : Int)) (by omega) (by omega)
          have hdd : s.drop (p + n) = l0.drop n := by rw [HL.out, List.drop_drop]
          rw [hdd] at hsl
          clear HT hz hkd hn hm hml hll2 hA hsc2 hk2 hpn hnp hnl hdd
          go_upto_region 11 with fail
          refine (wpIn_wide (n := 5)).1 ?_
          obtain ⟨fn, tmps, assign, body, hy, hR⟩ := hYk
          have hy : (Instr.yield l #[.agg #[.int .u8 (kd : Int), .string (bs (l0.take n)), .int .i64 (p : Int)]]).run Tryz.prog wc = .ok (.round l fn tmps assign body) wc := hy
          gi_wp2
          refine hR.mono ?_
          rintro e W' ⟨g4, rfl, hJ4, hT4⟩
          have hbx := HT2.out.box.turn hT4 h5.2
          have htk := HT2.out.tok.turn hT4 h5.1
          have K5 := Lib.hid (And.intro hJ4 hbx)
          clear hR hy t0 t1 t2 hJ4 hT4
          have t1 : W'.cell? ⟨tb, 1, none⟩ = some (.string (bs (l0.take n))) := (htk.cell 1).1
          have c0 : W'.cell? ⟨sb, 0, none⟩ = some (.string (bs s)) := (hbx.cell 0).1
          clear hbx htk
          gi_wp2
          go_wp2_with fail
          refine silence_t (l0.drop n) (by rw [List.length_drop]; omega) fun w7 hB7 => ?_
          rw [← HZ.out.1]
          have T7 := Turn.of_below hB7 g4 500
          have K7 := Lib.hid (And.intro (HJ.out.1 _ _ _ _ _ K5.out.1 (T7.mono (by simp))) (K5.out.2.turn T7 (by simp)))
          go_wp2_with fail
          go_roundg (s.length - (p + n + m))
          case measure => have := HZ.out.2.2.2; omega
          case rel => exact ⟨k + 1, p + n + m, _, HZ.out.2.2.2.1, rfl, by go_num, HZ.out.2.1, HZ.out.2.2.1, K7.out.1, K7.out.2⟩
    · obtain rfl : p = s.length := by omega
      have hsc := HX.out.1
      rw [List.drop_length, To.scan'_nil] at hsc
      simp only [Prod.mk.injEq] at hsc
      have hkl : k = (To.all s).1.length := by
        have h1 := congrArg List.length hsc.1
        rw [List.length_drop] at h1
        have := HX.out.2.1
        simp at h1; omega
      have hR := Lib.hid (HJ.out.2.2.2.1 wr gr hsc.2.symm (hkl ▸ HX.out.2.2.1))
      clear hsc hkl
      go_wp2_with fail
      go_end0
      exact ⟨⟨_, rfl⟩, hR.out⟩
end Go.Proofs.YtcldcigopkfmmaaGreatDoor

/- A range over a function: its rounds. No program in sight. -/
namespace Go.My
open Go.RowKit

/-- A block of its own. -/
def Blk (w : World) (g : Tags) (b t : Nat) (o : Obj) : Prop := w.heap[b]? = some o ∧ g b = t
theorem Blk.lt {w : World} {g : Tags} {b t : Nat} {o : Obj} (h : Blk w g b t o) : b < w.heap.size := (Array.getElem?_eq_some_iff.1 h.1).1
theorem Blk.turn {w w' : World} {g g' : Tags} {T : List Nat} {b t : Nat} {o : Obj} (h : Blk w g b t o) (k : Turn w g w' g' T) (ht : t ∉ T) : Blk w' g' b t o :=
  ⟨(k.block b h.lt (by rw [h.2]; exact ht)).trans h.1, (k.old b h.lt).trans h.2⟩
theorem Blk.alloc (w : World) (g : Tags) (t : Nat) (o : Obj) : Blk (w.alloc o) (g.ext w.heap.size t) w.heap.size t o :=
  ⟨heap_alloc_new w _, Tags.ext_new _ _ _ _ (Nat.le_refl _)⟩
theorem Turn.putObj (w : World) (g : Tags) (r : Nat) (o : Obj) : Turn w g (w.putObj r o) g [g r] :=
  ⟨rfl, rfl, rfl, by simp, fun _ _ => rfl, fun b _ hn => World.putObj_heap_other (fun e => hn (by rw [e]; exact List.mem_singleton.2 rfl))⟩
theorem Blk.put {w : World} {g : Tags} {b t : Nat} {o : Obj} (h : Blk w g b t o) (o' : Obj) : Turn w g (w.putObj b o') g [t] ∧ Blk (w.putObj b o') g b t o' := by
  refine ⟨?_, World.putObj_heap_same h.lt, h.2⟩
  have := Turn.putObj w g b o'
  rw [h.2] at this; exact this

theorem rec_back {r : Loop} (h1 : r.state = .ready) (h2 : r.pending = none) : ({ ({ r with state := .busy } : Loop) with state := .ready, pending := none } : Loop) = r := by
  cases r; simp_all

/-- How the body of a round may be left. -/
def RoundEnd (l t : Nat) (r : Loop) (R : Ending → World → Prop) : Exit → Act → World → Prop
  | .normal, _, w => ∃ g, Blk w g l t (.loop { r with state := .busy }) ∧ R (.returned (.bool true)) (w.putObj l (.loop r))
  | .ret, _, w => ∃ g, Blk w g l t (.loop { r with state := .busy }) ∧ R (.returned (.bool false)) (w.putObj l (.loop { r with state := .done, pending := some .ret }))
  | _, _, _ => False

theorem yields_of {P : Program} {l : Nat} {r : Loop} {W : World} {g : Tags} {t : Nat} {x : Value} {R : Ending → World → Prop} {p : Tmp} {tmps : Array Value} {assign body : Code}
    (hl : Blk W g l t (.loop r)) (h1 : r.state = .ready) (h2 : r.pending = none) (e1 : r.tmps = tmps) (e2 : r.params = #[p]) (e3 : r.assign = assign) (e4 : r.body = body)
    (h : assign.wpIn (Fence.wide.inRound l) 4 P (Exit.then (fun a₁ w₁ => ∃ g1, Blk w₁ g1 l t (.loop r) ∧ body.wpIn (Fence.wide.inRound l) 4 P (RoundEnd l t r R) a₁ (w₁.putObj l (.loop { r with state := .busy }))) (fun _ _ _ => False)) { tmps := tmps.setIfInBounds p x, defers := [] } W) :
    YieldsTo P l #[x] W R := by
  subst e1 e3 e4
  have hy := run_yield (P := P) (args := #[x]) hl.1 (by rw [e2]; rfl)
  have hz : (r.params.zip #[x]).foldl (fun tmps (t, a) => tmps.setIfInBounds t a) r.tmps = r.tmps.setIfInBounds p x := by rw [e2]; simp
  rw [hz] at hy
  refine ⟨r.fn, _, r.assign, r.body, hy, roundIn_of_wpIn trivial (wpIn_mono h ?_)⟩
  intro e a w hp
  cases e with
  | normal =>
    obtain ⟨g1, hb, hw⟩ := hp
    refine ⟨_, run_beginRound hb.1 h1, wpIn_mono hw ?_⟩
    intro e a w hp
    cases e with
    | normal =>
      obtain ⟨g2, hb2, hR⟩ := hp
      refine ⟨_, _, run_endRound none hb2.1, ?_⟩
      have e := rec_back h1 h2
      simp only [Option.isNone_none, if_true]
      rw [e]; exact hR
    | ret =>
      obtain ⟨g2, hb2, hR⟩ := hp
      exact ⟨_, _, run_endRound (some .ret) hb2.1, hR⟩
    | exit id => exact hp.elim
    | goto t => exact hp.elim
    | panic c => exact hp.elim
    | outgrown => exact hp.elim
  | exit id => exact hp.elim
  | goto t => exact hp.elim
  | ret => exact hp.elim
  | panic c => exact hp.elim
  | outgrown => exact hp.elim

theorem wp_range2 {P : Program} {g : Operand} {ps : Array Tmp} {assign body : Code} {Q : Exit → Act → World → Prop} {a : Act} {w : World} {gf : Nat} {lb : Array Value}
    (hg : a.eval g = .func (.func gf) #[] lb) (eg : ∀ args w, (callFunc gf args).run P w = .ok (.enter gf args) w)
    (h : ∀ r : Loop, r.state = .ready → r.pending = none → r.tmps = a.tmps → r.params = ps → r.assign = assign → r.body = body → Calls P gf (#[.func (.yield (w.heap.size + 1)) #[] #[]] ++ lb)
      ((w.alloc (.deferred (some []))).alloc (.loop r))
      (rangePost Fence.wide 5 P (w.heap.size + 1) Q { a with defers := { target := .collected w.heap.size, args := #[] } :: a.defers })) :
    (Code.rangeFunc g ps assign body).wp P Q a w :=
  wp_range hg eg fun _ => h _ rfl rfl rfl rfl rfl rfl

section
variable {P : Program} {F : Fence} {nF : Nat} (w : World)
/-- APPEND, FOR THE WALK IN A ROUND. -/
theorem wpListIn_append_t {ops : Array Oper} {rest : List Oper} {o : Oper} {a : Act} {Q : Exit → Act → World → Prop} (hgd : o.guard = none) (s x : Operand) {t e : TypeId}
    (ho : o.op = .call { callee := .builtin .append, args := #[s, x], argTypes := #[t, t] }) {size bytes : Nat} {z : Value} (E : Elem P t e size bytes z)
    {v : Value} {n : Nat} {xs : List Value} {g : Tags} {tg : Nat} (hs : a.eval s = v) (hown : Owns w g tg e size v n xs) {y : Value} {m : Nat} {news : List Value} (hy : a.eval x = y) (hx : Src w size y m news) (h1 : ∀ u ∈ news, u.oneCell' = true)
    (h63 : n + m ≤ maxLen) (hbytes : (n + m) * bytes ≤ 140737488355328)
    (h : ∀ ao cap w' g', Owns w' g' tg e size (.slice ao (n + m) cap) (n + m) (xs ++ news) → Turn w g w' g' [tg] → wpListIn F nF P ops Q rest (a.put o.dst (.slice ao (n + m) cap)) w') : wpListIn F nF P ops Q (o :: rest) a w := by
  obtain ⟨k, ho', hk⟩ := hown
  obtain ⟨v', w', k', hr, h2, h3, h4⟩ := run_append (P := P) w E o.type ho' hx h1 h63 hbytes
  refine wpListIn_plain hgd fun K hK => ?_
  unfold Oper.wpIn
  refine ⟨by simp [Oper.about, ho, resolve, Target.leads, Sem.run_pure], ?_⟩
  rw [Oper.semAt_plain F _ _ (by rw [ho]; intro c hc'; cases hc')]
  simp [execOp, ho, resolve, invoke, builtin, hs, hy, hr, Result.andThen]
  refine hK _ _ ?_
  obtain ⟨ao, cap, rfl⟩ := own_form h2
  refine h ao cap w' (g.ext w.heap.size tg) ⟨k', h2, fun b hb => ?_⟩ (Turn.of_step h3 g tg hk)
  rcases h4 with rfl | ⟨j, hj, hge⟩
  · rw [Tags.ext_old _ _ _ _ (ho'.lt b hb)]; exact hk b hb
  · rw [hj] at hb; cases hb; exact Tags.ext_new _ _ _ _ hge
end
end Go.My

/- Tokens: Read. -/
namespace Go.To
theorem scan_len : ∀ (f p : Nat) (l : List UInt8), (scan f p l).1.length ≤ l.length := by
  intro f
  induction f with
  | zero => intro p l; exact Nat.zero_le _
  | succ f ih =>
    intro p l
    rw [scan]
    split
    · exact Nat.zero_le _
    · split
      · exact Nat.zero_le _
      · rename_i h0 h1
        have hp := tok_pos l h1
        have hl : 0 < l.length := by cases l with | nil => exact absurd rfl h0 | cons _ _ => simp
        have := ih (p + (tok l).2 + sil false (l.drop (tok l).2)) ((l.drop (tok l).2).drop (sil false (l.drop (tok l).2)))
        rw [List.length_drop, List.length_drop] at this
        rw [List.length_cons]
        omega
theorem all_len (s : List UInt8) : (all s).1.length ≤ s.length := by
  have := scan_len (s.length + 1) (sil false s) (s.drop (sil false s))
  rw [List.length_drop] at this
  exact Nat.le_trans this (Nat.sub_le _ _)
theorem scan_kind : ∀ (f p : Nat) (l : List UInt8) (x : T), x ∈ (scan f p l).1 → 0 < x.kind ∧ x.kind ≤ 3 := by
  intro f
  induction f with
  | zero => intro p l x h; cases h
  | succ f ih =>
    intro p l x h
    rw [scan] at h
    split at h
    · cases h
    · split at h
      · cases h
      · rename_i h1
        rcases List.mem_cons.1 h with rfl | h
        · exact ⟨Nat.pos_of_ne_zero h1, tok_kind l⟩
        · exact ih _ _ _ h
theorem all_kind (s : List UInt8) (x : T) (h : x ∈ (all s).1) : 0 < x.kind ∧ x.kind ≤ 3 := scan_kind _ _ _ _ h
end Go.To
namespace Go.Proofs.YtcldcigopkfmmaaGreatDoor
open Go.RowKit Go.My
attribute [local go_sem] Oper.semAt_some

theorem fresh_since {w w' : World} {g0 : Tags} (g : Tags) (t : Nat) {τ : Nat} (hτ : τ ≠ 0) {e : TypeId} {size : Nat} {v : Value} {n : Nat} {xs : List Value} (hS : Since w w' g0) (hO : Owns w' g0 τ e size v n xs) :
    Turn w g w' (g.ext w.heap.size t) [] ∧ Owns w' (g.ext w.heap.size t) t e size v n xs := by
  refine ⟨Turn.of_below hS.below g t, ?_⟩
  obtain ⟨k, ho, hk⟩ := hO
  refine ⟨k, ho, fun b hb => Tags.ext_new _ _ _ _ ?_⟩
  rcases Nat.lt_or_ge b w.heap.size with h | h
  · have h1 := hS.zero b h
    rw [hk b hb] at h1
    exact absurd h1 hτ
  · exact h

/-- All tokens' cells. -/
def tokRow (xs : List To.T) : List Value := xs.flatMap fun x => (tokCells x).toList
theorem tokElem : Elem Tryz.prog 22 55 3 32 (.agg #[.int .u8 0, .string ⟨#[]⟩, .int .i64 0]) := Elem.mk' Tryz.underlying22 (by kernel_rfl) rfl (by decide)
theorem tok_one (x : To.T) : ∀ u ∈ (tokCells x).toList, u.oneCell' = true := by
  intro u hu
  simp [tokCells] at hu
  rcases hu with rfl | rfl | rfl <;> rfl
theorem tokRow_step (A : List To.T) (k : Nat) (hk : k < A.length) : tokRow (A.take (k + 1)) = tokRow (A.take k) ++ (tokCells A[k]).toList := by
  unfold tokRow
  rw [List.take_succ_eq_append_getElem hk, List.flatMap_append]
  simp

theorem all_t {w : World} (s : List UInt8) {Q : Ending → World → Prop} (h : Q (.returned (.func (.func 66) #[] #[.pointer (some ⟨w.heap.size, 0, none⟩)])) (w.alloc (.cells #[.string (bs s)] 9))) :
    Calls Tryz.prog 14 #[.string (bs s)] w Q := by
  have H := Lib.hid h
  clear h
  go_enter Tryz.func14, Tryz.ntmps14
  go_wp2_with fail
  exact H.out

theorem run_var {P : Program} (w : World) {ty : TypeId} {d : TypeDesc} (hu : P.underlying ty = some d) (hd : (match d with | .struct _ | .array _ _ => true | _ => false) = false) {a : Addr} {v : Value} (hc : w.cell? a = some v) : (loadVar ty a).run P w = .ok v w := by
  have hagg : (isAgg ty).run P w = .ok false w := by
    unfold isAgg
    rw [Sem.run_bind, run_underlying hu w]
    cases d <;> simp_all
  simp [loadVar, Sem.run_bind, hagg, Result.andThen, hc]

theorem results_cell3 {fn : Func} {p q u : Tmp} {tp tq tu : TypeId} (h : fn.results = #[.cell p tp, .cell q tq, .cell u tu]) (tmps : Array Value) (P : Program) (w : World) {a b c : Addr} {va vb vc : Value}
    (ea : tmps.getD p undef = .pointer (some a)) (eb : tmps.getD q undef = .pointer (some b)) (ec : tmps.getD u undef = .pointer (some c))
    (ra : (loadVar tp a).run P w = .ok va w) (rb : (loadVar tq b).run P w = .ok vb w) (rc : (loadVar tu c).run P w = .ok vc w) : (results fn tmps).run P w = .ok (.tuple #[va, vb, vc]) w := by
  have ea' : tmps[p]?.getD undef = .pointer (some a) := by simpa using ea
  have eb' : tmps[q]?.getD undef = .pointer (some b) := by simpa using eb
  have ec' : tmps[u]?.getD undef = .pointer (some c) := by simpa using ec
  simp [results, h, ea', eb', ec', asAddr, Sem.run_bind, Result.andThen, ra, rb, rc]

/-- What Read gives, out of its three cells. -/
theorem read_out {w : World} {tmps : Array Value} {r0 r1 r2 : Nat} {v : Value} {p e : Int} (e0 : tmps.getD 2 undef = .pointer (some ⟨r0, 0, none⟩)) (e1 : tmps.getD 3 undef = .pointer (some ⟨r1, 0, none⟩)) (e2 : tmps.getD 4 undef = .pointer (some ⟨r2, 0, none⟩))
    (c0 : w.cell? ⟨r0, 0, none⟩ = some v) (c1 : w.cell? ⟨r1, 0, none⟩ = some (.int .i64 p)) (c2 : w.cell? ⟨r2, 0, none⟩ = some (.int .i64 e)) :
    (results Tryz.f5 tmps).run Tryz.prog w = .ok (.tuple #[v, .int .i64 p, .int .i64 e]) w :=
  results_cell3 rfl tmps Tryz.prog w e0 e1 e2 (run_var w Tryz.underlying22 rfl c0) (run_var w Tryz.underlying3 rfl c1) (run_var w Tryz.underlying23 rfl c2)

/-- Between two rounds. -/
structure RdAt (w0 : World) (A : List To.T) (l D r0 r1 r2 : Nat) (r : Loop) (k : Nat) (W : World) (g : Tags) : Prop where
  since : Since w0 W g
  loop : Blk W g l 510 (.loop r)
  mark : Blk W g D 511 (.deferred (some []))
  toks : ∃ v, Box1 W g r0 22 512 #[v] ∧ Owns W g 515 55 3 v k (tokRow (A.take k))
  at_ : Box1 W g r1 3 513 #[.int .i64 0]
  err : Box1 W g r2 23 514 #[.int .i64 0]

theorem RdAt.turn {w0 : World} {A : List To.T} {l D r0 r1 r2 : Nat} {r : Loop} {k : Nat} {W W' : World} {g g' : Tags} (h : RdAt w0 A l D r0 r1 r2 r k W g) {t : Nat} (T : Turn W g W' g' [t]) (ht : t = 500 ∨ t = 516 ∨ t = 517) : RdAt w0 A l D r0 r1 r2 r k W' g' := by
  obtain ⟨v, h1, h2⟩ := h.toks
  exact ⟨h.since.turn T (by simp; omega), h.loop.turn T (by simp; omega), h.mark.turn T (by simp; omega), ⟨v, h1.turn T (by simp; omega), h2.turn T (by simp; omega)⟩, h.at_.turn T (by simp; omega), h.err.turn T (by simp; omega)⟩

theorem RdAt.put {w0 : World} {A : List To.T} {l D r0 r1 r2 : Nat} {r : Loop} {k : Nat} {W : World} {g : Tags} (h : RdAt w0 A l D r0 r1 r2 r k W g) (r' : Loop) :
    Turn W g (W.putObj l (.loop r')) g [510] ∧ RdAt w0 A l D r0 r1 r2 r' k (W.putObj l (.loop r')) g := by
  obtain ⟨T, B⟩ := h.loop.put (.loop r')
  obtain ⟨v, h1, h2⟩ := h.toks
  exact ⟨T, h.since.turn T (by decide), B, h.mark.turn T (by decide), ⟨v, h1.turn T (by decide), h2.turn T (by decide)⟩, h.at_.turn T (by decide), h.err.turn T (by decide)⟩

theorem RdAt.next {w0 : World} {A : List To.T} {l D r0 r1 r2 : Nat} {rb : Loop} {k : Nat} {W : World} {g : Tags} (h : RdAt w0 A l D r0 r1 r2 rb k W g) (hk : k < A.length) (r : Loop) {o : Obj} {w7 : World} {g7 : Tags} {ao : Option Addr} {cap : Nat}
    (hO : Owns w7 g7 515 55 3 (.slice ao (k + 1) cap) (k + 1) (tokRow (A.take k) ++ (tokCells A[k]).toList)) (hT : Turn (W.alloc o) (g.ext W.heap.size 517) w7 g7 [515]) :
    Blk (w7.setCell ⟨r0, 0, none⟩ (.slice ao (k + 1) cap)) g7 l 510 (.loop rb) ∧ RdAt w0 A l D r0 r1 r2 r (k + 1) ((w7.setCell ⟨r0, 0, none⟩ (.slice ao (k + 1) cap)).putObj l (.loop r)) g7 ∧
      Turn W g ((w7.setCell ⟨r0, 0, none⟩ (.slice ao (k + 1) cap)).putObj l (.loop r)) g7 [510, 512, 515] := by
  have T0 := Turn.alloc W g 517 o
  have T1 := T0.trans hT (V := [515]) (by simp) (by simp)
  obtain ⟨v, h1, h2⟩ := h.toks
  have b0 := h1.turn T1 (by decide)
  obtain ⟨T2, b0'⟩ := b0.store 0 (.slice ao (k + 1) cap)
  have T3 := T1.trans T2 (V := [512, 515]) (by simp) (by simp)
  have hl := h.loop.turn T3 (by decide)
  obtain ⟨T4, hl'⟩ := hl.put (.loop r)
  have T5 := T3.trans T4 (V := [510, 512, 515]) (by simp) (by simp)
  refine ⟨hl, ⟨h.since.turn T5 (by decide), hl', h.mark.turn T5 (by decide), ⟨_, b0'.turn T4 (by decide), ?_⟩, h.at_.turn T5 (by decide), h.err.turn T5 (by decide)⟩, T5⟩
  rw [tokRow_step A k hk]
  exact (hO.turn T2 (by decide)).turn T4 (by decide)

/-- Behind the bad token's round. -/
structure BadAt (w0 : World) (l D r0 r1 r2 : Nat) (r : Loop) (p : Nat) (W : World) (g : Tags) : Prop where
  since : Since w0 W g
  loop : Blk W g l 510 (.loop r)
  mark : Blk W g D 511 (.deferred (some []))
  toks : Box1 W g r0 22 512 #[.slice none 0 0]
  at_ : Box1 W g r1 3 513 #[.int .i64 (p : Int)]
  err : Box1 W g r2 23 514 #[.int .i64 4]

theorem RdAt.bad {w0 : World} {A : List To.T} {l D r0 r1 r2 : Nat} {rb : Loop} {k : Nat} {W : World} {g : Tags} (h : RdAt w0 A l D r0 r1 r2 rb k W g) (p : Nat) :
    ∃ T, 510 ∉ T ∧ 511 ∉ T ∧ 0 ∉ T ∧ Turn W g (((W.setCell ⟨r0, 0, none⟩ (.slice none 0 0)).setCell ⟨r1, 0, none⟩ (.int .i64 (p : Int))).setCell ⟨r2, 0, none⟩ (.int .i64 4)).drew g T ∧
      BadAt w0 l D r0 r1 r2 rb p (((W.setCell ⟨r0, 0, none⟩ (.slice none 0 0)).setCell ⟨r1, 0, none⟩ (.int .i64 (p : Int))).setCell ⟨r2, 0, none⟩ (.int .i64 4)).drew g := by
  obtain ⟨v, h1, h2⟩ := h.toks
  obtain ⟨T1, b0⟩ := h1.store 0 (.slice none 0 0)
  obtain ⟨T2, b1⟩ := (h.at_.turn T1 (by decide)).store 0 (.int .i64 (p : Int))
  have b2 := (h.err.turn T1 (by decide)).turn T2 (by decide)
  obtain ⟨T3, b2⟩ := b2.store 0 (.int .i64 4)
  have T4 := Turn.drew (((W.setCell ⟨r0, 0, none⟩ (.slice none 0 0)).setCell ⟨r1, 0, none⟩ (.int .i64 (p : Int))).setCell ⟨r2, 0, none⟩ (.int .i64 4)) g
  have T := ((T1.trans T2 (V := [512, 513]) (by simp) (by simp)).trans T3 (V := [512, 513, 514]) (by simp) (by simp)).trans T4 (V := [512, 513, 514]) (by simp) (by simp)
  exact ⟨[512, 513, 514], by decide, by decide, by decide, T, h.since.turn T (by decide), h.loop.turn T (by decide), h.mark.turn T (by decide), ((b0.turn T2 (by decide)).turn T3 (by decide)).turn T4 (by decide), (b1.turn T3 (by decide)).turn T4 (by decide), b2.turn T4 (by decide)⟩

theorem BadAt.put {w0 : World} {l D r0 r1 r2 : Nat} {r : Loop} {p : Nat} {W : World} {g : Tags} (h : BadAt w0 l D r0 r1 r2 r p W g) (r' : Loop) : BadAt w0 l D r0 r1 r2 r' p (W.putObj l (.loop r')) g := by
  obtain ⟨T, B⟩ := h.loop.put (.loop r')
  exact ⟨h.since.turn T (by decide), B, h.mark.turn T (by decide), h.toks.turn T (by decide), h.at_.turn T (by decide), h.err.turn T (by decide)⟩

theorem start_t {w0 W : World} {g : Tags} {r0 r1 r2 sb : Nat} {s : Value} (hS : Since w0 W g) (b0 : Box1 W g r0 22 512 #[.slice none 0 0]) (b1 : Box1 W g r1 3 513 #[.int .i64 0]) (b2 : Box1 W g r2 23 514 #[.int .i64 0])
    (bx : Box1 W g sb 9 501 #[s]) (A : List To.T) (r : Loop) : ∃ g', RdAt w0 A (W.heap.size + 1) W.heap.size r0 r1 r2 r 0 ((W.alloc (.deferred (some []))).alloc (.loop r)) g' ∧ Box1 ((W.alloc (.deferred (some []))).alloc (.loop r)) g' sb 9 501 #[s] := by
  have T0 := Turn.alloc W g 511 (.deferred (some []))
  have d0 := Blk.alloc W g 511 (.deferred (some []))
  generalize g.ext W.heap.size 511 = g0 at T0 d0
  have z0 : (W.alloc (.deferred (some []))).heap.size = W.heap.size + 1 := World.size_alloc _ _
  generalize W.alloc (.deferred (some [])) = W0 at *
  have T1 := Turn.alloc W0 g0 510 (.loop r)
  have l0 := Blk.alloc W0 g0 510 (.loop r)
  rw [z0] at T1 l0
  have T := T0.trans T1 (V := []) (by simp) (by simp)
  exact ⟨_, ⟨hS.turn T (by simp), l0, d0.turn T1 (by simp), ⟨_, b0.turn T (by simp), Owns.nil _ _ _ _ _⟩, b1.turn T (by simp), b2.turn T (by simp)⟩, bx.turn T (by simp)⟩

theorem RdAt.done {w0 : World} {A : List To.T} {l D r0 r1 r2 : Nat} {r : Loop} {k : Nat} {W : World} {g : Tags} (h : RdAt w0 A l D r0 r1 r2 r k W g) {v : Value} (hb : Box1 W g r0 22 512 #[v]) (ho : Owns W g 515 55 3 v k (tokRow (A.take k))) {W' : World}
    (hW : W' = ((W.setCell ⟨r0, 0, none⟩ v).setCell ⟨r1, 0, none⟩ (.int .i64 0)).setCell ⟨r2, 0, none⟩ (.int .i64 0)) :
    W'.heap[D]? = some (.deferred (some [])) ∧ Since w0 (W'.putObj D (.deferred none)) g ∧ Box1 (W'.putObj D (.deferred none)) g r0 22 512 #[v] ∧ Owns (W'.putObj D (.deferred none)) g 515 55 3 v k (tokRow (A.take k)) ∧
      Box1 (W'.putObj D (.deferred none)) g r1 3 513 #[.int .i64 0] ∧ Box1 (W'.putObj D (.deferred none)) g r2 23 514 #[.int .i64 0] := by
  obtain ⟨T1, b0⟩ := hb.store 0 v
  obtain ⟨T2, b1⟩ := (h.at_.turn T1 (by decide)).store 0 (.int .i64 0)
  have b2 := (h.err.turn T1 (by decide)).turn T2 (by decide)
  obtain ⟨T3, b2⟩ := b2.store 0 (.int .i64 0)
  rw [← hW] at T3 b2
  have T := (T1.trans T2 (V := [512, 513]) (by simp) (by simp)).trans T3 (V := [512, 513, 514]) (by simp) (by simp)
  have hD := h.mark.turn T (by decide)
  obtain ⟨T4, _⟩ := hD.put (.deferred none)
  exact ⟨hD.1, (h.since.turn T (by decide)).turn T4 (by decide), ((b0.turn T2 (by decide)).turn T3 (by decide)).turn T4 (by decide), (ho.turn T (by decide)).turn T4 (by decide), (b1.turn T3 (by decide)).turn T4 (by decide), b2.turn T4 (by decide)⟩

theorem three (w : World) (v : Value) (p e : Int) : ∃ g', Since w (((w.alloc (.cells #[v] 22)).alloc (.cells #[.int .i64 p] 3)).alloc (.cells #[.int .i64 e] 23)) g' ∧
    Box1 (((w.alloc (.cells #[v] 22)).alloc (.cells #[.int .i64 p] 3)).alloc (.cells #[.int .i64 e] 23)) g' w.heap.size 22 512 #[v] ∧
    Box1 (((w.alloc (.cells #[v] 22)).alloc (.cells #[.int .i64 p] 3)).alloc (.cells #[.int .i64 e] 23)) g' (w.heap.size + 1) 3 513 #[.int .i64 p] ∧
    Box1 (((w.alloc (.cells #[v] 22)).alloc (.cells #[.int .i64 p] 3)).alloc (.cells #[.int .i64 e] 23)) g' (w.heap.size + 1 + 1) 23 514 #[.int .i64 e] := by
  have T0 := Turn.alloc w (fun _ => 0) 512 (.cells #[v] 22)
  have b0 := Box1.alloc w (fun _ => 0) 22 512 #[v]
  have S0 := (Since.start w).turn T0 (by simp)
  generalize Tags.ext (fun _ => 0) w.heap.size 512 = g0 at T0 b0 S0
  have z0 : (w.alloc (.cells #[v] 22)).heap.size = w.heap.size + 1 := World.size_alloc _ _
  generalize w.alloc (.cells #[v] 22) = W0 at *
  have T1 := Turn.alloc W0 g0 513 (.cells #[.int .i64 p] 3)
  have b1 := Box1.alloc W0 g0 3 513 #[.int .i64 p]
  have b0' := b0.turn T1 (by simp)
  have S1 := S0.turn T1 (by simp)
  rw [z0] at b1
  have z1 : (W0.alloc (.cells #[.int .i64 p] 3)).heap.size = w.heap.size + 1 + 1 := by rw [World.size_alloc, z0]
  rw [z0] at T1 b0' S1
  generalize g0.ext (w.heap.size + 1) 513 = g1 at *
  generalize W0.alloc (.cells #[.int .i64 p] 3) = W1 at *
  have T2 := Turn.alloc W1 g1 514 (.cells #[.int .i64 e] 23)
  have b2 := Box1.alloc W1 g1 23 514 #[.int .i64 e]
  have b0'' := b0'.turn T2 (by simp)
  have b1' := b1.turn T2 (by simp)
  have S2 := S1.turn T2 (by simp)
  rw [z1] at b2 b0'' b1' S2
  exact ⟨_, S2, b0'', b1', b2⟩

set_option maxRecDepth 100000 in
set_option maxHeartbeats 8000000 in
theorem read_t {w : World} (g : Tags) (t : Nat) (s : List UInt8) {Q : Ending → World → Prop}
    (h : ∀ v w' g', Turn w g w' g' [] → Owns w' g' t 55 3 v (To.read s).1.length (tokRow (To.read s).1) → Q (.returned (.tuple #[v, .int .i64 ((To.read s).2.1 : Int), .int .i64 ((To.read s).2.2 : Int)])) w') :
    Calls Tryz.prog 5 #[.string (bs s)] w Q := by
  have H := Lib.hid h
  have hs1 := bs_size s
  clear h
  refine (callsIn_wide (n := 5)).1 (callsIn_of_wp_marks Tryz.func5 rfl trivial ?_ rfl)
  simp only [Tryz.ntmps5, List.size_toArray, List.length_cons, List.length_nil, Nat.reduceAdd, Nat.reduceSub, Array.replicate_succ, Array.replicate_zero, List.push_toArray, List.append_toArray, List.nil_append, List.cons_append]
  refine wpIn_wide.2 ?_
  by_cases hlong : 65536 < s.length
  · have hl1 : (65536 : Int) < (s.length : Int) := by omega
    go_wp2_with fail
    obtain ⟨g3, hS, b0, b1, b2⟩ := three w (.slice none 0 0) 0 3
    have hr : To.read s = ([], 0, 3) := by unfold To.read; rw [if_pos hlong]
    generalize ((w.alloc (.cells #[.slice none 0 0] 22)).alloc (.cells #[.int .i64 0] 3)).alloc (.cells #[.int .i64 3] 23) = Z at *
    have h1 := H.out (.slice none 0 0) Z (g.ext w.heap.size 0) (Turn.of_below hS.below g 0)
    rw [hr] at h1
    have h2 : Q (.returned (.tuple #[.slice none 0 0, .int .i64 0, .int .i64 3])) Z := h1 (Owns.nil _ _ _ _ _)
    exact ⟨_, read_out rfl rfl rfl (b0.cell 0).1 (b1.cell 0).1 (b2.cell 0).1, h2⟩
  · have hl1 : (s.length : Int) ≤ 65536 := by omega
    have hs : s.length ≤ 1000000 := by omega
    go_wp2_with fail
    refine all_t s ?_
    go_wp2_with fail
    obtain ⟨g3, hS, b0, b1, b2⟩ := three w (.slice none 0 0) 0 0
    have hz : (((w.alloc (.cells #[.slice none 0 0] 22)).alloc (.cells #[.int .i64 0] 3)).alloc (.cells #[.int .i64 0] 23)).heap.size = w.heap.size + 1 + 1 + 1 := by simp
    generalize ((w.alloc (.cells #[.slice none 0 0] 22)).alloc (.cells #[.int .i64 0] 3)).alloc (.cells #[.int .i64 0] 23) = Z at *
    have T3 := Turn.alloc Z g3 501 (.cells #[.string (bs s)] 9)
    have bx := Box1.alloc Z g3 9 501 #[.string (bs s)]
    rw [hz] at T3 bx
    replace hS := hS.turn T3 (by decide)
    replace b0 := b0.turn T3 (by decide)
    replace b1 := b1.turn T3 (by decide)
    replace b2 := b2.turn T3 (by decide)
    clear T3 hz
    generalize g3.ext (w.heap.size + 1 + 1 + 1) 501 = g4 at *
    generalize Z.alloc (.cells #[.string (bs s)] 9) = W3 at *
    generalize w.heap.size = r0 at *
    refine wp_range2 rfl (enters_of Tryz.func66 (by kernel_rfl) rfl) fun r e1 e2 e3 e4 e5 e6 => ?_
    obtain ⟨g5, h0, hbx⟩ := start_t hS b0 b1 b2 bx (To.all s).1 r
    simp only [List.append_toArray, List.cons_append, List.nil_append]
    have HE := Lib.hid (And.intro e1 (And.intro e2 (And.intro e3 (And.intro e4 (And.intro e5 e6)))))
    clear hS b0 b1 b2 bx e1 e2 e3 e4 e5 e6
    generalize W3.heap.size = D at *
    generalize (W3.alloc (.deferred (some []))).alloc (.loop r) = W5 at *
    refine Calls.mono (all1_t s hs hbx (D + 1) (fun k W g => RdAt w (To.all s).1 (D + 1) D r0 (r0 + 1) (r0 + 1 + 1) r k W g) (fun W => ∃ p g, (To.all s).2 = some p ∧ BadAt w (D + 1) D r0 (r0 + 1) (r0 + 1 + 1) { r with state := .done, pending := some .ret } p W g)
      (fun W => ((To.all s).2 = none ∧ ∃ g, RdAt w (To.all s).1 (D + 1) D r0 (r0 + 1) (r0 + 1 + 1) r (To.all s).1.length W g) ∨ ∃ p g, (To.all s).2 = some p ∧ BadAt w (D + 1) D r0 (r0 + 1) (r0 + 1 + 1) { r with state := .done, pending := some .ret } p W g)
      [510, 512, 515] (by decide) (fun k W g W' g' h T => h.turn T (.inl rfl)) ?hY ?hX h0 (fun W g h1 h2 => .inl ⟨h1, g, h2⟩) (fun p W _ h => .inr h)) ?_
    case hY =>
      intro k W g6 hk hR
      have hm := To.all_kind s _ (List.getElem_mem hk)
      have hkl := To.all_len s
      generalize (To.all s).1 = A at *
      obtain ⟨kd, text, pos, hx⟩ : ∃ kd text pos, A[k] = ⟨kd, text, pos⟩ := ⟨_, _, _, rfl⟩
      rw [hx] at hm ⊢
      have hkd : (0 : Int) < (kd : Int) := by have := hm.1; simp at this; omega
      have hk5 : k + 1 ≤ 65536 := by omega
      refine yields_of hR.loop HE.out.1 HE.out.2.1 HE.out.2.2.1 HE.out.2.2.2.1 HE.out.2.2.2.2.1 HE.out.2.2.2.2.2 ?_
      simp only [tokVal]
      have T1 := Turn.alloc W g6 516 (.cells #[.int .u8 (kd : Int), .string (bs text), .int .i64 (pos : Int)] 55)
      have bt := Box1.alloc W g6 55 516 #[.int .u8 (kd : Int), .string (bs text), .int .i64 (pos : Int)]
      have hR1 := hR.turn (T1.mono (V := [516]) (by simp)) (.inr (.inl rfl))
      obtain ⟨tb, htb⟩ : ∃ tb, tb = W.heap.size := ⟨_, rfl⟩
      have HX := Lib.hid (And.intro T1 (And.intro bt hR1))
      clear T1 bt hR hR1 hm hl1 hlong
      gi_wp2
      refine ⟨⟨_, HX.out.2.2.loop⟩, ?_⟩
      obtain ⟨T2, hR2⟩ := HX.out.2.2.put { state := .busy, pending := r.pending, fn := r.fn, tmps := r.tmps, params := r.params, assign := r.assign, body := r.body, defers := r.defers }
      have bt2 := HX.out.2.1.turn T2 (by decide)
      have T3 := HX.out.1.trans T2 (V := [510]) (by simp) (by simp)
      rw [← htb] at bt2 ⊢
      have htl := bt2.lt
      clear T2 htb
      generalize (W.alloc (.cells #[.int .u8 (kd : Int), .string (bs text), .int .i64 (pos : Int)] 55)).putObj (D + 1) (.loop { state := .busy, pending := r.pending, fn := r.fn, tmps := r.tmps, params := r.params, assign := r.assign, body := r.body, defers := r.defers }) = W2 at *
      generalize g6.ext W.heap.size 516 = g7 at *
      clear HX
      obtain ⟨v, hb, ho⟩ := hR2.toks
      obtain ⟨ao, cap, rfl⟩ := ho.form
      have c0 : W2.cell? ⟨tb, 0, none⟩ = some (.int .u8 (kd : Int)) := (bt2.cell 0).1
      have c1 : W2.cell? ⟨tb, 1, none⟩ = some (.string (bs text)) := (bt2.cell 1).1
      have c2 : W2.cell? ⟨tb, 2, none⟩ = some (.int .i64 (pos : Int)) := (bt2.cell 2).1
      have c3 : W2.cell? ⟨r0, 0, none⟩ = some (.slice ao k cap) := (hb.cell 0).1
      have HB := Lib.hid (And.intro hb (And.intro ho (And.intro hR2 T3)))
      clear hb ho hR2 T3 bt2
      gi_wp2_with (gi_at_builtin; refine wpListIn_append_t _ rfl (.tmp 17) (.tmp 19) rfl tokElem (g := g7.ext W2.heap.size 517) (tg := 515) rfl (HB.out.2.1.turn (Turn.alloc W2 g7 517 _) (by decide)) rfl (Src.lit (n := 1) _ _ rfl rfl) (tok_one ⟨kd, text, pos⟩) (by unfold maxLen; omega) (by omega) ?_; intro ao7 cap7 w7 g8 O7 T7; have K7 := Lib.hid (And.intro O7 T7); have b7 := (HB.out.1.turn (Turn.alloc W2 g7 517 _) (by decide)).turn T7 (by decide); have d7 : w7.cell? ⟨r0, 0, none⟩ = some (.slice ao k cap) := (b7.cell 0).1; have e7 := (b7.cell 0).2; clear b7 O7 T7)
      obtain ⟨n1, n2, n3⟩ := HB.out.2.2.1.next hk r (by rw [hx]; exact K7.out.1) K7.out.2
      exact ⟨g8, n1, rfl, g8, n2, HB.out.2.2.2.trans n3 (by simp) (by simp)⟩
    case hX =>
      intro p W g6 hp hR
      have HP := Lib.hid hp
      generalize (To.all s).1 = A at *
      refine yields_of hR.loop HE.out.1 HE.out.2.1 HE.out.2.2.1 HE.out.2.2.2.1 HE.out.2.2.2.2.1 HE.out.2.2.2.2.2 ?_
      have hv : tokVal ⟨0, [], p⟩ = .agg #[.int .u8 0, .string (bs []), .int .i64 (p : Int)] := rfl
      rw [hv]
      have T1 := Turn.alloc W g6 516 (.cells #[.int .u8 0, .string (bs []), .int .i64 (p : Int)] 55)
      have bt := Box1.alloc W g6 55 516 #[.int .u8 0, .string (bs []), .int .i64 (p : Int)]
      have hR1 := hR.turn (T1.mono (V := [516]) (by simp)) (.inr (.inl rfl))
      obtain ⟨tb, htb⟩ : ∃ tb, tb = W.heap.size := ⟨_, rfl⟩
      have HX := Lib.hid (And.intro T1 (And.intro bt hR1))
      clear T1 bt hR hR1 hl1 hlong hv hp
      gi_wp2
      refine ⟨⟨_, HX.out.2.2.loop⟩, ?_⟩
      obtain ⟨T2, hR2⟩ := HX.out.2.2.put { state := .busy, pending := r.pending, fn := r.fn, tmps := r.tmps, params := r.params, assign := r.assign, body := r.body, defers := r.defers }
      have bt2 := HX.out.2.1.turn T2 (by decide)
      rw [← htb] at bt2 hR2 ⊢
      clear T2 htb
      generalize (W.alloc (.cells #[.int .u8 0, .string (bs []), .int .i64 (p : Int)] 55)).putObj (D + 1) (.loop { state := .busy, pending := r.pending, fn := r.fn, tmps := r.tmps, params := r.params, assign := r.assign, body := r.body, defers := r.defers }) = W2 at *
      generalize g6.ext tb 516 = g7 at *
      clear HX
      obtain ⟨v, hb, ho⟩ := hR2.toks
      obtain ⟨ao, cap, rfl⟩ := ho.form
      have c0 : W2.cell? ⟨tb, 0, none⟩ = some (.int .u8 0) := (bt2.cell 0).1
      have c1 : W2.cell? ⟨tb, 2, none⟩ = some (.int .i64 (p : Int)) := (bt2.cell 2).1
      have c3 : W2.cell? ⟨r0, 0, none⟩ = some (.slice ao A.length cap) := (hb.cell 0).1
      have c4 : W2.cell? ⟨r0 + 1, 0, none⟩ = some (.int .i64 0) := (hR2.at_.cell 0).1
      have c5 : W2.cell? ⟨r0 + 1 + 1, 0, none⟩ = some (.int .i64 0) := (hR2.err.cell 0).1
      have f3 := (hb.cell 0).2
      have f4 := (hR2.at_.cell 0).2
      have f5 := (hR2.err.cell 0).2
      have n1 : r0 ≠ r0 + 1 ∧ r0 + 1 ≠ r0 := by omega
      have n2 : r0 ≠ r0 + 1 + 1 ∧ r0 + 1 + 1 ≠ r0 := by omega
      have n3 : r0 + 1 ≠ r0 + 1 + 1 ∧ r0 + 1 + 1 ≠ r0 + 1 := by omega
      have n4 : tb ≠ r0 ∧ r0 ≠ tb := by have h1 := hb.2; have h2 := bt2.2; exact ⟨fun e => by rw [e, h1] at h2; omega, fun e => by rw [← e, h1] at h2; omega⟩
      have n5 : tb ≠ r0 + 1 ∧ r0 + 1 ≠ tb := by have h1 := hR2.at_.2; have h2 := bt2.2; exact ⟨fun e => by rw [e, h1] at h2; omega, fun e => by rw [← e, h1] at h2; omega⟩
      have n6 : tb ≠ r0 + 1 + 1 ∧ r0 + 1 + 1 ≠ tb := by have h1 := hR2.err.2; have h2 := bt2.2; exact ⟨fun e => by rw [e, h1] at h2; omega, fun e => by rw [← e, h1] at h2; omega⟩
      have HB := Lib.hid hR2
      clear hb ho hR2 bt2
      obtain ⟨n1, n1'⟩ := n1
      obtain ⟨n2, n2'⟩ := n2
      obtain ⟨n3, n3'⟩ := n3
      obtain ⟨n4, n4'⟩ := n4
      obtain ⟨n5, n5'⟩ := n5
      obtain ⟨n6, n6'⟩ := n6
      gi_wp2
      gi_region
      all_goals
        gi_wp2
        obtain ⟨T, q1, q2, q3, q4, q5⟩ := HB.out.bad p
        have q6 := q5.put { r with state := .done, pending := some .ret }
        exact ⟨g7, q5.loop, rfl, p, HP.out, g7, q6⟩
    rintro e W6 ⟨⟨v, rfl⟩, (⟨hn, g6, hR⟩ | ⟨p, g6, hp, hR⟩)⟩
    · have hend := run_endLoop (P := Tryz.prog) hR.loop.1 (by rw [HE.out.1]; simp)
      rw [HE.out.2.1] at hend
      refine ⟨none, _, hend, ?_⟩
      obtain ⟨T, hR2⟩ := hR.put { state := .exhausted, pending := none, fn := r.fn, tmps := r.tmps, params := r.params, assign := r.assign, body := r.body, defers := r.defers }
      clear hend hR T h0 hbx
      generalize W6.putObj (D + 1) (.loop { state := .exhausted, pending := none, fn := r.fn, tmps := r.tmps, params := r.params, assign := r.assign, body := r.body, defers := r.defers }) = W7 at *
      obtain ⟨v, hb, ho⟩ := hR2.toks
      obtain ⟨ao, cap, rfl⟩ := ho.form
      have HR := Lib.hid (And.intro hR2 (And.intro hb ho))
      have c0 : W7.cell? ⟨r0, 0, none⟩ = some (.slice ao (To.all s).1.length cap) := (hb.cell 0).1
      have c1 : W7.cell? ⟨r0 + 1, 0, none⟩ = some (.int .i64 0) := (hR2.at_.cell 0).1
      have c2 : W7.cell? ⟨r0 + 1 + 1, 0, none⟩ = some (.int .i64 0) := (hR2.err.cell 0).1
      have f0 := (hb.cell 0).2
      have f1 := (hR2.at_.cell 0).2
      have f2 := (hR2.err.cell 0).2
      have hr : To.read s = ((To.all s).1, 0, 0) := by unfold To.read; rw [if_neg hlong, hn]
      clear hR2 hb ho hn
      go_wp2_with fail
      obtain ⟨d1, d2, d3, d4, d5, d6⟩ := HR.out.1.done HR.out.2.1 HR.out.2.2 rfl
      refine ⟨by simp, .inl ⟨_, _, rfl, run_takeDeferred d1, ?_⟩⟩
      rw [List.take_length] at d4
      obtain ⟨k1, k2⟩ := fresh_since g t (by decide) d2 d4
      have h1 := H.out (.slice ao (To.all s).1.length cap) _ _ k1
      rw [hr] at h1
      have h2 := h1 k2
      exact ⟨_, read_out rfl rfl rfl (d3.cell 0).1 (d5.cell 0).1 (d6.cell 0).1, h2⟩
    · refine ⟨some .ret, _, run_endLoop (P := Tryz.prog) hR.loop.1 (by simp), ?_⟩
      have hR2 := hR.put { state := .exhausted, pending := some .ret, fn := r.fn, tmps := r.tmps, params := r.params, assign := r.assign, body := r.body, defers := r.defers }
      clear hR h0 hbx
      generalize W6.putObj (D + 1) (.loop { state := .exhausted, pending := some .ret, fn := r.fn, tmps := r.tmps, params := r.params, assign := r.assign, body := r.body, defers := r.defers }) = W7 at *
      have hr : To.read s = ([], p, 4) := by unfold To.read; rw [if_neg hlong, hp]
      show Code.wpIn _ _ _ _ _ _ _
      gi_wp2
      refine ⟨by simp, .inl ⟨_, _, rfl, run_takeDeferred hR2.mark.1, ?_⟩⟩
      obtain ⟨T, _⟩ := hR2.mark.put (.deferred none)
      have h1 := H.out (.slice none 0 0) _ _ (Turn.of_below (hR2.since.turn T (by decide)).below g t)
      rw [hr] at h1
      have h2 : Q (.returned (.tuple #[.slice none 0 0, .int .i64 (p : Int), .int .i64 4])) _ := h1 (Owns.nil _ _ _ _ _)
      exact ⟨_, read_out rfl rfl rfl ((hR2.toks.turn T (by decide)).cell 0).1 ((hR2.at_.turn T (by decide)).cell 0).1 ((hR2.err.turn T (by decide)).cell 0).1, h2⟩
end Go.Proofs.YtcldcigopkfmmaaGreatDoor

/- A slice of tokens: what it reads as. -/
namespace Go.Proofs.YtcldcigopkfmmaaGreatDoor
open Go.RowKit Go.My

/-- v reads as the tokens xs. -/
def Toks (w : World) (g : Tags) (t : Nat) (v : Value) (xs : List To.T) : Prop :=
  ∃ ao cap, v = .slice ao xs.length cap ∧ xs.length ≤ cap ∧ cap ≤ maxLen ∧
    (0 < xs.length → ∃ b off, ao = some ⟨b, off, none⟩ ∧ g b = t ∧ b < w.heap.size ∧ ∀ j (hj : j < xs.length),
      w.cell? ⟨b, off + j * 3, none⟩ = some (.int .u8 ((xs[j]).kind : Int)) ∧ w.cell? ⟨b, off + j * 3 + 1, none⟩ = some (.string (bs (xs[j]).text)) ∧ w.cell? ⟨b, off + j * 3 + 2, none⟩ = some (.int .i64 ((xs[j]).pos : Int)))

theorem Toks.turn {w w' : World} {g g' : Tags} {T : List Nat} {t : Nat} {v : Value} {xs : List To.T} (h : Toks w g t v xs) (k : Turn w g w' g' T) (ht : t ∉ T) : Toks w' g' t v xs := by
  obtain ⟨ao, cap, hv, h1, h2, h3⟩ := h
  refine ⟨ao, cap, hv, h1, h2, fun hl => ?_⟩
  obtain ⟨b, off, e, hg, hb, hc⟩ := h3 hl
  have hk := k.block b hb (by rw [hg]; exact ht)
  refine ⟨b, off, e, (k.old b hb).trans hg, Nat.lt_of_lt_of_le hb k.size, fun j hj => ?_⟩
  obtain ⟨c0, c1, c2⟩ := hc j hj
  exact ⟨(World.cell?_of_block hk).trans c0, (World.cell?_of_block hk).trans c1, (World.cell?_of_block hk).trans c2⟩

theorem tokRow_len (xs : List To.T) : (tokRow xs).length = xs.length * 3 := by
  induction xs with
  | nil => rfl
  | cons x xs ih =>
    have : tokRow (x :: xs) = (tokCells x).toList ++ tokRow xs := by simp [tokRow]
    rw [this, List.length_append, ih, List.length_cons]
    simp [tokCells]; omega
theorem tokRow_at (xs : List To.T) (j : Nat) (hj : j < xs.length) : (tokRow xs)[j * 3]? = some (.int .u8 ((xs[j]).kind : Int)) ∧ (tokRow xs)[j * 3 + 1]? = some (.string (bs (xs[j]).text)) ∧ (tokRow xs)[j * 3 + 2]? = some (.int .i64 ((xs[j]).pos : Int)) := by
  induction xs generalizing j with
  | nil => exact absurd hj (Nat.not_lt_zero _)
  | cons x xs ih =>
    have e : tokRow (x :: xs) = .int .u8 (x.kind : Int) :: .string (bs x.text) :: .int .i64 (x.pos : Int) :: tokRow xs := by simp [tokRow, tokCells]
    rw [e]
    cases j with
    | zero => exact ⟨rfl, rfl, rfl⟩
    | succ j =>
      have := ih j (by simpa using hj)
      have e3 : (j + 1) * 3 = j * 3 + 3 := by omega
      rw [e3]
      exact this

theorem toks_of_cells {w : World} {g : Tags} {t b off cap : Nat} {xs : List To.T} {cur : Array Value} {e : TypeId} (hb : w.heap[b]? = some (.cells cur e (0, 0))) (hg : g b = t) (h1 : xs.length ≤ cap) (h2 : cap ≤ maxLen) (hcur : (cur.toList.drop off).take (xs.length * 3) = tokRow xs) :
    Toks w g t (.slice (some ⟨b, off, none⟩) xs.length cap) xs := by
  refine ⟨_, cap, rfl, h1, h2, fun hl => ⟨b, off, rfl, hg, (Array.getElem?_eq_some_iff.1 hb).1, fun j hj => ?_⟩⟩
  have hc : ∀ i, i < xs.length * 3 → w.cell? ⟨b, off + i, none⟩ = (tokRow xs)[i]? := by
    intro i hi
    rw [cell_of_row w b (off + i) cur e _ hb, ← hcur, List.getElem?_take, if_pos hi, List.getElem?_drop, Array.getElem?_toList]
  obtain ⟨k0, k1, k2⟩ := tokRow_at xs j hj
  exact ⟨(hc _ (by omega)).trans k0, by rw [Nat.add_assoc]; exact (hc _ (by omega)).trans k1, by rw [Nat.add_assoc]; exact (hc _ (by omega)).trans k2⟩

theorem toks_of_owns {w : World} {g : Tags} {t : Nat} {e : TypeId} {v : Value} {xs : List To.T} (h : Owns w g t e 3 v xs.length (tokRow xs)) : Toks w g t v xs := by
  obtain ⟨k, ⟨_, h1⟩, hk⟩ := h
  rcases h1 with ⟨rfl, h0, _⟩ | ⟨b, off, cap, cur, rfl, rfl, hb, hc, hm, _, ht⟩
  · exact ⟨none, 0, by rw [h0], by omega, Nat.zero_le _, fun h => absurd h (by omega)⟩
  · exact toks_of_cells hb (hk b rfl) hc hm ht
end Go.Proofs.YtcldcigopkfmmaaGreatDoor

/- Tokens: the reference's Name; the walk of TokensNames. -/
namespace Go.Proofs.YtcldcigopkfmmaaGreatDoor
open Go.RowKit Go.My

theorem bs_tl (l : List UInt8) : (bs l).toList = l := by rw [ByteArray.toList_eq, bs_list]

set_option maxHeartbeats 4000000 in
theorem refname_t {w : World} (l : List UInt8) (hl : l.length ≤ 9223372036854775807) {Q : Ending → World → Prop} (h : Q (.returned (.bool (To.name l))) w) :
    Calls Tryz.prog 142 #[.string (bs l)] w Q := by
  have H := Lib.hid h
  clear h
  by_cases h1 : l = []
  · subst h1
    have e : To.name [] = false := by decide
    rw [e] at H
    have hbl := bs_tl []
    clear e
    go_enter Tryz.func142, Tryz.ntmps142
    go_wp2_with fail
    exact H.out
  have g0 := h1
  clear h1
  by_cases h1 : l = [102, 110]
  · subst h1
    have e : To.name [102, 110] = false := by decide
    rw [e] at H
    have hbl := bs_tl [102, 110]
    clear e
    go_enter Tryz.func142, Tryz.ntmps142
    go_wp2_with fail
    exact H.out
  have g1 := h1
  clear h1
  by_cases h1 : l = [105, 102]
  · subst h1
    have e : To.name [105, 102] = false := by decide
    rw [e] at H
    have hbl := bs_tl [105, 102]
    clear e
    go_enter Tryz.func142, Tryz.ntmps142
    go_wp2_with fail
    exact H.out
  have g2 := h1
  clear h1
  by_cases h1 : l = [101, 108, 115, 101]
  · subst h1
    have e : To.name [101, 108, 115, 101] = false := by decide
    rw [e] at H
    have hbl := bs_tl [101, 108, 115, 101]
    clear e
    go_enter Tryz.func142, Tryz.ntmps142
    go_wp2_with fail
    exact H.out
  have g3 := h1
  clear h1
  by_cases h1 : l = [119, 104, 105, 108, 101]
  · subst h1
    have e : To.name [119, 104, 105, 108, 101] = false := by decide
    rw [e] at H
    have hbl := bs_tl [119, 104, 105, 108, 101]
    clear e
    go_enter Tryz.func142, Tryz.ntmps142
    go_wp2_with fail
    exact H.out
  have g4 := h1
  clear h1
  by_cases h1 : l = [114, 101, 116, 117, 114, 110]
  · subst h1
    have e : To.name [114, 101, 116, 117, 114, 110] = false := by decide
    rw [e] at H
    have hbl := bs_tl [114, 101, 116, 117, 114, 110]
    clear e
    go_enter Tryz.func142, Tryz.ntmps142
    go_wp2_with fail
    exact H.out
  have g5 := h1
  clear h1
  by_cases h1 : l = [116, 101, 108, 108]
  · subst h1
    have e : To.name [116, 101, 108, 108] = false := by decide
    rw [e] at H
    have hbl := bs_tl [116, 101, 108, 108]
    clear e
    go_enter Tryz.func142, Tryz.ntmps142
    go_wp2_with fail
    exact H.out
  have g6 := h1
  clear h1
  by_cases h1 : l = [110, 111, 116]
  · subst h1
    have e : To.name [110, 111, 116] = false := by decide
    rw [e] at H
    have hbl := bs_tl [110, 111, 116]
    clear e
    go_enter Tryz.func142, Tryz.ntmps142
    go_wp2_with fail
    exact H.out
  have g7 := h1
  clear h1
  obtain ⟨x, hx⟩ : ∃ x, x = To.word l := ⟨_, rfl⟩
  have hcon : To.own.contains l = false := by
    simp only [To.own, List.contains_cons, List.contains_nil, Bool.or_false, Bool.or_eq_false_iff, beq_eq_false_iff_ne]
    exact ⟨g1, g2, g3, g4, g5, g6, g7⟩
  have hemp : l.isEmpty = false := by cases l with | nil => exact absurd rfl g0 | cons _ _ => rfl
  have e : To.name l = decide ((x : Int) = (l.length : Int)) := by
    unfold To.name
    rw [hcon, hemp, ← hx, Bool.eq_iff_iff]; simp; omega
  rw [e] at H
  have b0 : (bs l).toList.isEmpty = false := by rw [bs_tl]; exact hemp
  have b1 : ((bs l).toList == [102, 110]) = false := by rw [bs_tl]; simpa using g1
  have b2 : ((bs l).toList == [105, 102]) = false := by rw [bs_tl]; simpa using g2
  have b3 : ((bs l).toList == [101, 108, 115, 101]) = false := by rw [bs_tl]; simpa using g3
  have b4 : ((bs l).toList == [119, 104, 105, 108, 101]) = false := by rw [bs_tl]; simpa using g4
  have b5 : ((bs l).toList == [114, 101, 116, 117, 114, 110]) = false := by rw [bs_tl]; simpa using g5
  have b6 : ((bs l).toList == [116, 101, 108, 108]) = false := by rw [bs_tl]; simpa using g6
  have b7 : ((bs l).toList == [110, 111, 116]) = false := by rw [bs_tl]; simpa using g7
  have hsz := bs_size l
  have HN := Lib.hid hx
  clear e hx hcon hemp g0 g1 g2 g3 g4 g5 g6 g7
  go_enter Tryz.func142, Tryz.ntmps142
  go_wp2_with fail
  refine refword_t l hl ?_
  rw [← HN.out]
  go_wp2_with fail
  exact H.out
end Go.Proofs.YtcldcigopkfmmaaGreatDoor

/- Trees: is a number too long, as the document has it. -/
namespace Go.Proofs.YtcldcigopkfmmaaGreatDoor
open Go.RowKit Go.My Go.Nd

def RLongSaid (tw : Bool) (x : Ns) : Prop := ∀ (w : World) (B : Nat) (v : Value), B ≤ w.heap.size → Nodes w (· < B) tw v x → Calls Tryz.prog 113 #[v] w fun e w' => e = .returned (.bool (long x)) ∧ Below w.heap.size w w'

theorem cell_later {w w1 : World} {n b o : Nat} {u : Value} (hb : Below n w w1) (hlt : b < n) (h : w.cell? ⟨b, o, none⟩ = some u) : w1.cell? ⟨b, o, none⟩ = some u := (World.cell?_of_block (hb.block b hlt)).trans h

def LongAt (w : World) (xs : Ns) (gk : Nat) (v3 : Value) (wr : World) : Prop :=
  ∃ i : Nat, i ≤ xs.items.length ∧ gk = xs.items.length - i ∧ v3 = .int .i64 (i : Int) ∧ (xs.items.drop i).any longOne = xs.items.any longOne ∧ Below w.heap.size w wr

set_option maxRecDepth 100000 in
set_option maxHeartbeats 8000000 in
theorem rlong_said (tw : Bool) : ∀ xs, RLongSaid tw xs := by
  refine Ns.each fun xs ih w B v hB hv => ?_
  obtain ⟨a, c, rfl, hr, hc⟩ := hv.open_
  have HI := Lib.hid ih
  have HC := Lib.hid hc
  have l0 : (0 : Int) ≤ (xs.items.length : Int) := by omega
  have l1 : (xs.items.length : Int) ≤ 140737488351232 := by have := hr.2.2.1; omega
  clear ih hv hc hr
  go_enter Tryz.func113, Tryz.ntmps113
  go_wp2_with fail
  go_loopg [3] xs.items.length (fun gk v3 wr => LongAt w xs gk v3 wr)
  case atStart => exact ⟨0, Nat.zero_le _, rfl, rfl, rfl, Below.refl _ _⟩
  case round =>
    obtain ⟨i, hi, rfl, rfl, hd, hb⟩ := hrel
    have i0 : (0 : Int) ≤ (i : Int) := by omega
    by_cases hlt : i < xs.items.length
    · have i1 : (i : Int) < (xs.items.length : Int) := by omega
      obtain ⟨b, off, v1, v2, v3, rfl, hS, hN⟩ := HC.out i hlt
      have hN' := hN.frame hS fun k hk _ => hb.block k (Nat.lt_of_lt_of_le hk hB)
      obtain ⟨x, hx⟩ : ∃ x, x = xs.items[i] := ⟨_, rfl⟩
      rw [← hx] at hN'
      have hI := HI.out _ (List.getElem_mem hlt)
      rw [← hx] at hI
      have hdr := items_cons_drop xs i hlt
      rw [← hx] at hdr
      obtain ⟨kd, tt, xl, xb, xe⟩ := x
      have d0 := hN'.d0
      have d1 := hN'.d1
      have d2 := hN'.d2
      have d3 := hN'.d3
      have d4 := hN'.d4
      have ht := hN'.text
      obtain ⟨a1, c1, rfl, s1, m1⟩ := hN'.l
      obtain ⟨a2, c2, rfl, s2, m2⟩ := hN'.body
      obtain ⟨a3, c3, rfl, s3, m3⟩ := hN'.els
      simp only at d0 d1 d2 d3 d4 ht
      have hBr : B ≤ wr.heap.size := Nat.le_trans hB hb.size
      have n1 : Nodes wr (· < B) tw (.slice a1 xl.len c1) xl := ⟨a1, c1, rfl, s1, m1⟩
      have n2 : Nodes wr (· < B) tw (.slice a2 xb.len c2) xb := ⟨a2, c2, rfl, s2, m2⟩
      have n3 : Nodes wr (· < B) tw (.slice a3 xe.len c3) xe := ⟨a3, c3, rfl, s3, m3⟩
      have Y := Lib.hid (And.intro hI (And.intro n1 (And.intro n2 (And.intro n3 (And.intro hBr (And.intro hb (And.intro hd (And.intro hdr (Nat.lt_of_lt_of_le hS hBr)))))))))
      have ts := tx_size tt
      have k0 : (0 : Int) ≤ (kd : Int) := by omega
      have tl : (tt.length : Int) ≤ 140737488351232 := by omega
      obtain ⟨p, hp⟩ : ∃ p, p = (kd == 1 && decide (200 < tt.length)) := ⟨_, rfl⟩
      have HR := Lib.hid (show longOne ⟨kd, tt, xl, xb, xe⟩ = (p || long xl || long xb || long xe) by rw [hp]; rfl)
      have D3 := Lib.hid d3
      have D4 := Lib.hid d4
      clear hN hN' s1 s2 s3 m1 m2 m3 hb hd hx hdr hI hS n1 n2 n3 hBr ht
      have fin : ∀ wz, longOne ⟨kd, tt, xl, xb, xe⟩ = true → Below w.heap.size w wz → Ending.returned (.bool true) = Ending.returned (.bool (long xs)) ∧ Below w.heap.size w wz := fun wz hone hz => by
        refine ⟨?_, hz⟩
        have hd := Y.out.2.2.2.2.2.2.1
        rw [Y.out.2.2.2.2.2.2.2.1, List.any_cons, hone, Bool.true_or] at hd
        rw [long_items, ← hd]
      have FIN := Lib.hid fin
      clear fin
      cases p with
      | true =>
        have hq : kd = 1 ∧ 200 < tt.length := by have := hp.symm; simpa using this
        obtain ⟨rfl, hq⟩ := hq
        have hq2 : (200 : Int) < (tt.length : Int) := by omega
        clear hp hq
        go_wp2_with fail
        go_ret
        exact FIN.out _ (by rw [HR.out]; rfl) Y.out.2.2.2.2.2.1
      | false =>
        have hq : ((kd : Int) == 1) = false ∨ (kd = 1 ∧ (tt.length : Int) ≤ 200) := by
          have := hp.symm
          by_cases hk1 : kd = 1
          · right; subst hk1; simp at this; omega
          · left; simp; omega
        clear hp
        rcases hq with hq | ⟨rfl, hq⟩
        all_goals
          (try have hq2 : decide ((200 : Int) < (tt.length : Int)) = false := by simp; omega)
          go_wp2_with fail
          refine (Y.out.1.1 _ B _ Y.out.2.2.2.2.1 Y.out.2.1).mono ?_
          rintro e w1 ⟨rfl, hb1⟩
          have e3 := cell_later hb1 Y.out.2.2.2.2.2.2.2.2 D3.out
          have K1 := Lib.hid (And.intro hb1 (Y.out.2.2.2.2.2.1.trans (hb1.mono Y.out.2.2.2.2.2.1.size)))
          clear hb1
          cases hl1 : long xl with
          | true =>
            have L1 := Lib.hid hl1
            clear hl1
            go_wp2_with fail
            go_ret
            exact FIN.out _ (by rw [HR.out, L1.out]; rfl) K1.out.2
          | false =>
            have L1 := Lib.hid hl1
            clear hl1
            go_wp2_with fail
            refine (Y.out.1.2.1 w1 B _ (Nat.le_trans Y.out.2.2.2.2.1 K1.out.1.size) (Y.out.2.2.1.below (K1.out.1.mono Y.out.2.2.2.2.1))).mono ?_
            rintro e w2 ⟨rfl, hb2⟩
            have hb12 := K1.out.1.trans (hb2.mono K1.out.1.size)
            have e4 := cell_later hb12 Y.out.2.2.2.2.2.2.2.2 D4.out
            have K2 := Lib.hid (And.intro hb12 (Y.out.2.2.2.2.2.1.trans (hb12.mono Y.out.2.2.2.2.2.1.size)))
            clear hb2 hb12 e3
            cases hl2 : long xb with
            | true =>
              have L2 := Lib.hid hl2
              clear hl2
              go_wp2_with fail
              go_ret
              exact FIN.out _ (by rw [HR.out, L1.out, L2.out]; rfl) K2.out.2
            | false =>
              have L2 := Lib.hid hl2
              clear hl2
              go_wp2_with fail
              refine (Y.out.1.2.2 w2 B _ (Nat.le_trans Y.out.2.2.2.2.1 K2.out.1.size) (Y.out.2.2.2.1.below (K2.out.1.mono Y.out.2.2.2.2.1))).mono ?_
              rintro e w3 ⟨rfl, hb3⟩
              have K3 := Lib.hid (K2.out.2.trans (hb3.mono K2.out.2.size))
              clear hb3
              cases hl3 : long xe with
              | true =>
                have L3 := Lib.hid hl3
                clear hl3
                go_wp2_with fail
                go_ret
                exact FIN.out _ (by rw [HR.out, L1.out, L2.out, L3.out]; rfl) K3.out
              | false =>
                have L3 := Lib.hid hl3
                clear hl3
                go_wp2_with fail
                go_roundg (xs.items.length - (i + 1))
                case measure => omega
                case rel =>
                  refine ⟨i + 1, hlt, rfl, by go_num, ?_, K3.out⟩
                  have hd := Y.out.2.2.2.2.2.2.1
                  rw [Y.out.2.2.2.2.2.2.2.1, List.any_cons, HR.out, L1.out, L2.out, L3.out] at hd
                  exact hd
    · obtain rfl : i = xs.items.length := by omega
      clear hlt
      go_wp2_with fail
      go_ret
      exact ⟨by rw [long_items, ← hd, List.drop_length]; rfl, hb⟩
end Go.Proofs.YtcldcigopkfmmaaGreatDoor

/- Lists that a book keeps, each in memory of its own: what an append leaves of the shorter list. No program in sight. -/
namespace Go.My
open Go.RowKit

section
variable {P : Program} (w : World)

/-- APPEND, and where the longer list lies: at the old place, or in a new block (then all old blocks are as they were). -/
theorem run_append_at {t e : TypeId} {size bytes : Nat} {z : Value} (E : Elem P t e size bytes z) (ty : TypeId)
    {v : Value} {n : Nat} {xs : List Value} {g : Option Nat} (hown : Own w e size v n xs g) {ad : Addr} {c : Nat} {m : Nat} {news : List Value} (hl : news.length = m * size) (hnews : ∀ j u, news[j]? = some u → w.cell? (ad.add j) = some u) (h1 : ∀ u ∈ news, u.oneCell' = true)
    (h63 : n + m ≤ maxLen) (hbytes : (n + m) * bytes ≤ 140737488355328) (hm : 0 < m) :
    ∃ v' w' g', (Builtin.append_ #[t, t] ty #[v, .slice (some ad) m c]).run P w = .ok v' w' ∧ Own w' e size v' (n + m) (xs ++ news) g' ∧
      ((∃ b off cap, v = .slice (some ⟨b, off, none⟩) n cap ∧ v' = .slice (some ⟨b, off, none⟩) (n + m) cap ∧ g = some b ∧ g' = some b ∧ Step w w' (some b)) ∨
       (Below w.heap.size w w' ∧ ∃ k cap, v' = .slice (some ⟨k, 0, none⟩) (n + m) cap ∧ g' = some k ∧ w.heap.size ≤ k)) := by
  obtain ⟨ht, ⟨i, hi, hz, hsize, hby⟩, hzs, hsz⟩ := E
  subst hsize
  subst hby
  have hsmall : n + m ≤ 9223372036854775807 := by simp only [maxLen] at h63; omega
  have hlen : (xs ++ news).length = (n + m) * i.size := by rw [List.length_append, hown.1, hl, Nat.add_mul]
  have grown : ∀ (old : Nat), old < n + m →
      Own (w.drew.alloc (.cells (xs.toArray ++ news.toArray ++ Builtin.zeroCells z.cells (grownCap w (n + m) old e - (n + m))) e)) e i.size
        (.slice (some ⟨w.heap.size, 0, none⟩) (n + m) (grownCap w (n + m) old e)) (n + m) (xs ++ news) (some w.heap.size) ∧
      Below w.heap.size w (w.drew.alloc (.cells (xs.toArray ++ news.toArray ++ Builtin.zeroCells z.cells (grownCap w (n + m) old e - (n + m))) e)) := by
    intro old ho
    have hge := grownCap_ge w (n + m) old e
    have hcm : grownCap w (n + m) old e ≤ maxLen := grownCap_le_maxLen w (n + m) old e h63
    refine ⟨⟨hlen, .inr ⟨w.heap.size, 0, _, _, rfl, rfl, heap_alloc_new w.drew _, hge, hcm, ?_, ?_⟩⟩, ⟨rfl, rfl, rfl, by simp, fun k hk => Below.heap_alloc w.drew _ k hk⟩⟩
    · simp only [Array.size_append, List.size_toArray, size_zeroCells, hzs, hown.1, hl, ← Nat.add_mul, Nat.zero_add]
      apply Nat.mul_le_mul_right
      omega
    · simp only [Array.toList_append, List.append_assoc, List.drop_zero]
      rw [← List.append_assoc, ← hlen]
      exact List.take_left
  rcases hown.2 with ⟨rfl, rfl, rfl⟩ | ⟨b, off, cap, cur, rfl, rfl, hh, h3, h4, h5, h6⟩
  · have hxs : xs = [] := List.eq_nil_of_length_eq_zero (by simpa using hown.1)
    subst hxs
    have hr := run_append_nil (P := P) w t ty e i z ht hi hz ad m c news hl hnews (by omega) (by omega) (by have hb := hbytes; simp only [Nat.zero_add] at hb; omega)
    have hgr := grown 0 (by omega)
    simp only [Nat.zero_add, List.nil_append, Array.empty_append] at hgr ⊢
    exact ⟨_, _, _, hr, hgr.1, .inr ⟨hgr.2, _, _, rfl, rfl, Nat.le_refl _⟩⟩
  · by_cases hroom : n + m ≤ cap
    · have hfit : off + n * i.size + news.length ≤ cur.size := by
        have := Nat.mul_le_mul_right i.size hroom
        rw [hl]; rw [Nat.add_mul] at this; omega
      have hf := run_firstCells_some (P := P) w i.size m ad m c news hl hnews
      have hst := run_storeCells_at P b (off + n * i.size) e news 0 cur w hh (by simpa using hfit) h1
      simp only [Nat.add_zero] at hst
      have hr : (Builtin.append_ #[t, t] ty #[.slice (some ⟨b, off, none⟩) n cap, .slice (some ad) m c]).run P w =
          .ok (.slice (some ⟨b, off, none⟩) (n + m) cap) (w.setRow b (cur.toList.take (off + n * i.size) ++ news ++ cur.toList.drop (off + n * i.size + news.length)).toArray) := by
        simp [Builtin.append_, run_underlying ht, sizeOf, typeInfo, hi, Builtin.lenOf, hroom, hf, Addr.add_lit, hst]
      refine ⟨_, _, some b, hr, ⟨hlen, .inr ⟨b, off, cap, _, rfl, rfl, setRow_heap w b cur _ e _ hh, hroom, h4, ?_, ?_⟩⟩,
        .inl ⟨b, off, cap, rfl, rfl, rfl, rfl, rfl, rfl, rfl, by simp, fun k _ hk => setRow_other w b k _ (fun e => hk (by simp [e]))⟩⟩
      · simp only [List.size_toArray, List.length_append, List.length_take, List.length_drop, Array.length_toList]
        omega
      · have hx1 : xs.length = n * i.size := hown.1
        have hpre : (cur.toList.take (off + n * i.size)).drop off = xs := by
          rw [List.drop_take, ← h6]; congr 1; omega
        have hlo : off ≤ (cur.toList.take (off + n * i.size)).length := by simp; omega
        show List.take ((n + m) * i.size) (List.drop off (cur.toList.take (off + n * i.size) ++ news ++ cur.toList.drop (off + n * i.size + news.length))) = xs ++ news
        rw [List.append_assoc, List.drop_append_of_le_length hlo, hpre, ← List.append_assoc, ← hlen]
        exact List.take_left
    · have holds : ∀ j u, xs[j]? = some u → w.cell? ((⟨b, off, none⟩ : Addr).add j) = some u := by
        intro j u hj
        rw [add_none, cell_of_row w b (off + j) cur e (0, 0) hh, ← hj, ← h6, List.getElem?_take, List.getElem?_drop]
        rw [if_pos (by have := (List.getElem?_eq_some_iff.1 hj).1; rw [hown.1] at this; exact this)]; simp
      have hr := run_append_grow (P := P) w t ty e i z ht hi hz ⟨b, off, none⟩ n cap xs hown.1 holds ad m c news hl hnews (by omega) (by omega) (growslice_fits (by omega) hbytes)
      have hgr := grown cap (by omega)
      exact ⟨_, _, _, hr, hgr.1, .inr ⟨hgr.2, _, _, rfl, rfl, Nat.le_refl _⟩⟩
end

/-- A list v of n elements, and a longer one, u, that began as it: the first reads as xs, the second as xs and more. Both are t's. -/
def Grown (w : World) (g : Tags) (t : Nat) (e : TypeId) (size : Nat) (v : Value) (n : Nat) (xs : List Value) (u : Value) (m : Nat) (more : List Value) : Prop :=
  xs.length = n * size ∧ Owns w g t e size u (n + m) (xs ++ more) ∧
  ∃ ao cap, v = .slice ao n cap ∧ ((ao = none ∧ n = 0) ∨ ∃ b off, ao = some ⟨b, off, none⟩ ∧ g b = t ∧ b < w.heap.size ∧ ∀ j c, xs[j]? = some c → w.cell? ⟨b, off + j, none⟩ = some c) ∧
    (∀ b off c, u = .slice (some ⟨b, off, none⟩) (n + m) c → ao = some ⟨b, off, none⟩ ∨ ∀ o, ao = some o → o.block ≠ b)

theorem Owns.grown {w : World} {g : Tags} {t : Nat} {e : TypeId} {size : Nat} {v : Value} {n : Nat} {xs : List Value} (h : Owns w g t e size v n xs) : Grown w g t e size v n xs v 0 [] := by
  obtain ⟨k, ho, hk⟩ := h
  refine ⟨ho.1, ⟨k, by simpa using ho, hk⟩, ?_⟩
  rcases ho.2 with ⟨rfl, rfl, _⟩ | ⟨b, off, cap, cur, rfl, hg, hh, h3, h4, h5, h6⟩
  · exact ⟨none, 0, rfl, .inl ⟨rfl, rfl⟩, fun b off c hu => by cases hu⟩
  · refine ⟨_, cap, rfl, .inr ⟨b, off, rfl, hk b hg, (Array.getElem?_eq_some_iff.1 hh).1, fun j c hj => ?_⟩, fun b' off' c hu => by cases hu; exact .inl rfl⟩
    rw [cell_of_row w b (off + j) cur e (0, 0) hh, ← hj, ← h6, List.getElem?_take, List.getElem?_drop]
    rw [if_pos (by have := (List.getElem?_eq_some_iff.1 hj).1; rw [ho.1] at this; exact this)]; simp

/-- The shorter one reads as it did. -/
theorem Grown.cell {w : World} {g : Tags} {t : Nat} {e : TypeId} {size : Nat} {v : Value} {n : Nat} {xs : List Value} {u : Value} {m : Nat} {more : List Value} (h : Grown w g t e size v n xs u m more) (hn : 0 < n) :
    ∃ b off cap, v = .slice (some ⟨b, off, none⟩) n cap ∧ ∀ j c, xs[j]? = some c → w.cell? ⟨b, off + j, none⟩ = some c := by
  obtain ⟨_, _, ao, cap, hv, hc, _⟩ := h
  rcases hc with ⟨_, h0⟩ | ⟨b, off, rfl, _, _, hcell⟩
  · omega
  · exact ⟨b, off, cap, hv, hcell⟩

theorem Grown.turn {w w' : World} {g g' : Tags} {T : List Nat} {t : Nat} {e : TypeId} {size : Nat} {v : Value} {n : Nat} {xs : List Value} {u : Value} {m : Nat} {more : List Value} (h : Grown w g t e size v n xs u m more) (k : Turn w g w' g' T) (ht : t ∉ T) : Grown w' g' t e size v n xs u m more := by
  obtain ⟨hl, ho, ao, cap, hv, hc, hu⟩ := h
  refine ⟨hl, ho.turn k ht, ao, cap, hv, ?_, hu⟩
  rcases hc with h0 | ⟨b, off, ha, hg, hb, hcell⟩
  · exact .inl h0
  refine .inr ⟨b, off, ha, (k.old b hb).trans hg, Nat.lt_of_lt_of_le hb k.size, fun j c hj => ?_⟩
  exact (World.cell?_of_block (k.block b hb (by rw [hg]; exact ht))).trans (hcell j c hj)

section
variable {P : Program} (w : World)
/-- ONE MORE BEHIND THE LONGER ONE, FOR THE WALK. -/
theorem wpList_append_grown {ops : Array Oper} {rest : List Oper} {o : Oper} {a : Act} {Q : Exit → Act → World → Prop} (hgd : o.guard = none) (s x : Operand) {t e : TypeId}
    (ho : o.op = .call { callee := .builtin .append, args := #[s, x], argTypes := #[t, t] }) {size bytes : Nat} {z : Value} (E : Elem P t e size bytes z)
    {v u : Value} {n m : Nat} {xs more : List Value} {g : Tags} {tg : Nat} (hs : a.eval s = u) (hG : Grown w g tg e size v n xs u m more) {y : Value} {ad : Addr} {c : Nat} {news : List Value} (hy : a.eval x = y) (hyy : y = .slice (some ad) 1 c) (hl : news.length = size) (hnews : ∀ j q, news[j]? = some q → w.cell? (ad.add j) = some q) (h1 : ∀ q ∈ news, q.oneCell' = true)
    (h63 : n + m + 1 ≤ maxLen) (hbytes : (n + m + 1) * bytes ≤ 140737488355328)
    (h : ∀ ao cap w' g', Grown w' g' tg e size v n xs (.slice ao (n + (m + 1)) cap) (m + 1) (more ++ news) → Turn w g w' g' [tg] → wpList P ops Q rest (a.put o.dst (.slice ao (n + (m + 1)) cap)) w') : wpList P ops Q (o :: rest) a w := by
  obtain ⟨hxl, ⟨k, hown, hk⟩, ao, cap, hv, hcell, hap⟩ := hG
  subst hyy
  obtain ⟨v', w', g', hr, hown', hor⟩ := run_append_at w E o.type hown (m := 1) (c := c) (by omega) hnews h1 h63 hbytes (by decide)
  refine wpList_plain hgd fun _ hK => ?_
  unfold Oper.wp execOp
  simp only [ho, resolve, invoke, builtin, Sem.run_bind, Sem.run_pure, Result.andThen_ok, List.map_toArray, List.map_cons, List.map_nil, hs, hy, hr]
  refine hK _ _ ?_
  rw [List.append_assoc] at hown'
  rcases hor with ⟨b, off, cp, hu, hv', hkb, hkb', hst⟩ | ⟨hb, k', cp, hv', hk', hge⟩
  · subst hv'
    have hT := Turn.of_step hst g tg (fun q e => by cases e; exact hk b hkb)
    refine h _ _ w' _ ⟨hxl, ⟨g', hown', fun q hq => ?_⟩, ao, cap, hv, ?_, fun b2 off2 c2 h2 => ?_⟩ hT
    · rw [hkb'] at hq; cases hq
      rw [Tags.ext_old _ _ _ _ (hown.lt b hkb)]; exact hk b hkb
    · rcases hcell with h0 | ⟨b3, off3, ha3, hg3, hlt3, hc3⟩
      · exact .inl h0
      refine .inr ⟨b3, off3, ha3, by rw [Tags.ext_old _ _ _ _ hlt3]; exact hg3, Nat.lt_of_lt_of_le hlt3 hst.size, fun j q hj => ?_⟩
      rcases hap b off cp (by rw [hu]) with h4 | h4
      · rw [ha3] at h4; cases h4
        rcases hown'.2 with ⟨e1, _⟩ | ⟨b5, off5, cap5, cur5, e5, _, hh5, h35, h45, h55, h65⟩
        · cases e1
        · cases e5
          have hj2 := (List.getElem?_eq_some_iff.1 hj).1
          rw [cell_of_row w' b (off + j) cur5 e (0, 0) hh5]
          have h7 : (xs ++ (more ++ news))[j]? = some q := by rw [List.getElem?_append_left hj2]; exact hj
          rw [← h65, List.getElem?_take] at h7
          split at h7
          · rw [List.getElem?_drop, Array.getElem?_toList] at h7; exact h7
          · cases h7
      · have hne : b3 ≠ b := h4 _ ha3
        exact (hst.cell (a := ⟨b3, off3 + j, none⟩) hlt3 (fun e => hne (by cases e; rfl))).trans (hc3 j q hj)
    · cases h2
      rcases hap b off cp (by rw [hu]) with h4 | h4
      · exact .inl h4
      · exact .inr h4
  · subst hv'
    have hT := (Turn.of_below hb g tg)
    refine h _ _ w' _ ⟨hxl, ⟨g', hown', fun q hq => ?_⟩, ao, cap, hv, ?_, fun b2 off2 c2 h2 => ?_⟩ (hT.mono (by simp))
    · rw [hk'] at hq; cases hq
      exact Tags.ext_new _ _ _ _ hge
    · rcases hcell with h0 | ⟨b3, off3, ha3, hg3, hlt3, hc3⟩
      · exact .inl h0
      refine .inr ⟨b3, off3, ha3, by rw [Tags.ext_old _ _ _ _ hlt3]; exact hg3, Nat.lt_of_lt_of_le hlt3 hb.size, fun j q hj => ?_⟩
      exact (World.cell?_of_block (hb.block b3 hlt3)).trans (hc3 j q hj)
    · cases h2
      rcases hcell with ⟨h0, _⟩ | ⟨b3, off3, ha3, hg3, hlt3, hc3⟩
      · exact .inr fun q hq => by rw [h0] at hq; cases hq
      · refine .inr fun q hq => ?_
        rw [ha3] at hq; cases hq
        show b3 ≠ k'
        omega
end

theorem oneCell_set {w : World} {b o : Nat} {cur : Array Value} {e : TypeId} (u : Value) (h : w.heap[b]? = some (.cells cur e (0, 0))) : (w.setCell ⟨b, o, none⟩ u).heap[b]? = some (.cells (cur.setIfInBounds o u) e (0, 0)) := heap_setCell_same w b o _ _ u h

theorem drop_set_take (l : List Value) (off j n : Nat) (u : Value) (hj : j < n) (_ : off + n ≤ l.length) : ((l.set (off + j) u).drop off).take n = ((l.drop off).take n).set j u := by
  apply List.ext_getElem
  · simp
  · intro i h1 h2
    simp only [List.getElem_take, List.getElem_drop, List.getElem_set]
    by_cases hij : i = j
    · subst hij; simp
    · rw [if_neg (by omega), if_neg (by omega)]

/-- A cell of a list that the call owns. -/
theorem Owns.cell {w : World} {g : Tags} {t : Nat} {e : TypeId} {size : Nat} {v : Value} {n : Nat} {xs : List Value} (h : Owns w g t e size v n xs) (hn : 0 < n) :
    ∃ b off cap, v = .slice (some ⟨b, off, none⟩) n cap ∧ g b = t ∧ n ≤ cap ∧ cap ≤ maxLen ∧ b < w.heap.size ∧ ∀ j, j < n * size → w.cell? ⟨b, off + j, none⟩ = xs[j]? ∧ w.frozen? ⟨b, off + j, none⟩ = false := by
  obtain ⟨k, ho, hk⟩ := h
  rcases ho.2 with ⟨_, rfl, _⟩ | ⟨b, off, cap, cur, rfl, hg, hh, h3, h4, h5, h6⟩
  · exact absurd hn (Nat.lt_irrefl _)
  · refine ⟨b, off, cap, rfl, hk b hg, h3, h4, (Array.getElem?_eq_some_iff.1 hh).1, fun j hj => ⟨?_, frozen_of_row w b (off + j) _ _ hh⟩⟩
    rw [cell_of_row w b (off + j) cur e (0, 0) hh, ← h6, List.getElem?_take, if_pos hj, List.getElem?_drop, Array.getElem?_toList]

/-- A STORE INTO IT. -/
theorem Owns.set {w : World} {g : Tags} {t : Nat} {e : TypeId} {size b off n cap : Nat} {xs : List Value} (h : Owns w g t e size (.slice (some ⟨b, off, none⟩) n cap) n xs) (j : Nat) (hj : j < n * size) (u : Value) :
    Owns (w.setCell ⟨b, off + j, none⟩ u) g t e size (.slice (some ⟨b, off, none⟩) n cap) n (xs.set j u) ∧ Turn w g (w.setCell ⟨b, off + j, none⟩ u) g [t] := by
  obtain ⟨k, ho, hk⟩ := h
  rcases ho.2 with ⟨hv, _⟩ | ⟨b', off', cap', cur, hv, hg, hh, h3, h4, h5, h6⟩
  · cases hv
  · cases hv
    have hb : g b = t := hk b hg
    refine ⟨⟨k, ⟨by rw [List.length_set]; exact ho.1, .inr ⟨b, off, cap, _, rfl, hg, oneCell_set u hh, h3, h4, by simpa using h5, ?_⟩⟩, hk⟩, ?_⟩
    · have h7 : n * size ≤ cap * size := Nat.mul_le_mul_right _ h3
      rw [← h6, Array.toList_setIfInBounds]
      exact drop_set_take _ _ _ _ _ hj (by rw [Array.length_toList]; omega)
    · have := Turn.setCell w g ⟨b, off + j, none⟩ u (by simp) rfl rfl rfl
      rw [hb] at this; exact this

/-- Many are not one of many. -/
theorem not_mem_upto (t m k : Nat) (h : t < k ∨ k + m ≤ t) : t ∉ (List.range m).map (k + ·) := by
  intro hm
  obtain ⟨j, hj, he⟩ := List.mem_map.1 hm
  have := List.mem_range.1 hj
  omega

/-- A block of cells that the call made. -/
def Bx (w : World) (g : Tags) (b : Nat) (ty : TypeId) (t : Nat) (cs : Array Value) : Prop := w.heap[b]? = some (.cells cs ty (0, 0)) ∧ g b = t
theorem Bx.lt {w : World} {g : Tags} {b : Nat} {ty : TypeId} {t : Nat} {cs : Array Value} (h : Bx w g b ty t cs) : b < w.heap.size := (Array.getElem?_eq_some_iff.1 h.1).1
theorem Bx.turn {w w' : World} {g g' : Tags} {T : List Nat} {b : Nat} {ty : TypeId} {t : Nat} {cs : Array Value} (h : Bx w g b ty t cs) (k : Turn w g w' g' T) (ht : t ∉ T) : Bx w' g' b ty t cs :=
  ⟨(k.block b h.lt (by rw [h.2]; exact ht)).trans h.1, (k.old b h.lt).trans h.2⟩
theorem Bx.cell {w : World} {g : Tags} {b : Nat} {ty : TypeId} {t : Nat} {cs : Array Value} (h : Bx w g b ty t cs) (i : Nat) : w.cell? ⟨b, i, none⟩ = cs[i]? ∧ w.frozen? ⟨b, i, none⟩ = false :=
  ⟨cell_of_row w b i _ _ _ h.1, frozen_of_row w b i _ _ h.1⟩
theorem Bx.alloc (w : World) (g : Tags) (ty : TypeId) (t : Nat) (cs : Array Value) : Bx (w.alloc (.cells cs ty)) (g.ext w.heap.size t) w.heap.size ty t cs :=
  ⟨heap_alloc_new w _, Tags.ext_new _ _ _ _ (Nat.le_refl _)⟩
theorem Bx.store {w : World} {g : Tags} {b : Nat} {ty : TypeId} {t : Nat} {cs : Array Value} (h : Bx w g b ty t cs) (i : Nat) (v : Value) :
    Turn w g (w.setCell ⟨b, i, none⟩ v) g [t] ∧ Bx (w.setCell ⟨b, i, none⟩ v) g b ty t (cs.setIfInBounds i v) := by
  refine ⟨?_, heap_setCell_same w b i _ _ v h.1, h.2⟩
  have := Turn.setCell w g ⟨b, i, none⟩ v (by simp) rfl rfl rfl
  rw [h.2] at this; exact this
end Go.My

/- A book of lists of several kinds: what stands in its memory. -/
namespace Go.Proofs.YtcldcigopkfmmaaGreatDoor
open Go.RowKit Go.My
/-- The library's table stands where nothing is written. -/
def Tab (w : World) (g : Tags) : Prop := ∃ B, Lib.TabBelow Tryz.prog B w "internal/strconv.uint64pow10" .u64 Lib.pow10Tab ∧ (∀ b, b < B → g b = 0) ∧ B ≤ w.heap.size
theorem Tab.is {w : World} {g : Tags} (h : Tab w g) : Lib.TabIs Tryz.prog w "internal/strconv.uint64pow10" .u64 Lib.pow10Tab := by obtain ⟨B, h1, _⟩ := h; exact h1.here
theorem Tab.turn {w w' : World} {g g' : Tags} {T : List Nat} (h : Tab w g) (k : Turn w g w' g' T) (h0 : 0 ∉ T) : Tab w' g' := by
  obtain ⟨B, h1, h2, h3⟩ := h
  exact ⟨B, h1.on ⟨k.os, k.tape, k.output, k.size, fun b hb => k.block b (Nat.lt_of_lt_of_le hb h3) (by rw [h2 b hb]; exact h0)⟩, fun b hb => (k.old b (Nat.lt_of_lt_of_le hb h3)).trans (h2 b hb), Nat.le_trans h3 k.size⟩
/-- A list that a book holds: where it lies, how many elements it has, its room; the longer one; the number. -/
structure Ent where
  va : Option Addr
  n : Nat
  vc : Nat
  la : Option Addr
  ll : Nat
  lc : Nat
  num : Nat
def Ent.v (x : Ent) : Value := .slice x.va x.n x.vc
def Ent.long (x : Ent) : Value := .slice x.la x.ll x.lc
def Ent.cells (x : Ent) : List Value := [x.v, x.long, .int .i64 (x.num : Int)]
def rows (hs : List Ent) : List Value := hs.flatMap Ent.cells
theorem rows_cons (x : Ent) (hs : List Ent) : rows (x :: hs) = x.v :: x.long :: .int .i64 (x.num : Int) :: rows hs := by simp [rows, Ent.cells]
theorem rows_length (hs : List Ent) : (rows hs).length = hs.length * 3 := by
  induction hs with
  | nil => rfl
  | cons x hs ih => rw [rows_cons]; simp only [List.length_cons, ih]; omega
theorem rows_at (hs : List Ent) (i : Nat) (hi : i < hs.length) : (rows hs)[i * 3]? = some hs[i].v ∧ (rows hs)[i * 3 + 1]? = some hs[i].long ∧ (rows hs)[i * 3 + 2]? = some (.int .i64 (hs[i].num : Int)) := by
  induction hs generalizing i with
  | nil => exact absurd hi (Nat.not_lt_zero _)
  | cons x hs ih =>
    rw [rows_cons]
    cases i with
    | zero => exact ⟨rfl, rfl, rfl⟩
    | succ i =>
      have := ih i (by simpa using hi)
      have e3 : (i + 1) * 3 = i * 3 + 3 := by omega
      rw [e3]
      exact this
def Ent.with_ (x : Ent) (la : Option Addr) (ll lc : Nat) : Ent := ⟨x.va, x.n, x.vc, la, ll, lc, x.num⟩
theorem rows_set (hs : List Ent) (i : Nat) (hi : i < hs.length) (la : Option Addr) (ll lc : Nat) : rows (hs.set i (hs[i].with_ la ll lc)) = (rows hs).set (i * 3 + 1) (.slice la ll lc) := by
  induction hs generalizing i with
  | nil => exact absurd hi (Nat.not_lt_zero _)
  | cons x hs ih =>
    cases i with
    | zero => simp only [List.set_cons_zero, List.getElem_cons_zero, rows_cons]; rfl
    | succ i =>
      have e3 : (i + 1) * 3 + 1 = (i * 3 + 1) + 3 := by omega
      simp only [List.set_cons_succ, List.getElem_cons_succ, rows_cons, e3]
      rw [ih i (by simpa using hi)]

/-- A kind of list: its number, the book's cell, the types, how many cells an element has, and what is written over it. -/
structure Kd where
  no : Nat
  fi : Nat
  ht : TypeId
  et : TypeId
  size : Nat
  mark : Nat → List Value
structure Kd.Good (κ : Kd) : Prop where
  lt : κ.no < 8
  fi : 0 < κ.fi
  pos : 0 < κ.size
  len : ∀ c, (κ.mark c).length = κ.size
/-- The owners of a book's rows, of its lists. -/
def arrTag (κ : Kd) : Nat := 810 + κ.no
def entTag (κ : Kd) (i : Nat) : Nat := 1000 + 8 * i + κ.no
def entTags (κ : Kd) (m : Nat) : List Nat := (List.range m).map (entTag κ)
theorem entTag_mem {κ : Kd} {i m : Nat} (h : i < m) : ∀ t, t ∈ [entTag κ i] → t ∈ entTags κ m := by
  intro t ht
  rw [List.mem_singleton.1 ht]
  exact List.mem_map.2 ⟨i, List.mem_range.2 h, rfl⟩
theorem not_entTags {κ : Kd} {t m : Nat} (h : t < 1000) : t ∉ entTags κ m := by
  intro hm
  obtain ⟨j, _, e⟩ := List.mem_map.1 hm
  unfold entTag at e; omega
theorem entTag_ne {κ : Kd} {i j : Nat} (h : i ≠ j) : entTag κ i ∉ [entTag κ j] := by unfold entTag; simp; omega
theorem ent_other {κ κ' : Kd} (hκ : κ.no < 8) (hκ' : κ'.no < 8) (h : κ.no ≠ κ'.no) (i m : Nat) : entTag κ i ∉ entTags κ' m := by
  intro hm
  obtain ⟨j, _, e⟩ := List.mem_map.1 hm
  unfold entTag at e; omega
theorem low_ent (κ : Kd) (i : Nat) {t : Nat} (h : t < 1000) : t ∉ [entTag κ i] := by unfold entTag; simp; omega
theorem ent_low {κ : Kd} {i t : Nat} (h : t < 1000) : entTag κ i ∉ [t] := by unfold entTag; simp; omega

def marks (κ : Kd) (c n : Nat) : List Value := (List.replicate n (κ.mark c)).flatten
theorem marks_len {κ : Kd} (hκ : κ.Good) (c n : Nat) : (marks κ c n).length = n * κ.size := by
  unfold marks
  induction n with
  | zero => simp
  | succ n ih => rw [List.replicate_succ, List.flatten_cons, List.length_append, ih, hκ.len, Nat.add_mul]; omega
theorem marks_succ (κ : Kd) (c n : Nat) : marks κ c (n + 1) = marks κ c n ++ κ.mark c := by
  unfold marks
  rw [List.replicate_succ']; simp
theorem marks_at {κ : Kd} (hκ : κ.Good) (c n k j : Nat) (hk : k < n) (hj : j < κ.size) : (marks κ c n)[k * κ.size + j]? = (κ.mark c)[j]? := by
  induction n with
  | zero => exact absurd hk (Nat.not_lt_zero _)
  | succ n ih =>
    rw [marks_succ]
    by_cases h : k < n
    · rw [List.getElem?_append_left (by rw [marks_len hκ]; have := Nat.mul_le_mul_right κ.size (Nat.succ_le_of_lt h); rw [Nat.succ_mul] at this; omega)]
      exact ih h
    · obtain rfl : k = n := by omega
      rw [List.getElem?_append_right (by rw [marks_len hκ]; omega), marks_len hκ, Nat.add_sub_cancel_left]

/-- A book: its cells; the lists of a kind that it holds. -/
structure Book (κ : Kd) (w : World) (g : Tags) (bp : Nat) (cs : Array Value) (hs : List Ent) : Prop where
  box : Bx w g bp 40 801 cs
  arr : ∃ vb, cs[κ.fi]? = some vb ∧ Owns w g (arrTag κ) κ.ht 3 vb hs.length (rows hs)
  few : hs.length ≤ 1000000000
  ok : ∀ x ∈ hs, x.n ≤ 1000000000 ∧ 0 < x.num ∧ x.num ≤ 1000000000
  tab : Tab w g
theorem Book.turn {κ : Kd} {w w' : World} {g g' : Tags} {T : List Nat} {bp : Nat} {cs : Array Value} {hs : List Ent} (h : Book κ w g bp cs hs) (k : Turn w g w' g' T) (h0 : 0 ∉ T) (h1 : 801 ∉ T) (h2 : arrTag κ ∉ T) : Book κ w' g' bp cs hs := by
  obtain ⟨vb, h3, h4⟩ := h.arr
  exact ⟨h.box.turn k h1, ⟨vb, h3, h4.turn k h2⟩, h.few, h.ok, h.tab.turn k h0⟩
theorem not_low (κ : Kd) (m t : Nat) (h : t < 1000) : t ∉ entTags κ m := by
  intro hm
  obtain ⟨j, _, e⟩ := List.mem_map.1 hm
  unfold entTag at e; omega

/-- Each list, as it came; the first i of them as they are filled. -/
def Filled (κ : Kd) (w : World) (g : Tags) (hs : List Ent) (i : Nat) : Prop :=
  ∀ j (hj : j < hs.length), if j < i then Owns w g (entTag κ j) κ.et κ.size hs[j].v hs[j].n (marks κ hs[j].num hs[j].n) else ∃ xs, Owns w g (entTag κ j) κ.et κ.size hs[j].v hs[j].n xs
theorem Filled.other {κ : Kd} {w w' : World} {g g' : Tags} {hs : List Ent} {i : Nat} (h : Filled κ w g hs i) (hi : i < hs.length) (k : Turn w g w' g' [entTag κ i]) (hn : Owns w' g' (entTag κ i) κ.et κ.size hs[i].v hs[i].n (marks κ hs[i].num hs[i].n)) : Filled κ w' g' hs (i + 1) := by
  intro j hj
  by_cases hji : j = i
  · subst hji; rw [if_pos (by omega)]; exact hn
  · have := h j hj
    by_cases hlt : j < i
    · rw [if_pos hlt] at this; rw [if_pos (by omega)]; exact this.turn k (entTag_ne hji)
    · rw [if_neg hlt] at this; rw [if_neg (by omega)]
      obtain ⟨xs, hx⟩ := this
      exact ⟨xs, hx.turn k (entTag_ne hji)⟩
theorem Filled.turn {κ : Kd} {w w' : World} {g g' : Tags} {hs : List Ent} {i : Nat} {T : List Nat} (h : Filled κ w g hs i) (k : Turn w g w' g' T) (hT : ∀ j, entTag κ j ∉ T) : Filled κ w' g' hs i := by
  intro j hj
  have := h j hj
  by_cases hlt : j < i
  · rw [if_pos hlt] at this ⊢; exact this.turn k (hT j)
  · rw [if_neg hlt] at this ⊢
    obtain ⟨xs, hx⟩ := this
    exact ⟨xs, hx.turn k (hT j)⟩

def FillAt (κ : Kd) (w : World) (g : Tags) (bp : Nat) (cs : Array Value) (hs : List Ent) (gk : Nat) (v2 : Value) (wr : World) : Prop :=
  ∃ (i : Nat) (g' : Tags), i ≤ hs.length ∧ gk = hs.length - i ∧ v2 = .int .i64 (i : Int) ∧ Turn w g wr g' (entTags κ hs.length) ∧ Book κ wr g' bp cs hs ∧ Filled κ wr g' hs i
def Fill1 (κ : Kd) (wx : World) (gx : Tags) (bx : Nat) (x : Ent) (t : Nat) (gk : Nat) (v4 : Value) (wr : World) : Prop :=
  ∃ (k : Nat) (xs : List Value) (g' : Tags), k ≤ x.n ∧ gk = x.n - k ∧ v4 = .int .i64 (k : Int) ∧ Turn wx gx wr g' [t] ∧ Bx wr g' bx κ.ht 900 #[.slice x.va x.n x.vc, .slice x.la x.ll x.lc, .int .i64 (x.num : Int)] ∧ Owns wr g' t κ.et κ.size x.v x.n (marks κ x.num k ++ xs)

/-- Cells written one behind the other. -/
def setL (w : World) (b : Nat) : Nat → List Value → World
  | _, [] => w
  | o, u :: us => setL (w.setCell ⟨b, o, none⟩ u) b (o + 1) us
theorem owns_put {g : Tags} {t : Nat} {e : TypeId} {size b off n cap : Nat} (us : List Value) : ∀ {w : World} {A B C : List Value}, Owns w g t e size (.slice (some ⟨b, off, none⟩) n cap) n (A ++ B ++ C) → us.length = B.length →
    Owns (setL w b (off + A.length) us) g t e size (.slice (some ⟨b, off, none⟩) n cap) n (A ++ us ++ C) ∧ Turn w g (setL w b (off + A.length) us) g [t] := by
  induction us with
  | nil =>
    intro w A B C h hl
    have : B = [] := List.eq_nil_of_length_eq_zero (by simpa using hl.symm)
    subst this
    exact ⟨h, Turn.refl _ _ _⟩
  | cons u us ih =>
    intro w A B C h hl
    obtain ⟨x, B, rfl⟩ : ∃ x r, B = x :: r := by cases B with | nil => simp at hl | cons x r => exact ⟨x, r, rfl⟩
    have hlen : (A ++ x :: B ++ C).length = n * size := by obtain ⟨_, ho, _⟩ := h; exact ho.1
    have hs := h.set A.length (by rw [← hlen]; simp) u
    have e : (A ++ x :: B ++ C).set A.length u = (A ++ [u]) ++ B ++ C := by
      rw [List.append_assoc, List.set_append_right _ _ (Nat.le_refl _)]; simp
    rw [e] at hs
    obtain ⟨k1, k2⟩ := ih hs.1 (by simpa using hl)
    have e2 : off + (A ++ [u]).length = off + A.length + 1 := by simp; omega
    rw [e2] at k1 k2
    have e3 : A ++ [u] ++ us ++ C = A ++ u :: us ++ C := by simp
    rw [e3] at k1
    exact ⟨k1, hs.2.trans k2 (V := [t]) (by simp) (by simp)⟩
/-- The next element's mark is written. -/
theorem owns_mark {κ : Kd} (hκ : κ.Good) {w : World} {g : Tags} {t b off n cap c k : Nat} {ys : List Value} (h : Owns w g t κ.et κ.size (.slice (some ⟨b, off, none⟩) n cap) n (marks κ c k ++ ys)) (hk : k < n) :
    ∃ ys', Owns (setL w b (off + k * κ.size) (κ.mark c)) g t κ.et κ.size (.slice (some ⟨b, off, none⟩) n cap) n (marks κ c (k + 1) ++ ys') ∧ Turn w g (setL w b (off + k * κ.size) (κ.mark c)) g [t] := by
  have hlen : (marks κ c k ++ ys).length = n * κ.size := by obtain ⟨_, ho, _⟩ := h; exact ho.1
  rw [List.length_append, marks_len hκ] at hlen
  have hy : κ.size ≤ ys.length := by
    have := Nat.mul_le_mul_right κ.size (Nat.succ_le_of_lt hk)
    rw [Nat.succ_mul] at this; omega
  have e : marks κ c k ++ ys = marks κ c k ++ ys.take κ.size ++ ys.drop κ.size := by rw [List.append_assoc, List.take_append_drop]
  rw [e] at h
  have hp := owns_put (w := w) (κ.mark c) h (by rw [hκ.len, List.length_take]; omega)
  rw [marks_len hκ] at hp
  refine ⟨ys.drop κ.size, ?_, hp.2⟩
  rw [marks_succ]
  exact hp.1

/-- A place in what the call owns may be written, cell by cell. -/
def MayW (w : World) (b o : Nat) : Prop := (∃ z, w.cell? ⟨b, o, none⟩ = some z) ∧ w.frozen? ⟨b, o, none⟩ = false
theorem mayW_row {w : World} {b o : Nat} {cur : Array Value} {e : TypeId} (h : w.heap[b]? = some (.cells cur e (0, 0))) (ho : o < cur.size) : MayW w b o := by
  refine ⟨⟨cur[o], ?_⟩, frozen_of_row _ b _ _ _ h⟩
  rw [cell_of_row _ b _ _ _ _ h]; simp [ho]
theorem owns_row {w : World} {g : Tags} {t : Nat} {e : TypeId} {size b off n cap : Nat} {xs : List Value} (h : Owns w g t e size (.slice (some ⟨b, off, none⟩) n cap) n xs) : ∃ cur, w.heap[b]? = some (.cells cur e (0, 0)) ∧ off + n * size ≤ cur.size := by
  obtain ⟨k, ho, hk⟩ := h
  rcases ho.2 with ⟨hv, _⟩ | ⟨b', off', cap', cur, hv, hg, hh, h3, h4, h5, h6⟩
  · cases hv
  · cases hv
    refine ⟨cur, hh, ?_⟩
    have := Nat.mul_le_mul_right size h3
    omega
theorem may1 {w : World} {g : Tags} {t : Nat} {e : TypeId} {size b off n cap : Nat} {xs : List Value} (h : Owns w g t e size (.slice (some ⟨b, off, none⟩) n cap) n xs) (o : Nat) (ho : o + 1 ≤ n * size) : MayW w b (off + o) := by
  obtain ⟨cur, hh, hz⟩ := owns_row h
  exact mayW_row hh (by omega)
theorem may3 {w : World} {g : Tags} {t : Nat} {e : TypeId} {size b off n cap : Nat} {xs : List Value} (h : Owns w g t e size (.slice (some ⟨b, off, none⟩) n cap) n xs) (o : Nat) (ho : o + 3 ≤ n * size) (u0 u1 : Value) :
    MayW w b (off + o) ∧ MayW (w.setCell ⟨b, off + o, none⟩ u0) b (off + o + 1) ∧ MayW ((w.setCell ⟨b, off + o, none⟩ u0).setCell ⟨b, off + o + 1, none⟩ u1) b (off + o + 2) := by
  obtain ⟨cur, hh, hz⟩ := owns_row h
  have r1 := heap_setCell_same w b (off + o) _ _ u0 hh
  have r2 := heap_setCell_same _ b (off + o + 1) _ _ u1 r1
  exact ⟨mayW_row hh (by omega), mayW_row r1 (by simp; omega), mayW_row r2 (by simp; omega)⟩
theorem may5 {w : World} {g : Tags} {t : Nat} {e : TypeId} {size b off n cap : Nat} {xs : List Value} (h : Owns w g t e size (.slice (some ⟨b, off, none⟩) n cap) n xs) (o : Nat) (ho : o + 5 ≤ n * size) (u0 u1 u2 u3 : Value) :
    MayW w b (off + o) ∧ MayW (w.setCell ⟨b, off + o, none⟩ u0) b (off + o + 1) ∧ MayW ((w.setCell ⟨b, off + o, none⟩ u0).setCell ⟨b, off + o + 1, none⟩ u1) b (off + o + 2) ∧
    MayW (((w.setCell ⟨b, off + o, none⟩ u0).setCell ⟨b, off + o + 1, none⟩ u1).setCell ⟨b, off + o + 2, none⟩ u2) b (off + o + 3) ∧ MayW ((((w.setCell ⟨b, off + o, none⟩ u0).setCell ⟨b, off + o + 1, none⟩ u1).setCell ⟨b, off + o + 2, none⟩ u2).setCell ⟨b, off + o + 3, none⟩ u3) b (off + o + 4) := by
  obtain ⟨cur, hh, hz⟩ := owns_row h
  have r1 := heap_setCell_same w b (off + o) _ _ u0 hh
  have r2 := heap_setCell_same _ b (off + o + 1) _ _ u1 r1
  have r3 := heap_setCell_same _ b (off + o + 2) _ _ u2 r2
  have r4 := heap_setCell_same _ b (off + o + 3) _ _ u3 r3
  exact ⟨mayW_row hh (by omega), mayW_row r1 (by simp; omega), mayW_row r2 (by simp; omega), mayW_row r3 (by simp; omega), mayW_row r4 (by simp; omega)⟩

/-- The first i of them have more behind them. -/
def GrownTo (κ : Kd) (w : World) (g : Tags) (hs : List Ent) (i : Nat) : Prop :=
  ∀ j (hj : j < hs.length), if j < i then hs[j].ll = hs[j].n + 40 ∧ Grown w g (entTag κ j) κ.et κ.size hs[j].v hs[j].n (marks κ hs[j].num hs[j].n) hs[j].long 40 (marks κ hs[j].num 40) else Owns w g (entTag κ j) κ.et κ.size hs[j].v hs[j].n (marks κ hs[j].num hs[j].n)
theorem Filled.grown {κ : Kd} {w : World} {g : Tags} {hs : List Ent} (h : Filled κ w g hs hs.length) : GrownTo κ w g hs 0 := by
  intro j hj
  have := h j hj
  rw [if_pos hj] at this
  rw [if_neg (Nat.not_lt_zero _)]; exact this
theorem GrownTo.turn {κ : Kd} {w w' : World} {g g' : Tags} {hs : List Ent} {i : Nat} {T : List Nat} (h : GrownTo κ w g hs i) (k : Turn w g w' g' T) (hT : ∀ j, entTag κ j ∉ T) : GrownTo κ w' g' hs i := by
  intro j hj
  have := h j hj
  by_cases hlt : j < i
  · rw [if_pos hlt] at this ⊢; exact ⟨this.1, this.2.turn k (hT j)⟩
  · rw [if_neg hlt] at this ⊢; exact this.turn k (hT j)
theorem GrownTo.next {κ : Kd} {w w' : World} {g g' : Tags} {hs : List Ent} {i : Nat} (h : GrownTo κ w g hs i) (hi : i < hs.length) (k : Turn w g w' g' [entTag κ i]) {la : Option Addr} {lc : Nat}
    (hn : Grown w' g' (entTag κ i) κ.et κ.size hs[i].v hs[i].n (marks κ hs[i].num hs[i].n) (.slice la (hs[i].n + 40) lc) 40 (marks κ hs[i].num 40)) : GrownTo κ w' g' (hs.set i (hs[i].with_ la (hs[i].n + 40) lc)) (i + 1) := by
  intro j hj
  have hj' : j < hs.length := by simpa using hj
  by_cases hji : j = i
  · subst hji
    have e : (hs.set j (hs[j].with_ la (hs[j].n + 40) lc))[j]'hj = hs[j].with_ la (hs[j].n + 40) lc := by simp
    rw [if_pos (by omega), e]
    exact ⟨rfl, hn⟩
  · have e : (hs.set i (hs[i].with_ la (hs[i].n + 40) lc))[j]'hj = hs[j] := by rw [List.getElem_set, if_neg (fun h => hji h.symm)]
    rw [e]
    have := h j hj'
    by_cases hlt : j < i
    · rw [if_pos hlt] at this; rw [if_pos (by omega)]; exact ⟨this.1, this.2.turn k (entTag_ne hji)⟩
    · rw [if_neg hlt] at this; rw [if_neg (by omega)]; exact this.turn k (entTag_ne hji)
def GrowAt (κ : Kd) (w : World) (g : Tags) (bp : Nat) (cs : Array Value) (m : Nat) (gk : Nat) (v2 : Value) (wr : World) : Prop :=
  ∃ (i : Nat) (hs : List Ent) (g' : Tags), hs.length = m ∧ i ≤ m ∧ gk = m - i ∧ v2 = .int .i64 (i : Int) ∧ Turn w g wr g' (arrTag κ :: entTags κ m) ∧ Book κ wr g' bp cs hs ∧ GrownTo κ wr g' hs i
def Grow1 (κ : Kd) (wx : World) (gx : Tags) (bx : Nat) (x : Ent) (t : Nat) (gk : Nat) (v4 v5 : Value) (wr : World) : Prop :=
  ∃ (k : Nat) (la : Option Addr) (lc : Nat) (g' : Tags), k ≤ 40 ∧ gk = 40 - k ∧ v4 = .slice la (x.n + k) lc ∧ v5 = .int .i64 (k : Int) ∧ Turn wx gx wr g' [t] ∧ Bx wr g' bx κ.ht 900 #[.slice x.va x.n x.vc, .slice x.la x.ll x.lc, .int .i64 (x.num : Int)] ∧
    Grown wr g' t κ.et κ.size x.v x.n (marks κ x.num x.n) (.slice la (x.n + k) lc) k (marks κ x.num k)
def LookAt (κ : Kd) (w : World) (g : Tags) (bp : Nat) (cs : Array Value) (hs : List Ent) (gk : Nat) (v3 : Value) (wr : World) : Prop :=
  ∃ (i : Nat) (g' : Tags), i ≤ hs.length ∧ gk = hs.length - i ∧ v3 = .int .i64 (i : Int) ∧ Turn w g wr g' [] ∧ Book κ wr g' bp cs hs ∧ GrownTo κ wr g' hs hs.length

/-- The word of a number. -/
def wordOf (c : Nat) : ByteArray := ⟨#[35]⟩ ++ ⟨(Lib.itoa (c : Int)).toArray⟩
theorem bkWord_t (c : Nat) (hc : c ≤ 1000000000) {w : World} {g : Tags} (hT : Tab w g) : Calls Tryz.prog 126 #[.int .i64 (c : Int)] w fun e w' => e = .returned (.string (wordOf c)) ∧ Below w.heap.size w w' := by
  have HT := Lib.hid hT.is
  have h0 : (-9223372036854775808 : Int) ≤ (c : Int) := by omega
  have h1 : (c : Int) ≤ 9223372036854775807 := by omega
  have hl := Lib.itoa_length_le (c : Int) h0 h1
  have hadd : ∀ wx, (Op.stringOp .add ⟨#[35]⟩ ⟨(Lib.itoa (c : Int)).toArray⟩).run Tryz.prog wx = .ok (.string (wordOf c)) wx := fun wx => by
    rw [run_string_add_sum wx _ _ (by show 1 + (Lib.itoa (c : Int)).length ≤ _; omega)]; rfl
  clear hT hl
  go_enter Tryz.func126, Tryz.ntmps126
  go_wp2_with fail
  refine (Tryz.strconv_Itoa (c : Int) h0 h1 w HT.out).mono ?_
  rintro e w1 ⟨rfl, k, os, rfl⟩
  have HB := Lib.hid (Lib.below_grow w.heap.size w (Nat.le_refl _) k os)
  generalize Sort.grow (w.drewN k) os = w1 at *
  go_wp2_with fail
  go_ret
  exact ⟨rfl, HB.out⟩
end Go.Proofs.YtcldcigopkfmmaaGreatDoor

/- A book of lists of several kinds: one more list; what looking leaves. -/
namespace Go.Proofs.YtcldcigopkfmmaaGreatDoor
open Go.RowKit Go.My
theorem marks_add (κ : Kd) (c n m : Nat) : marks κ c n ++ marks κ c m = marks κ c (n + m) := by
  unfold marks
  rw [← List.flatten_append, List.replicate_append_replicate]

/-- Nothing of what was there has turned. -/
def Still (w : World) (g : Tags) (W : World) : Prop := ∃ g', Turn w g W g' []
theorem Still.refl (w : World) (g : Tags) : Still w g w := ⟨g, Turn.refl _ _ _⟩
theorem still_below {w W W' : World} {g : Tags} (hb : Below W.heap.size W W') (h : Still w g W) : Still w g W' := by
  obtain ⟨g', h⟩ := h
  exact ⟨_, h.trans (Turn.of_below hb g' 901) (V := []) (by simp) (by simp)⟩
theorem keepL {P : World → Prop} {w W W' : World} {g : Tags} (KS : Hid (∀ W, Still w g W → P W ∧ Still w g W)) (h : P W ∧ Still w g W) (hb : Below W.heap.size W W') : P W' ∧ Still w g W' := KS.out W' (still_below hb h.2)
theorem still_drew {w W : World} {g : Tags} (h : Still w g W) : Still w g W.drew := by
  obtain ⟨g', h⟩ := h
  exact ⟨_, h.trans (Turn.drew W g') (V := []) (by simp) (by simp)⟩
theorem still_tab {w W : World} {g : Tags} (h : Tab w g) (k : Still w g W) : ∃ g', Tab W g' := by
  obtain ⟨g', k⟩ := k
  exact ⟨g', h.turn k (by simp)⟩

def Look1 (wx : World) (gx : Tags) (n gk : Nat) (v5 : Value) (wr : World) : Prop := ∃ k : Nat, k ≤ n ∧ gk = n - k ∧ v5 = .int .i64 (k : Int) ∧ Still wx gx wr

/-- A list, the longer one, while the book looks. -/
theorem look_long {κ : Kd} (hκ : κ.Good) {w : World} {g : Tags} {t : Nat} {v : Value} {n num k : Nat} {la : Option Addr} {lc : Nat} (h : Grown w g t κ.et κ.size v n (marks κ num n) (.slice la (n + 40) lc) 40 (marks κ num 40)) (hk : k < n + 40) :
    ∃ b1 off1, la = some ⟨b1, off1, none⟩ ∧ ∀ W, Still w g W → ∀ j, j < κ.size → W.cell? ⟨b1, off1 + (k * κ.size + j), none⟩ = (κ.mark num)[j]? := by
  obtain ⟨b, off, cap, hv, hg, _, _, hlt, hc⟩ := h.2.1.cell (by omega)
  cases hv
  refine ⟨b, off, rfl, fun W ⟨g', T⟩ j hj => ?_⟩
  have hb : k * κ.size + j < (n + 40) * κ.size := by
    have := Nat.mul_le_mul_right κ.size (Nat.succ_le_of_lt hk)
    rw [Nat.succ_mul] at this; omega
  rw [World.cell?_of_block (T.block b hlt (by simp)), (hc _ hb).1, marks_add, marks_at hκ _ _ _ _ hk hj]
theorem look_short {κ : Kd} (hκ : κ.Good) {w : World} {g : Tags} {t : Nat} {va : Option Addr} {vc n num k : Nat} {u : Value} (h : Grown w g t κ.et κ.size (.slice va n vc) n (marks κ num n) u 40 (marks κ num 40)) (hk : k < n) :
    ∃ b1 off1, va = some ⟨b1, off1, none⟩ ∧ ∀ W, Still w g W → ∀ j, j < κ.size → W.cell? ⟨b1, off1 + (k * κ.size + j), none⟩ = (κ.mark num)[j]? := by
  obtain ⟨b, off, cap, hv, hc⟩ := h.cell (by omega)
  cases hv
  refine ⟨b, off, rfl, fun W ⟨g', T⟩ j hj => ?_⟩
  have e := marks_at hκ num n k j hk hj
  have hx : (κ.mark num)[j]? = some ((κ.mark num)[j]'(by rw [hκ.len]; exact hj)) := List.getElem?_eq_getElem _
  have h0 := hc (k * κ.size + j) _ (e.trans hx)
  rw [World.cell?_of_block (T.block b (World.block_lt_of_cell? _ _ h0) (by simp)), h0, hx]

/-- What the append of one more list leaves. -/
structure KeepAt (κ : Kd) (w : World) (g : Tags) (bp : Nat) (cs : Array Value) (hs : List Ent) (x : Ent) (vl : Value) (w2 : World) (g2 : Tags) : Prop where
  cell : ∃ u, w2.cell? ⟨bp, κ.fi, none⟩ = some u
  froz : w2.frozen? ⟨bp, κ.fi, none⟩ = false
  done : Turn w g (w2.setCell ⟨bp, κ.fi, none⟩ vl) g2 [801, arrTag κ] ∧ Book κ (w2.setCell ⟨bp, κ.fi, none⟩ vl) g2 bp ((cs.setIfInBounds 0 (.int .i64 (x.num : Int))).setIfInBounds κ.fi vl) (hs ++ [x])
theorem arr_801 (κ : Kd) : arrTag κ ∉ [801] := by unfold arrTag; simp; omega
theorem arr_901 (κ : Kd) (h : κ.no < 8) : arrTag κ ∉ [901] := by unfold arrTag; simp; omega
theorem not_arr (κ : Kd) (h : κ.no < 8) (t : Nat) (h2 : t < 810 ∨ 820 < t) : t ∉ [arrTag κ] := by unfold arrTag; simp; omega
theorem keep_at {κ : Kd} (hκ : κ.Good) {w : World} {g : Tags} {bp : Nat} {cs : Array Value} {hs : List Ent} {x : Ent} (hB : Book κ w g bp cs hs) (hn : x.n ≤ 1000000000) (hx : 0 < x.num ∧ x.num ≤ 1000000000) (hf : hs.length < 1000000000) {w1 : World} (hw1 : w.setCell ⟨bp, 0, none⟩ (.int .i64 (x.num : Int)) = w1) {o : Obj} {w2 : World} {g2 : Tags} {ao : Option Addr} {cap : Nat}
    (hO : Owns w2 g2 (arrTag κ) κ.ht 3 (.slice ao (hs.length + 1) cap) (hs.length + 1) (rows hs ++ x.cells))
    (hT : Turn (w1.drew.alloc o) (g.ext w1.drew.heap.size 901) w2 g2 [arrTag κ]) : KeepAt κ w g bp cs hs x (.slice ao (hs.length + 1) cap) w2 g2 := by
  subst hw1
  obtain ⟨T1, B1⟩ := hB.box.store 0 (.int .i64 (x.num : Int))
  have T2 := (T1.trans (Turn.drew _ g) (V := [801]) (by simp) (by simp)).trans (Turn.alloc _ g 901 o) (V := [801]) (by simp) (by simp)
  have B2 := (B1.turn (Turn.drew _ g) (by simp)).turn (Turn.alloc _ g 901 o) (by simp)
  have B3 := B2.turn hT (not_arr κ hκ.lt _ (.inl (by decide)))
  obtain ⟨vb, hvb, hA⟩ := hB.arr
  have hfi := hκ.fi
  have hsz : κ.fi < cs.size := (Array.getElem?_eq_some_iff.1 hvb).1
  obtain ⟨T4, B4⟩ := B3.store κ.fi (.slice ao (hs.length + 1) cap)
  have c1 := B3.cell κ.fi
  have hget : (cs.setIfInBounds 0 (.int .i64 (x.num : Int)))[κ.fi]? = some vb := by rw [Array.getElem?_setIfInBounds, if_neg (by omega)]; exact hvb
  have T5 := (T2.trans hT (V := [801, arrTag κ]) (by simp) (by simp)).trans T4 (V := [801, arrTag κ]) (by simp) (by simp)
  have h0 : 0 ∉ [801, arrTag κ] := by unfold arrTag; simp; omega
  have hrows : rows (hs ++ [x]) = rows hs ++ x.cells := by simp [rows]
  refine ⟨⟨vb, c1.1.trans hget⟩, c1.2, T5, ⟨B4, ⟨.slice ao (hs.length + 1) cap, ?_, ?_⟩, ?_, ?_, hB.tab.turn T5 h0⟩⟩
  · rw [Array.getElem?_setIfInBounds]; simp [hsz]
  · rw [hrows, List.length_append]; exact hO.turn T4 (arr_801 κ)
  · rw [List.length_append]; simp; omega
  · intro y hy
    rcases List.mem_append.1 hy with h | h
    · exact hB.ok y h
    · rw [List.mem_singleton.1 h]; exact ⟨hn, hx⟩
theorem keep_cells {κ : Kd} (hκ : κ.Good) {w : World} {g : Tags} {bp : Nat} {cs : Array Value} {hs : List Ent} (hB : Book κ w g bp cs hs) (n vl : Value) : ((cs.setIfInBounds 0 n).setIfInBounds κ.fi vl)[0]? = some n ∧ ∀ i, i ≠ 0 → i ≠ κ.fi → ((cs.setIfInBounds 0 n).setIfInBounds κ.fi vl)[i]? = cs[i]? := by
  obtain ⟨vb, hvb, _⟩ := hB.arr
  have hfi := hκ.fi
  have hsz : κ.fi < cs.size := (Array.getElem?_eq_some_iff.1 hvb).1
  refine ⟨?_, fun i h1 h2 => ?_⟩
  · rw [Array.getElem?_setIfInBounds, if_neg (by omega), Array.getElem?_setIfInBounds, if_pos rfl, if_pos (by omega)]
  · rw [Array.getElem?_setIfInBounds, if_neg (by omega), Array.getElem?_setIfInBounds, if_neg (by omega)]
/-- The lists of another kind are as they were. -/
theorem Book.other {κ κ' : Kd} {w w' : World} {g g' : Tags} {bp : Nat} {cs cs' : Array Value} {hs hs' : List Ent} (h : Book κ' w g bp cs hs') (k : Book κ w' g' bp cs' hs) (T : Turn w g w' g' [801, arrTag κ]) (hne : κ'.no ≠ κ.no) (h0 : κ'.fi ≠ 0) (hf : κ'.fi ≠ κ.fi) (hc : ∀ i, i ≠ 0 → i ≠ κ.fi → cs'[i]? = cs[i]?) : Book κ' w' g' bp cs' hs' := by
  obtain ⟨vb, h1, h2⟩ := h.arr
  exact ⟨k.box, ⟨vb, (hc _ h0 hf).trans h1, h2.turn T (by unfold arrTag; simp; omega)⟩, h.few, h.ok, k.tab⟩
end Go.Proofs.YtcldcigopkfmmaaGreatDoor

/- A book: the kinds of lists that it does not hold. -/
namespace Go.Proofs.YtcldcigopkfmmaaGreatDoor
open Go.RowKit Go.My

theorem fillByte_nil {w : World} {bp : Nat} {v : Value} (hv : v = .slice none 0 0) (hc : w.cell? ⟨bp, 1, none⟩ = some v) {Q : Ending → World → Prop} (h : Q (.returned (.tuple #[])) w) : Calls Tryz.prog 20 #[.pointer (some ⟨bp, 0, none⟩)] w Q := by
  subst hv
  have H := Lib.hid h
  clear h
  go_enter Tryz.func20, Tryz.ntmps20
  go_wp2
  go_loop [2] (fun i => i = .int .i64 0) (fun _ => 0)
  case atStart => rfl
  case round =>
    obtain rfl := hrel
    go_wp2
    go_end0
    exact H.out

theorem growByte_nil {w : World} {bp : Nat} {v : Value} (hv : v = .slice none 0 0) (hc : w.cell? ⟨bp, 1, none⟩ = some v) {Q : Ending → World → Prop} (h : Q (.returned (.tuple #[])) w) : Calls Tryz.prog 32 #[.pointer (some ⟨bp, 0, none⟩)] w Q := by
  subst hv
  have H := Lib.hid h
  clear h
  go_enter Tryz.func32, Tryz.ntmps32
  go_wp2
  go_loop [2] (fun i => i = .int .i64 0) (fun _ => 0)
  case atStart => rfl
  case round =>
    obtain rfl := hrel
    go_wp2
    go_end0
    exact H.out

theorem lookByte_nil {w : World} {bp : Nat} {v : Value} (hv : v = .slice none 0 0) (hc : w.cell? ⟨bp, 1, none⟩ = some v) : Calls Tryz.prog 44 #[.pointer (some ⟨bp, 0, none⟩)] w fun e w' => e = .returned (.bool true) ∧ w' = w := by
  subst hv
  go_enter Tryz.func44, Tryz.ntmps44
  go_wp2
  go_loop [3] (fun i => i = .int .i64 0) (fun _ => 0)
  case atStart => rfl
  case round =>
    obtain rfl := hrel
    go_wp2
    go_ret
    exact ⟨rfl, rfl⟩

theorem fillLimb_nil {w : World} {bp : Nat} {v : Value} (hv : v = .slice none 0 0) (hc : w.cell? ⟨bp, 2, none⟩ = some v) {Q : Ending → World → Prop} (h : Q (.returned (.tuple #[])) w) : Calls Tryz.prog 21 #[.pointer (some ⟨bp, 0, none⟩)] w Q := by
  subst hv
  have H := Lib.hid h
  clear h
  go_enter Tryz.func21, Tryz.ntmps21
  go_wp2
  go_loop [2] (fun i => i = .int .i64 0) (fun _ => 0)
  case atStart => rfl
  case round =>
    obtain rfl := hrel
    go_wp2
    go_end0
    exact H.out

theorem growLimb_nil {w : World} {bp : Nat} {v : Value} (hv : v = .slice none 0 0) (hc : w.cell? ⟨bp, 2, none⟩ = some v) {Q : Ending → World → Prop} (h : Q (.returned (.tuple #[])) w) : Calls Tryz.prog 33 #[.pointer (some ⟨bp, 0, none⟩)] w Q := by
  subst hv
  have H := Lib.hid h
  clear h
  go_enter Tryz.func33, Tryz.ntmps33
  go_wp2
  go_loop [2] (fun i => i = .int .i64 0) (fun _ => 0)
  case atStart => rfl
  case round =>
    obtain rfl := hrel
    go_wp2
    go_end0
    exact H.out

theorem lookLimb_nil {w : World} {bp : Nat} {v : Value} (hv : v = .slice none 0 0) (hc : w.cell? ⟨bp, 2, none⟩ = some v) : Calls Tryz.prog 45 #[.pointer (some ⟨bp, 0, none⟩)] w fun e w' => e = .returned (.bool true) ∧ w' = w := by
  subst hv
  go_enter Tryz.func45, Tryz.ntmps45
  go_wp2
  go_loop [3] (fun i => i = .int .i64 0) (fun _ => 0)
  case atStart => rfl
  case round =>
    obtain rfl := hrel
    go_wp2
    go_ret
    exact ⟨rfl, rfl⟩

theorem fillText_nil {w : World} {bp : Nat} {v : Value} (hv : v = .slice none 0 0) (hc : w.cell? ⟨bp, 3, none⟩ = some v) {Q : Ending → World → Prop} (h : Q (.returned (.tuple #[])) w) : Calls Tryz.prog 22 #[.pointer (some ⟨bp, 0, none⟩)] w Q := by
  subst hv
  have H := Lib.hid h
  clear h
  go_enter Tryz.func22, Tryz.ntmps22
  go_wp2
  go_loop [2] (fun i => i = .int .i64 0) (fun _ => 0)
  case atStart => rfl
  case round =>
    obtain rfl := hrel
    go_wp2
    go_end0
    exact H.out

theorem growText_nil {w : World} {bp : Nat} {v : Value} (hv : v = .slice none 0 0) (hc : w.cell? ⟨bp, 3, none⟩ = some v) {Q : Ending → World → Prop} (h : Q (.returned (.tuple #[])) w) : Calls Tryz.prog 34 #[.pointer (some ⟨bp, 0, none⟩)] w Q := by
  subst hv
  have H := Lib.hid h
  clear h
  go_enter Tryz.func34, Tryz.ntmps34
  go_wp2
  go_loop [2] (fun i => i = .int .i64 0) (fun _ => 0)
  case atStart => rfl
  case round =>
    obtain rfl := hrel
    go_wp2
    go_end0
    exact H.out

theorem lookText_nil {w : World} {bp : Nat} {v : Value} (hv : v = .slice none 0 0) (hc : w.cell? ⟨bp, 3, none⟩ = some v) : Calls Tryz.prog 46 #[.pointer (some ⟨bp, 0, none⟩)] w fun e w' => e = .returned (.bool true) ∧ w' = w := by
  subst hv
  go_enter Tryz.func46, Tryz.ntmps46
  go_wp2
  go_loop [3] (fun i => i = .int .i64 0) (fun _ => 0)
  case atStart => rfl
  case round =>
    obtain rfl := hrel
    go_wp2
    go_ret
    exact ⟨rfl, rfl⟩

theorem fillToken_nil {w : World} {bp : Nat} {v : Value} (hv : v = .slice none 0 0) (hc : w.cell? ⟨bp, 4, none⟩ = some v) {Q : Ending → World → Prop} (h : Q (.returned (.tuple #[])) w) : Calls Tryz.prog 23 #[.pointer (some ⟨bp, 0, none⟩)] w Q := by
  subst hv
  have H := Lib.hid h
  clear h
  go_enter Tryz.func23, Tryz.ntmps23
  go_wp2
  go_loop [2] (fun i => i = .int .i64 0) (fun _ => 0)
  case atStart => rfl
  case round =>
    obtain rfl := hrel
    go_wp2
    go_end0
    exact H.out

theorem growToken_nil {w : World} {bp : Nat} {v : Value} (hv : v = .slice none 0 0) (hc : w.cell? ⟨bp, 4, none⟩ = some v) {Q : Ending → World → Prop} (h : Q (.returned (.tuple #[])) w) : Calls Tryz.prog 35 #[.pointer (some ⟨bp, 0, none⟩)] w Q := by
  subst hv
  have H := Lib.hid h
  clear h
  go_enter Tryz.func35, Tryz.ntmps35
  go_wp2
  go_loop [2] (fun i => i = .int .i64 0) (fun _ => 0)
  case atStart => rfl
  case round =>
    obtain rfl := hrel
    go_wp2
    go_end0
    exact H.out

theorem lookToken_nil {w : World} {bp : Nat} {v : Value} (hv : v = .slice none 0 0) (hc : w.cell? ⟨bp, 4, none⟩ = some v) : Calls Tryz.prog 47 #[.pointer (some ⟨bp, 0, none⟩)] w fun e w' => e = .returned (.bool true) ∧ w' = w := by
  subst hv
  go_enter Tryz.func47, Tryz.ntmps47
  go_wp2
  go_loop [3] (fun i => i = .int .i64 0) (fun _ => 0)
  case atStart => rfl
  case round =>
    obtain rfl := hrel
    go_wp2
    go_ret
    exact ⟨rfl, rfl⟩

theorem fillNum_nil {w : World} {bp : Nat} {v : Value} (hv : v = .slice none 0 0) (hc : w.cell? ⟨bp, 5, none⟩ = some v) {Q : Ending → World → Prop} (h : Q (.returned (.tuple #[])) w) : Calls Tryz.prog 24 #[.pointer (some ⟨bp, 0, none⟩)] w Q := by
  subst hv
  have H := Lib.hid h
  clear h
  go_enter Tryz.func24, Tryz.ntmps24
  go_wp2
  go_loop [2] (fun i => i = .int .i64 0) (fun _ => 0)
  case atStart => rfl
  case round =>
    obtain rfl := hrel
    go_wp2
    go_end0
    exact H.out

theorem growNum_nil {w : World} {bp : Nat} {v : Value} (hv : v = .slice none 0 0) (hc : w.cell? ⟨bp, 5, none⟩ = some v) {Q : Ending → World → Prop} (h : Q (.returned (.tuple #[])) w) : Calls Tryz.prog 36 #[.pointer (some ⟨bp, 0, none⟩)] w Q := by
  subst hv
  have H := Lib.hid h
  clear h
  go_enter Tryz.func36, Tryz.ntmps36
  go_wp2
  go_loop [2] (fun i => i = .int .i64 0) (fun _ => 0)
  case atStart => rfl
  case round =>
    obtain rfl := hrel
    go_wp2
    go_end0
    exact H.out

theorem lookNum_nil {w : World} {bp : Nat} {v : Value} (hv : v = .slice none 0 0) (hc : w.cell? ⟨bp, 5, none⟩ = some v) : Calls Tryz.prog 48 #[.pointer (some ⟨bp, 0, none⟩)] w fun e w' => e = .returned (.bool true) ∧ w' = w := by
  subst hv
  go_enter Tryz.func48, Tryz.ntmps48
  go_wp2
  go_loop [3] (fun i => i = .int .i64 0) (fun _ => 0)
  case atStart => rfl
  case round =>
    obtain rfl := hrel
    go_wp2
    go_ret
    exact ⟨rfl, rfl⟩

theorem fillTerm_nil {w : World} {bp : Nat} {v : Value} (hv : v = .slice none 0 0) (hc : w.cell? ⟨bp, 6, none⟩ = some v) {Q : Ending → World → Prop} (h : Q (.returned (.tuple #[])) w) : Calls Tryz.prog 25 #[.pointer (some ⟨bp, 0, none⟩)] w Q := by
  subst hv
  have H := Lib.hid h
  clear h
  go_enter Tryz.func25, Tryz.ntmps25
  go_wp2
  go_loop [2] (fun i => i = .int .i64 0) (fun _ => 0)
  case atStart => rfl
  case round =>
    obtain rfl := hrel
    go_wp2
    go_end0
    exact H.out

theorem growTerm_nil {w : World} {bp : Nat} {v : Value} (hv : v = .slice none 0 0) (hc : w.cell? ⟨bp, 6, none⟩ = some v) {Q : Ending → World → Prop} (h : Q (.returned (.tuple #[])) w) : Calls Tryz.prog 37 #[.pointer (some ⟨bp, 0, none⟩)] w Q := by
  subst hv
  have H := Lib.hid h
  clear h
  go_enter Tryz.func37, Tryz.ntmps37
  go_wp2
  go_loop [2] (fun i => i = .int .i64 0) (fun _ => 0)
  case atStart => rfl
  case round =>
    obtain rfl := hrel
    go_wp2
    go_end0
    exact H.out

theorem lookTerm_nil {w : World} {bp : Nat} {v : Value} (hv : v = .slice none 0 0) (hc : w.cell? ⟨bp, 6, none⟩ = some v) : Calls Tryz.prog 49 #[.pointer (some ⟨bp, 0, none⟩)] w fun e w' => e = .returned (.bool true) ∧ w' = w := by
  subst hv
  go_enter Tryz.func49, Tryz.ntmps49
  go_wp2
  go_loop [3] (fun i => i = .int .i64 0) (fun _ => 0)
  case atStart => rfl
  case round =>
    obtain rfl := hrel
    go_wp2
    go_ret
    exact ⟨rfl, rfl⟩

theorem fillFactor_nil {w : World} {bp : Nat} {v : Value} (hv : v = .slice none 0 0) (hc : w.cell? ⟨bp, 7, none⟩ = some v) {Q : Ending → World → Prop} (h : Q (.returned (.tuple #[])) w) : Calls Tryz.prog 26 #[.pointer (some ⟨bp, 0, none⟩)] w Q := by
  subst hv
  have H := Lib.hid h
  clear h
  go_enter Tryz.func26, Tryz.ntmps26
  go_wp2
  go_loop [2] (fun i => i = .int .i64 0) (fun _ => 0)
  case atStart => rfl
  case round =>
    obtain rfl := hrel
    go_wp2
    go_end0
    exact H.out

theorem growFactor_nil {w : World} {bp : Nat} {v : Value} (hv : v = .slice none 0 0) (hc : w.cell? ⟨bp, 7, none⟩ = some v) {Q : Ending → World → Prop} (h : Q (.returned (.tuple #[])) w) : Calls Tryz.prog 38 #[.pointer (some ⟨bp, 0, none⟩)] w Q := by
  subst hv
  have H := Lib.hid h
  clear h
  go_enter Tryz.func38, Tryz.ntmps38
  go_wp2
  go_loop [2] (fun i => i = .int .i64 0) (fun _ => 0)
  case atStart => rfl
  case round =>
    obtain rfl := hrel
    go_wp2
    go_end0
    exact H.out

theorem lookFactor_nil {w : World} {bp : Nat} {v : Value} (hv : v = .slice none 0 0) (hc : w.cell? ⟨bp, 7, none⟩ = some v) : Calls Tryz.prog 50 #[.pointer (some ⟨bp, 0, none⟩)] w fun e w' => e = .returned (.bool true) ∧ w' = w := by
  subst hv
  go_enter Tryz.func50, Tryz.ntmps50
  go_wp2
  go_loop [3] (fun i => i = .int .i64 0) (fun _ => 0)
  case atStart => rfl
  case round =>
    obtain rfl := hrel
    go_wp2
    go_ret
    exact ⟨rfl, rfl⟩

theorem fillNode_nil {w : World} {bp : Nat} {v : Value} (hv : v = .slice none 0 0) (hc : w.cell? ⟨bp, 8, none⟩ = some v) {Q : Ending → World → Prop} (h : Q (.returned (.tuple #[])) w) : Calls Tryz.prog 27 #[.pointer (some ⟨bp, 0, none⟩)] w Q := by
  subst hv
  have H := Lib.hid h
  clear h
  go_enter Tryz.func27, Tryz.ntmps27
  go_wp2
  go_loop [2] (fun i => i = .int .i64 0) (fun _ => 0)
  case atStart => rfl
  case round =>
    obtain rfl := hrel
    go_wp2
    go_end0
    exact H.out

theorem growNode_nil {w : World} {bp : Nat} {v : Value} (hv : v = .slice none 0 0) (hc : w.cell? ⟨bp, 8, none⟩ = some v) {Q : Ending → World → Prop} (h : Q (.returned (.tuple #[])) w) : Calls Tryz.prog 39 #[.pointer (some ⟨bp, 0, none⟩)] w Q := by
  subst hv
  have H := Lib.hid h
  clear h
  go_enter Tryz.func39, Tryz.ntmps39
  go_wp2
  go_loop [2] (fun i => i = .int .i64 0) (fun _ => 0)
  case atStart => rfl
  case round =>
    obtain rfl := hrel
    go_wp2
    go_end0
    exact H.out

theorem lookNode_nil {w : World} {bp : Nat} {v : Value} (hv : v = .slice none 0 0) (hc : w.cell? ⟨bp, 8, none⟩ = some v) : Calls Tryz.prog 51 #[.pointer (some ⟨bp, 0, none⟩)] w fun e w' => e = .returned (.bool true) ∧ w' = w := by
  subst hv
  go_enter Tryz.func51, Tryz.ntmps51
  go_wp2
  go_loop [3] (fun i => i = .int .i64 0) (fun _ => 0)
  case atStart => rfl
  case round =>
    obtain rfl := hrel
    go_wp2
    go_ret
    exact ⟨rfl, rfl⟩

theorem fillFunc_nil {w : World} {bp : Nat} {v : Value} (hv : v = .slice none 0 0) (hc : w.cell? ⟨bp, 9, none⟩ = some v) {Q : Ending → World → Prop} (h : Q (.returned (.tuple #[])) w) : Calls Tryz.prog 28 #[.pointer (some ⟨bp, 0, none⟩)] w Q := by
  subst hv
  have H := Lib.hid h
  clear h
  go_enter Tryz.func28, Tryz.ntmps28
  go_wp2
  go_loop [2] (fun i => i = .int .i64 0) (fun _ => 0)
  case atStart => rfl
  case round =>
    obtain rfl := hrel
    go_wp2
    go_end0
    exact H.out

theorem growFunc_nil {w : World} {bp : Nat} {v : Value} (hv : v = .slice none 0 0) (hc : w.cell? ⟨bp, 9, none⟩ = some v) {Q : Ending → World → Prop} (h : Q (.returned (.tuple #[])) w) : Calls Tryz.prog 40 #[.pointer (some ⟨bp, 0, none⟩)] w Q := by
  subst hv
  have H := Lib.hid h
  clear h
  go_enter Tryz.func40, Tryz.ntmps40
  go_wp2
  go_loop [2] (fun i => i = .int .i64 0) (fun _ => 0)
  case atStart => rfl
  case round =>
    obtain rfl := hrel
    go_wp2
    go_end0
    exact H.out

theorem lookFunc_nil {w : World} {bp : Nat} {v : Value} (hv : v = .slice none 0 0) (hc : w.cell? ⟨bp, 9, none⟩ = some v) : Calls Tryz.prog 52 #[.pointer (some ⟨bp, 0, none⟩)] w fun e w' => e = .returned (.bool true) ∧ w' = w := by
  subst hv
  go_enter Tryz.func52, Tryz.ntmps52
  go_wp2
  go_loop [3] (fun i => i = .int .i64 0) (fun _ => 0)
  case atStart => rfl
  case round =>
    obtain rfl := hrel
    go_wp2
    go_ret
    exact ⟨rfl, rfl⟩

theorem fillValue_nil {w : World} {bp : Nat} {v : Value} (hv : v = .slice none 0 0) (hc : w.cell? ⟨bp, 10, none⟩ = some v) {Q : Ending → World → Prop} (h : Q (.returned (.tuple #[])) w) : Calls Tryz.prog 29 #[.pointer (some ⟨bp, 0, none⟩)] w Q := by
  subst hv
  have H := Lib.hid h
  clear h
  go_enter Tryz.func29, Tryz.ntmps29
  go_wp2
  go_loop [2] (fun i => i = .int .i64 0) (fun _ => 0)
  case atStart => rfl
  case round =>
    obtain rfl := hrel
    go_wp2
    go_end0
    exact H.out

theorem growValue_nil {w : World} {bp : Nat} {v : Value} (hv : v = .slice none 0 0) (hc : w.cell? ⟨bp, 10, none⟩ = some v) {Q : Ending → World → Prop} (h : Q (.returned (.tuple #[])) w) : Calls Tryz.prog 41 #[.pointer (some ⟨bp, 0, none⟩)] w Q := by
  subst hv
  have H := Lib.hid h
  clear h
  go_enter Tryz.func41, Tryz.ntmps41
  go_wp2
  go_loop [2] (fun i => i = .int .i64 0) (fun _ => 0)
  case atStart => rfl
  case round =>
    obtain rfl := hrel
    go_wp2
    go_end0
    exact H.out

theorem lookValue_nil {w : World} {bp : Nat} {v : Value} (hv : v = .slice none 0 0) (hc : w.cell? ⟨bp, 10, none⟩ = some v) : Calls Tryz.prog 53 #[.pointer (some ⟨bp, 0, none⟩)] w fun e w' => e = .returned (.bool true) ∧ w' = w := by
  subst hv
  go_enter Tryz.func53, Tryz.ntmps53
  go_wp2
  go_loop [3] (fun i => i = .int .i64 0) (fun _ => 0)
  case atStart => rfl
  case round =>
    obtain rfl := hrel
    go_wp2
    go_ret
    exact ⟨rfl, rfl⟩

theorem fillInstr_nil {w : World} {bp : Nat} {v : Value} (hv : v = .slice none 0 0) (hc : w.cell? ⟨bp, 11, none⟩ = some v) {Q : Ending → World → Prop} (h : Q (.returned (.tuple #[])) w) : Calls Tryz.prog 30 #[.pointer (some ⟨bp, 0, none⟩)] w Q := by
  subst hv
  have H := Lib.hid h
  clear h
  go_enter Tryz.func30, Tryz.ntmps30
  go_wp2
  go_loop [2] (fun i => i = .int .i64 0) (fun _ => 0)
  case atStart => rfl
  case round =>
    obtain rfl := hrel
    go_wp2
    go_end0
    exact H.out

theorem growInstr_nil {w : World} {bp : Nat} {v : Value} (hv : v = .slice none 0 0) (hc : w.cell? ⟨bp, 11, none⟩ = some v) {Q : Ending → World → Prop} (h : Q (.returned (.tuple #[])) w) : Calls Tryz.prog 42 #[.pointer (some ⟨bp, 0, none⟩)] w Q := by
  subst hv
  have H := Lib.hid h
  clear h
  go_enter Tryz.func42, Tryz.ntmps42
  go_wp2
  go_loop [2] (fun i => i = .int .i64 0) (fun _ => 0)
  case atStart => rfl
  case round =>
    obtain rfl := hrel
    go_wp2
    go_end0
    exact H.out

theorem lookInstr_nil {w : World} {bp : Nat} {v : Value} (hv : v = .slice none 0 0) (hc : w.cell? ⟨bp, 11, none⟩ = some v) : Calls Tryz.prog 54 #[.pointer (some ⟨bp, 0, none⟩)] w fun e w' => e = .returned (.bool true) ∧ w' = w := by
  subst hv
  go_enter Tryz.func54, Tryz.ntmps54
  go_wp2
  go_loop [3] (fun i => i = .int .i64 0) (fun _ => 0)
  case atStart => rfl
  case round =>
    obtain rfl := hrel
    go_wp2
    go_ret
    exact ⟨rfl, rfl⟩

theorem fillChunk_nil {w : World} {bp : Nat} {v : Value} (hv : v = .slice none 0 0) (hc : w.cell? ⟨bp, 12, none⟩ = some v) {Q : Ending → World → Prop} (h : Q (.returned (.tuple #[])) w) : Calls Tryz.prog 31 #[.pointer (some ⟨bp, 0, none⟩)] w Q := by
  subst hv
  have H := Lib.hid h
  clear h
  go_enter Tryz.func31, Tryz.ntmps31
  go_wp2
  go_loop [2] (fun i => i = .int .i64 0) (fun _ => 0)
  case atStart => rfl
  case round =>
    obtain rfl := hrel
    go_wp2
    go_end0
    exact H.out

theorem growChunk_nil {w : World} {bp : Nat} {v : Value} (hv : v = .slice none 0 0) (hc : w.cell? ⟨bp, 12, none⟩ = some v) {Q : Ending → World → Prop} (h : Q (.returned (.tuple #[])) w) : Calls Tryz.prog 43 #[.pointer (some ⟨bp, 0, none⟩)] w Q := by
  subst hv
  have H := Lib.hid h
  clear h
  go_enter Tryz.func43, Tryz.ntmps43
  go_wp2
  go_loop [2] (fun i => i = .int .i64 0) (fun _ => 0)
  case atStart => rfl
  case round =>
    obtain rfl := hrel
    go_wp2
    go_end0
    exact H.out

theorem lookChunk_nil {w : World} {bp : Nat} {v : Value} (hv : v = .slice none 0 0) (hc : w.cell? ⟨bp, 12, none⟩ = some v) : Calls Tryz.prog 55 #[.pointer (some ⟨bp, 0, none⟩)] w fun e w' => e = .returned (.bool true) ∧ w' = w := by
  subst hv
  go_enter Tryz.func55, Tryz.ntmps55
  go_wp2
  go_loop [3] (fun i => i = .int .i64 0) (fun _ => 0)
  case atStart => rfl
  case round =>
    obtain rfl := hrel
    go_wp2
    go_ret
    exact ⟨rfl, rfl⟩

end Go.Proofs.YtcldcigopkfmmaaGreatDoor

/- Nodes in new memory: one is appended that is nothing yet, then written. No program in sight. -/
namespace Go.My
open Go.RowKit Go.Nd

def zero5 : List Value := [.int .u8 0, .string ⟨#[]⟩, .slice none 0 0, .slice none 0 0, .slice none 0 0]
/-- All blocks of the lists in nodes. -/
def inner (els : List El) (f1 f2 f3 : Nat → List Nat) : List Nat := (List.range els.length).flatMap fun j => f1 j ++ (f2 j ++ f3 j)

/-- The nodes of l, and behind them one that is nothing yet. -/
def Hole (w : World) (T : TypeId) (lo hi : Nat) (l : List Nd) (b off cap : Nat) : Prop :=
  ∃ (els : List El) (f1 f2 f3 : Nat → List Nat), els.length = (Ns.of l).items.length ∧
    (∀ j (h : j < els.length) (h' : j < (Ns.of l).items.length), (els[j].kind = (Ns.of l).items[j].kind ∧ (Ns.of l).items[j].kind < 256) ∧ els[j].text = (Ns.of l).items[j].text ∧ (Ns.of l).items[j].text.length ≤ 140737488351232) ∧
    (∀ j (h : j < els.length) (h' : j < (Ns.of l).items.length), LF w T (f1 j) els[j].v1 (Ns.of l).items[j].l) ∧ (∀ j (h : j < els.length) (h' : j < (Ns.of l).items.length), LF w T (f2 j) els[j].v2 (Ns.of l).items[j].body) ∧
    (∀ j (h : j < els.length) (h' : j < (Ns.of l).items.length), LF w T (f3 j) els[j].v3 (Ns.of l).items[j].els) ∧
    Own w T 5 (.slice (some ⟨b, off, none⟩) (l.length + 1) cap) (l.length + 1) (elCells els ++ zero5) (some b) ∧ InR lo hi (inner els f1 f2 f3) ∧ b ∉ inner els f1 f2 f3 ∧ lo ≤ b ∧ (l.length + 1) * 96 ≤ 140737488351232

theorem Hole.frame {w w' : World} {T : TypeId} {lo hi : Nat} {l : List Nd} {b off cap : Nat} (h : Hole w T lo hi l b off cap) (hs : ∀ k, (lo ≤ k ∧ k < hi) ∨ k = b → w'.heap[k]? = w.heap[k]?) : Hole w' T lo hi l b off cap := by
  obtain ⟨els, f1, f2, f3, he, hk, g1, g2, g3, ho, hr, hb, hlo, hn⟩ := h
  have mem : ∀ j, j < els.length → ∀ k, k ∈ f1 j ++ (f2 j ++ f3 j) → w'.heap[k]? = w.heap[k]? := fun j hj k hk => hs k (.inl (hr.2 k (List.mem_flatMap.2 ⟨j, List.mem_range.2 hj, hk⟩)))
  exact ⟨els, f1, f2, f3, he, hk, fun j h h' => (g1 j h h').frame fun k hk => mem j h k (List.mem_append_left _ hk), fun j h h' => (g2 j h h').frame fun k hk => mem j h k (List.mem_append_right _ (List.mem_append_left _ hk)),
    fun j h h' => (g3 j h h').frame fun k hk => mem j h k (List.mem_append_right _ (List.mem_append_right _ hk)), ho.frame fun k hk => hs k (.inr (by cases hk; rfl)), hr, hb, hlo, hn⟩

theorem hole_mk {w : World} {T : TypeId} {lo hi : Nat} {v : Value} {l : List Nd} (h : LR w T lo hi v (Ns.of l)) (hn : (l.length + 1) * 96 ≤ 140737488351232) (h1 : lo ≤ hi) (h2 : hi ≤ w.heap.size) :
    ∃ xs k, Own w T 5 v l.length xs k ∧ (∀ b, k = some b → lo ≤ b ∧ b < hi) ∧ ∀ w' v' k', Own w' T 5 v' (l.length + 1) (xs ++ zero5) k' → Step w w' k → (k' = k ∨ ∃ j, k' = some j ∧ w.heap.size ≤ j) → ∃ b off cap, v' = .slice (some ⟨b, off, none⟩) (l.length + 1) cap ∧ Hole w' T lo hi l b off cap ∧ (b < hi ∨ w.heap.size ≤ b) := by
  obtain ⟨F, hF, hr⟩ := h
  cases hF with
  | @mk _ _ els k f1 f2 f3 ho hn' he hk g1 g2 g3 =>
    rw [Ns.len_of] at ho
    have hk1 : ∀ b, k = some b → lo ≤ b ∧ b < hi := fun b hb => hr.2 b (by subst hb; simp)
    refine ⟨elCells els, k, ho, hk1, fun w' v' k' ho' st hk' => ?_⟩
    have hkC : ∀ b, k = some b → b ∉ inner els f1 f2 f3 := fun b hb hm => by
      subst hb
      exact (List.nodup_append.1 hr.1).2.2 b (by simp) b hm rfl
    have hC : InR lo hi (inner els f1 f2 f3) := ⟨(List.nodup_append.1 hr.1).2.1, fun b hb => hr.2 b (List.mem_append_right _ hb)⟩
    have same : ∀ b ∈ inner els f1 f2 f3, w'.heap[b]? = w.heap[b]? := fun b hb => st.block b (by have := (hC.2 b hb).2; omega) fun hbk => hkC b hbk.symm hb
    have mem : ∀ j, j < els.length → ∀ k, k ∈ f1 j ++ (f2 j ++ f3 j) → w'.heap[k]? = w.heap[k]? := fun j hj k hk => same k (List.mem_flatMap.2 ⟨j, List.mem_range.2 hj, hk⟩)
    obtain ⟨q1, q2⟩ := ho'
    rcases q2 with ⟨_, e, _⟩ | ⟨b, off, cap, cur, rfl, rfl, hh⟩
    · exact absurd e (Nat.succ_ne_zero _)
    · refine ⟨b, off, cap, rfl, ⟨els, f1, f2, f3, he, hk, fun j h h' => (g1 j h h').frame fun k hk => mem j h k (List.mem_append_left _ hk), fun j h h' => (g2 j h h').frame fun k hk => mem j h k (List.mem_append_right _ (List.mem_append_left _ hk)),
        fun j h h' => (g3 j h h').frame fun k hk => mem j h k (List.mem_append_right _ (List.mem_append_right _ hk)), ⟨q1, .inr ⟨b, off, cap, cur, rfl, rfl, hh⟩⟩, hC, ?_, ?_, hn⟩, ?_⟩
      · rcases hk' with rfl | ⟨j, hj, hj2⟩
        · exact hkC b rfl
        · cases hj; intro hm; have := (hC.2 b hm).2; omega
      · rcases hk' with rfl | ⟨j, hj, hj2⟩
        · exact (hk1 b rfl).1
        · cases hj; omega
      · rcases hk' with rfl | ⟨j, hj, hj2⟩
        · exact .inl (hk1 b rfl).2
        · cases hj; exact .inr hj2

theorem Own.set {w : World} {e : TypeId} {size b off n cap : Nat} {xs : List Value} (h : Own w e size (.slice (some ⟨b, off, none⟩) n cap) n xs (some b)) (j : Nat) (hj : j < n * size) (u : Value) :
    Own (w.setCell ⟨b, off + j, none⟩ u) e size (.slice (some ⟨b, off, none⟩) n cap) n (xs.set j u) (some b) := by
  rcases h.2 with ⟨hv, _⟩ | ⟨b', off', cap', cur, hv, hg, hh, h3, h4, h5, h6⟩
  · cases hv
  · cases hv
    refine ⟨by rw [List.length_set]; exact h.1, .inr ⟨b, off, cap, _, rfl, rfl, oneCell_set u hh, h3, h4, by simpa using h5, ?_⟩⟩
    have h7 : n * size ≤ cap * size := Nat.mul_le_mul_right _ h3
    rw [← h6, Array.toList_setIfInBounds]
    exact drop_set_take _ _ _ _ _ hj (by rw [Array.length_toList]; omega)

/-- The cells of the one that is nothing yet. -/
theorem Hole.cells {w : World} {T : TypeId} {lo hi : Nat} {l : List Nd} {b off cap : Nat} (h : Hole w T lo hi l b off cap) : ∀ j, j < 5 → w.cell? ⟨b, off + l.length * 5 + j, none⟩ = zero5[j]? ∧ w.frozen? ⟨b, off + l.length * 5 + j, none⟩ = false := by
  obtain ⟨els, f1, f2, f3, he, hk, g1, g2, g3, ho, hr, hb, hlo, hn⟩ := h
  intro j hj
  rcases ho.2 with ⟨hv, _⟩ | ⟨b', off', cap', cur, hv, hg, hh, h3, h4, h5, h6⟩
  · cases hv
  · cases hv
    have hl : els.length = l.length := by rw [he, Ns.items_of]
    have hlt : l.length * 5 + j < (l.length + 1) * 5 := by omega
    refine ⟨?_, frozen_of_row w b _ cur _ hh⟩
    rw [cell_of_row w b _ cur T (0, 0) hh]
    have : (elCells els ++ zero5)[l.length * 5 + j]? = zero5[j]? := by rw [List.getElem?_append_right (by rw [elCells_length, hl]; omega), elCells_length, hl]; congr 1; omega
    rw [← this, ← h6, List.getElem?_take, List.getElem?_drop, if_pos hlt]
    simp [Nat.add_assoc]

theorem Hole.lo {w : World} {T : TypeId} {lo hi : Nat} {l : List Nd} {b off cap : Nat} (h : Hole w T lo hi l b off cap) : lo ≤ b ∧ b < w.heap.size := by
  obtain ⟨els, f1, f2, f3, he, hk, g1, g2, g3, ho, hr, hb, hlo, hn⟩ := h
  exact ⟨hlo, ho.lt b rfl⟩
theorem Hole.five {w : World} {T : TypeId} {lo hi : Nat} {l : List Nd} {b off cap : Nat} (h : Hole w T lo hi l b off cap) :
    (w.cell? ⟨b, off + l.length * 5, none⟩ = some (.int .u8 0) ∧ w.cell? ⟨b, off + l.length * 5 + 1, none⟩ = some (.string ⟨#[]⟩) ∧ w.cell? ⟨b, off + l.length * 5 + 2, none⟩ = some (.slice none 0 0) ∧ w.cell? ⟨b, off + l.length * 5 + 3, none⟩ = some (.slice none 0 0) ∧ w.cell? ⟨b, off + l.length * 5 + 4, none⟩ = some (.slice none 0 0)) ∧
    w.frozen? ⟨b, off + l.length * 5, none⟩ = false ∧ w.frozen? ⟨b, off + l.length * 5 + 1, none⟩ = false ∧ w.frozen? ⟨b, off + l.length * 5 + 2, none⟩ = false ∧ w.frozen? ⟨b, off + l.length * 5 + 3, none⟩ = false ∧ w.frozen? ⟨b, off + l.length * 5 + 4, none⟩ = false :=
  ⟨⟨(h.cells 0 (by decide)).1, (h.cells 1 (by decide)).1, (h.cells 2 (by decide)).1, (h.cells 3 (by decide)).1, (h.cells 4 (by decide)).1⟩, (h.cells 0 (by decide)).2, (h.cells 1 (by decide)).2, (h.cells 2 (by decide)).2, (h.cells 3 (by decide)).2, (h.cells 4 (by decide)).2⟩

theorem set5 (a : List Value) (n : Nat) (ha : a.length = n * 5) (z0 z1 z2 z3 z4 u0 u1 u2 u3 u4 : Value) :
    (((((a ++ [z0, z1, z2, z3, z4]).set (n * 5) u0).set (n * 5 + 1) u1).set (n * 5 + 2) u2).set (n * 5 + 3) u3).set (n * 5 + 4) u4 = a ++ [u0, u1, u2, u3, u4] := by
  rw [List.set_append_right _ _ (by omega), List.set_append_right _ _ (by omega), List.set_append_right _ _ (by omega), List.set_append_right _ _ (by omega), List.set_append_right _ _ (by omega)]
  have e : ∀ j, n * 5 + j - a.length = j := fun j => by omega
  have e0 : n * 5 - a.length = 0 := by omega
  rw [e, e, e, e, e0]
  rfl

/-- It is written. -/
theorem Hole.fill {w : World} {T : TypeId} {lo hi : Nat} {l : List Nd} {b off cap : Nat} {u0 u1 u2 u3 u4 : Value} {x : Nd} (h : Hole w T lo hi l b off cap) (hN : NS w T (fun k => hi ≤ k ∧ k ≠ b) (.agg #[u0, u1, u2, u3, u4]) x) (hlh : lo ≤ hi) :
    LR (((((w.setCell ⟨b, off + l.length * 5, none⟩ u0).setCell ⟨b, off + l.length * 5 + 1, none⟩ u1).setCell ⟨b, off + l.length * 5 + 2, none⟩ u2).setCell ⟨b, off + l.length * 5 + 3, none⟩ u3).setCell ⟨b, off + l.length * 5 + 4, none⟩ u4) T lo w.heap.size (.slice (some ⟨b, off, none⟩) (l.length + 1) cap) (Ns.of (l ++ [x])) := by
  obtain ⟨els, f1, f2, f3, he, hk, g1, g2, g3, ho, hr, hb, hlo, hn⟩ := h
  obtain ⟨e, G, h0, hG, hnd, hS⟩ := hN
  simp only [Value.agg.injEq, Array.mk.injEq, List.cons.injEq, and_true] at h0
  obtain ⟨rfl, rfl, rfl, rfl, rfl⟩ := h0
  have hl : els.length = l.length := by rw [he, Ns.items_of]
  have o0 := ho.set (l.length * 5) (by omega) (.int .u8 (e.kind : Int))
  have o1 := o0.set (l.length * 5 + 1) (by omega) (.string (tx e.text))
  have o2 := o1.set (l.length * 5 + 2) (by omega) e.v1
  have o3 := o2.set (l.length * 5 + 3) (by omega) e.v2
  have o4 := o3.set (l.length * 5 + 4) (by omega) e.v3
  unfold zero5 at o4
  rw [set5 _ _ (by rw [elCells_length, hl])] at o4
  simp only [← Nat.add_assoc] at o4
  have oth : ∀ k, k ≠ b → (((((w.setCell ⟨b, off + l.length * 5, none⟩ (.int .u8 (e.kind : Int))).setCell ⟨b, off + l.length * 5 + 1, none⟩ (.string (tx e.text))).setCell ⟨b, off + l.length * 5 + 2, none⟩ e.v1).setCell ⟨b, off + l.length * 5 + 3, none⟩ e.v2).setCell ⟨b, off + l.length * 5 + 4, none⟩ e.v3).heap[k]? = w.heap[k]? := by
    intro k hk
    have s : ∀ (w : World) (o : Nat) (u : Value), (w.setCell ⟨b, o, none⟩ u).heap[k]? = w.heap[k]? := fun w o u => Below.heap_setCell w ⟨b, o, none⟩ u k (by simpa using hk)
    rw [s, s, s, s, s]
  have main := LF.snoc (w' := (((((w.setCell ⟨b, off + l.length * 5, none⟩ (.int .u8 (e.kind : Int))).setCell ⟨b, off + l.length * 5 + 1, none⟩ (.string (tx e.text))).setCell ⟨b, off + l.length * 5 + 2, none⟩ e.v1).setCell ⟨b, off + l.length * 5 + 3, none⟩ e.v2).setCell ⟨b, off + l.length * 5 + 4, none⟩ e.v3)) (v' := .slice (some ⟨b, off, none⟩) (l.length + 1) cap) (ys := Ns.of (l ++ [x])) (k' := some b) he hk g1 g2 g3
    (hG.frame fun k hk => oth k (hS k hk).2) (by rw [Ns.items_of, Ns.items_of]) (by rw [Ns.len_of]; exact hn) (fun k hk => oth k fun e => hb (by rw [← e]; exact hk)) (by rw [Ns.len_of, elCells_append, elCells_one]; exact o4)
  refine ⟨_, main, ?_⟩
  have hbl : b < w.heap.size := ho.lt b rfl
  have hGl := hG.lt
  refine ⟨List.nodup_append.2 ⟨by simp, List.nodup_append.2 ⟨hr.1, hnd, fun a ha c hc e => ?_⟩, fun a ha c hc e => ?_⟩, fun k hk => ?_⟩
  · subst e; have := (hr.2 a ha).2; have := (hS a hc).1; omega
  · simp at ha; subst ha; subst e
    rcases List.mem_append.1 hc with hc | hc
    · exact hb hc
    · exact (hS _ hc).2 rfl
  · rcases List.mem_append.1 hk with hk | hk
    · simp at hk; omega
    · rcases List.mem_append.1 hk with hk | hk
      · have h3 := hr.2 k hk
        have h4 : k < w.heap.size := by
          obtain ⟨j, hj, hkj⟩ := List.mem_flatMap.1 hk
          have hj' := List.mem_range.1 hj
          rcases List.mem_append.1 hkj with q | q
          · exact (g1 j hj' (he ▸ hj')).lt k q
          · rcases List.mem_append.1 q with q | q
            · exact (g2 j hj' (he ▸ hj')).lt k q
            · exact (g3 j hj' (he ▸ hj')).lt k q
        omega
      · have := (hS k hk).1; have := hGl k hk; omega
end Go.My

/- Trees: the reader: the deferred closure that catches the panic. -/
namespace Go.Proofs.YtcldcigopkfmmaaGreatDoor
open Go.RowKit Go.My Go.Nd

set_option maxRecDepth 100000 in
theorem catch_idle (a b : Addr) (w : World) :
    CallsD Tryz.prog 96 #[.pointer (some a), .pointer (some b)] .returning w fun e u' w' => e = .returned (.tuple #[]) ∧ u' = .returning ∧ w' = w := by
  refine callsD_of_wpS Tryz.func96 rfl fun c₀ cs hu => ?_
  apply wpS_seq
  apply wpS_region
  simp [wpOpsS, go_sem, recoverD, hu, Tryz.ntmps96, Exit.thenS]
  apply wpS_seq
  apply wpS_region
  simp [wpOpsS, go_sem, recoverD, hu, Exit.thenS]
  refine wpS_cond (t := false) (by simp [Act.eval]) ?_
  simp only [Bool.false_eq_true, if_false]
  refine wpS_of_wp (wp_skip ?_)
  cases c₀
  simp_all [bodyPostS, results, Tryz.results96]

set_option maxRecDepth 100000 in
theorem catch_wrong (a b : Nat) (w : World) {v0 v1 u : Value} (h : w.heap[a]? = some (.cells #[v0, v1] 47 (0, 0))) (h2 : w.heap[b]? = some (.cells #[u] 4 (0, 0))) (hne : a ≠ b) :
    CallsD Tryz.prog 96 #[.pointer (some ⟨a, 0, none⟩), .pointer (some ⟨b, 0, none⟩)] (.panicking wrongChain) w fun e u' w' =>
      e = .returned (.tuple #[]) ∧ u' = .panicking [{ v := .iface 163 (.agg #[]), recovered := true }] ∧ w' = ((w.setCell ⟨a, 0, none⟩ (.slice none 0 0)).setCell ⟨a, 1, none⟩ (.slice none 0 0)).setCell ⟨b, 0, none⟩ (.bool false) := by
  have c0 := cell_of_row w a 0 _ _ _ h
  have c1 := cell_of_row w a 1 _ _ _ h
  have f0 := frozen_of_row w a 0 _ _ h
  have f1 := frozen_of_row w a 1 _ _ h
  have d0 := cell_of_row w b 0 _ _ _ h2
  have g0 := frozen_of_row w b 0 _ _ h2
  simp at c0 c1 d0
  refine callsD_of_wpS Tryz.func96 rfl fun c₀ cs hu => ?_
  unfold wrongChain at hu
  apply wpS_seq
  apply wpS_region
  simp [wpOpsS, go_sem, recoverD, hu, Tryz.ntmps96, Exit.thenS]
  apply wpS_seq
  apply wpS_region
  simp [wpOpsS, go_sem, recoverD, Exit.thenS]
  refine wpS_cond (t := true) (by simp [Act.eval]) ?_
  simp only [if_true]
  apply wpS_seq
  apply wpS_region
  simp [wpOpsS, go_sem, Exit.thenS]
  apply wpS_region
  simp [wpOpsS, go_sem, c0, c1, f0, f1, d0, g0]
  simp [bodyPostS, results, Tryz.results96]
end Go.Proofs.YtcldcigopkfmmaaGreatDoor
