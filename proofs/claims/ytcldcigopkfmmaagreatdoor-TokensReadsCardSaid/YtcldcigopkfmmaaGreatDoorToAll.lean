/- Tokens: the iterator. -/
import Derived.Test.YtcldcigopkfmmaaGreatDoorToSil
import Derived.Test.YtcldcigopkfmmaaGreatDoorToKinds
import Derived.Test.YtcldcigopkfmmaaGreatDoorToIt
import Derived.StillTailTactics
import Derived.BigRegion
import Derived.IntWalk
import Derived.ChangeAlike
namespace Go.To
theorem number_le (l : List UInt8) : number l ≤ l.length := run_le _ _
theorem step_tok {s l0 : List UInt8} {k p : Nat} (A : List T × Option Nat) (hl : l0 = s.drop p) (hne : l0 ≠ []) (h0 : (tok l0).1 ≠ 0) (hsc : scan' p (s.drop p) = (A.1.drop k, A.2)) :
    ∃ hk : k < A.1.length, A.1[k] = ⟨(tok l0).1, l0.take (tok l0).2, p⟩ ∧ scan' (p + (tok l0).2 + sil false (l0.drop (tok l0).2)) (s.drop (p + (tok l0).2 + sil false (l0.drop (tok l0).2))) = (A.1.drop (k + 1), A.2) := by
  rw [← hl, scan'_tok p l0 hne h0] at hsc
  have e1 : ((l0.drop (tok l0).2).drop (sil false (l0.drop (tok l0).2))) = s.drop (p + (tok l0).2 + sil false (l0.drop (tok l0).2)) := by
    generalize sil false (l0.drop (tok l0).2) = q
    rw [hl, List.drop_drop, List.drop_drop]; congr 1; omega
  rw [e1] at hsc
  generalize scan' (p + (tok l0).2 + sil false (l0.drop (tok l0).2)) (s.drop (p + (tok l0).2 + sil false (l0.drop (tok l0).2))) = B at hsc
  simp only [Prod.mk.injEq] at hsc
  have hk : k < A.1.length := by
    have h := congrArg List.length hsc.1
    rw [List.length_drop, List.length_cons] at h
    omega
  have h := List.drop_eq_getElem_cons hk
  rw [← hsc.1] at h
  exact ⟨hk, (List.cons.inj h).1.symm, Prod.ext (List.cons.inj h).2 hsc.2⟩
theorem step_bad {s l0 : List UInt8} {k p : Nat} (A : List T × Option Nat) (hl : l0 = s.drop p) (hne : l0 ≠ []) (h0 : (tok l0).1 = 0) (hk : k ≤ A.1.length) (hsc : scan' p (s.drop p) = (A.1.drop k, A.2)) :
    k = A.1.length ∧ A.2 = some p := by
  rw [← hl, scan'_bad p l0 hne h0] at hsc
  simp only [Prod.mk.injEq] at hsc
  have h := congrArg List.length hsc.1
  rw [List.length_drop, List.length_nil] at h
  exact ⟨by omega, hsc.2.symm⟩
end Go.To
namespace Go.Proofs.YtcldcigopkfmmaaGreatDoor
open Go.RowKit Go.My

/-- A token, as a value; its cells. -/
def tokVal (x : To.T) : Value := .agg #[.int .u8 (x.kind : Int), .string (bs x.text), .int .i64 (x.pos : Int)]

/-- A token's cells. -/
def tokCells (x : To.T) : Array Value := #[.int .u8 (x.kind : Int), .string (bs x.text), .int .i64 (x.pos : Int)]

/-- What stands while a token is looked for. -/
structure TkAt (J : Nat → World → Tags → Prop) (s : List UInt8) (sb tb k : Nat) (x : To.T) (wr : World) (gr : Tags) : Prop where
  j : J k wr gr
  box : Box1 wr gr sb 9 501 #[.string (bs s)]
  tok : Box1 wr gr tb 55 500 (tokCells x)

theorem TkAt.turn0 {J : Nat → World → Tags → Prop} {s : List UInt8} {sb tb k : Nat} {x : To.T} {w w' : World} {g g' : Tags} (h : TkAt J s sb tb k x w g) (hJ : ∀ k W g W' g', J k W g → Turn W g W' g' [500] → J k W' g') (T : Turn w g w' g' []) : TkAt J s sb tb k x w' g' :=
  ⟨hJ _ _ _ _ _ h.j (T.mono (by simp)), h.box.turn T (by simp), h.tok.turn T (by simp)⟩

theorem tk_set {J : Nat → World → Tags → Prop} {s : List UInt8} {sb tb k p : Nat} {w : World} {g : Tags} (h : TkAt J s sb tb k ⟨0, [], p⟩ w g) (hJ : ∀ k W g W' g', J k W g → Turn W g W' g' [500] → J k W' g') (kd : Nat) (text : List UInt8) :
    TkAt J s sb tb k ⟨kd, text, p⟩ ((w.setCell ⟨tb, 0, none⟩ (.int .u8 (kd : Int))).setCell ⟨tb, 1, none⟩ (.string (bs text))).drew g := by
  obtain ⟨T1, B1⟩ := h.tok.store 0 (.int .u8 (kd : Int))
  obtain ⟨T2, B2⟩ := B1.store 1 (.string (bs text))
  have T := (T1.trans T2 (V := [500]) (by simp) (by simp)).trans (Turn.drew _ g) (V := [500]) (by simp) (by simp)
  refine ⟨hJ _ _ _ _ _ h.j T, h.box.turn T (by simp), ?_⟩
  exact B2.turn (Turn.drew _ g) (by simp)

theorem sign_b {w : World} (l : List UInt8) (hl : l.length ≤ 9223372036854775807) {Q : Ending → World → Prop} (h : ∀ w', Below w.heap.size w w' → Q (.returned (.int .i64 (To.sign l : Nat))) w') :
    Calls Tryz.prog 124 #[.string (bs l)] w Q := sign_t l hl (h w (Below.refl _ _))

theorem sl_pn (s l0 : List UInt8) (p n : Nat) (hl : l0 = s.drop p) (hn : p + n ≤ s.length) :
    ∀ wx, (Instr.slice 9 (.string (bs s)) (some (.int .i64 (p : Int))) (some (.int .i64 ((p : Int) + (n : Int)))) none).run Tryz.prog wx = .ok (.string (bs (l0.take n))) wx := by
  intro wx
  have hs := bs_size s
  rw [run_slice_string_if wx 9 (bs s) .i64 .i64 (p : Int) ((p : Int) + (n : Int)) Tryz.underlying9, if_pos ⟨by omega, by omega⟩, if_pos ⟨by omega, by omega⟩]
  have e : ((p : Int) + (n : Int)).toNat = p + n := by omega
  rw [e, Int.toNat_natCast, bs_cut, hl, Nat.add_sub_cancel_left]

/-- Before the j-th kind is tried. -/
def KindAt (J : Nat → World → Tags → Prop) (s : List UInt8) (sb tb k p : Nat) (l : List UInt8) (gk : Nat) (vj : Value) (wr : World) : Prop :=
  ∃ (j : Nat) (gr : Tags), j ≤ 3 ∧ gk = 3 - j ∧ vj = .int .i64 (j : Int) ∧ (1 ≤ j → To.word l = 0) ∧ (2 ≤ j → To.number l = 0) ∧ (3 ≤ j → To.sign l = 0) ∧ TkAt J s sb tb k ⟨0, [], p⟩ wr gr

/-- The token is found, or there is none. -/
def FoundAt (J : Nat → World → Tags → Prop) (s : List UInt8) (sb tb k p : Nat) (l : List UInt8) (wr : World) : Prop :=
  ∃ gr : Tags, TkAt J s sb tb k (if (To.tok l).1 = 0 then ⟨0, [], p⟩ else ⟨(To.tok l).1, l.take (To.tok l).2, p⟩) wr gr

theorem found_at {J : Nat → World → Tags → Prop} {s : List UInt8} {sb tb k p kd n : Nat} {l : List UInt8} {wr : World} {gr : Tags} (ht : To.tok l = (kd + 1 - 1, n)) (h : TkAt J s sb tb k ⟨kd, l.take n, p⟩ wr gr) (hk : kd ≠ 0 := by decide) : FoundAt J s sb tb k p l wr := by
  refine ⟨gr, ?_⟩
  rw [Nat.add_sub_cancel] at ht
  rw [ht, if_neg hk]
  exact h

/-- At the head of a round. -/
def ItAt (J : Nat → World → Tags → Prop) (s : List UInt8) (sb gk : Nat) (vp : Value) (wr : World) : Prop :=
  ∃ (k p : Nat) (gr : Tags), p ≤ s.length ∧ gk = s.length - p ∧ vp = .int .i64 (p : Int) ∧ To.scan' p (s.drop p) = ((To.all s).1.drop k, (To.all s).2) ∧ k ≤ (To.all s).1.length ∧ J k wr gr ∧ Box1 wr gr sb 9 501 #[.string (bs s)]

theorem ycells (x : To.T) : tokVal x = .agg #[.int .u8 (x.kind : Int), .string (bs x.text), .int .i64 (x.pos : Int)] := rfl

set_option maxRecDepth 100000 in
set_option maxHeartbeats 8000000 in
theorem all1_t {w : World} {g : Tags} (s : List UInt8) (hs : s.length ≤ 1000000) {sb : Nat} (hbox : Box1 w g sb 9 501 #[.string (bs s)]) (l : Nat) (J : Nat → World → Tags → Prop) (Jx R : World → Prop) (TB : List Nat) (h5 : 500 ∉ TB ∧ 501 ∉ TB)
    (hJ : ∀ k W g W' g', J k W g → Turn W g W' g' [500] → J k W' g')
    (hY : ∀ k W g (hk : k < (To.all s).1.length), J k W g → YieldsTo Tryz.prog l #[tokVal (To.all s).1[k]] W fun e W' => ∃ g', e = .returned (.bool true) ∧ J (k + 1) W' g' ∧ Turn W g W' g' TB)
    (hX : ∀ p W g, (To.all s).2 = some p → J (To.all s).1.length W g → YieldsTo Tryz.prog l #[tokVal ⟨0, [], p⟩] W fun e W' => e = .returned (.bool false) ∧ Jx W')
    (h0 : J 0 w g) (hend : ∀ W g, (To.all s).2 = none → J (To.all s).1.length W g → R W) (hstop : ∀ p W, (To.all s).2 = some p → Jx W → R W) :
    Calls Tryz.prog 66 #[.func (.yield l) #[] #[], .pointer (some ⟨sb, 0, none⟩)] w fun e w' => (∃ v, e = .returned v) ∧ R w' := by
  have HJ := Lib.hid (And.intro hJ (And.intro hY (And.intro hX (And.intro hend hstop))))
  have H0 := Lib.hid (And.intro h0 hbox)
  have hs1 := bs_size s
  have hs2 : (s.length : Int) ≤ 1000000 := by omega
  have c0 : w.cell? ⟨sb, 0, none⟩ = some (.string (bs s)) := (hbox.cell 0).1
  clear hJ hY hX hend hstop h0 hbox
  go_enter Tryz.func66, Tryz.ntmps66
  go_wp2_with fail
  refine silence_t s (by omega) fun w1 hB => ?_
  have X1 := Lib.hid (show ItAt J s sb (s.length - To.sil false s) (.int .i64 (To.sil false s : Int)) w1 from
    ⟨0, To.sil false s, g.ext w.heap.size 500, To.sil_le s false, rfl, rfl, by rw [← To.all_scan']; rfl, Nat.zero_le _, HJ.out.1 _ _ _ _ _ H0.out.1 ((Turn.of_below hB g 500).mono (by simp)), H0.out.2.turn (Turn.of_below hB g 500) (by simp)⟩)
  clear hB c0
  go_wp2_with fail
  go_loopg [3] (s.length - To.sil false s) (fun gk vp wr => ItAt J s sb gk vp wr)
  case atStart => exact X1.out
  case round =>
    obtain ⟨k, p, gr, hp, rfl, rfl, hsc, hk, hj, hbx⟩ := hrel
    have HX := Lib.hid (And.intro hsc (And.intro hk (And.intro hj hbx)))
    have p0 : (0 : Int) ≤ (p : Int) := by omega
    have c0 : wr.cell? ⟨sb, 0, none⟩ = some (.string (bs s)) := (hbx.cell 0).1
    clear hsc hk hj hbx X1 H0
    by_cases hlt : p < s.length
    · have hpi : (p : Int) < (s.length : Int) := by omega
      obtain ⟨tb, htb⟩ : ∃ tb, tb = wr.heap.size := ⟨_, rfl⟩
      have T0 := Turn.alloc wr gr 500 (.cells #[.int .u8 0, .string ⟨#[]⟩, .int .i64 (p : Int)] 55)
      have K0 := Lib.hid (show TkAt J s sb tb k ⟨0, [], p⟩ (wr.alloc (.cells #[.int .u8 0, .string ⟨#[]⟩, .int .i64 (p : Int)] 55)) (gr.ext wr.heap.size 500) from ⟨HJ.out.1 _ _ _ _ _ HX.out.2.2.1 (T0.mono (by simp)), HX.out.2.2.2.turn T0 (by simp), by rw [htb]; exact Box1.alloc wr gr _ 500 _⟩)
      clear T0
      go_wp2_with fail
      rw [← htb] at K0 ⊢
      clear htb
      refine kinds_t fun w2 hB => ?_
      have K2 := Lib.hid (show TkAt J s sb tb k ⟨0, [], p⟩ w2 _ from ⟨HJ.out.1 _ _ _ _ _ K0.out.j ((Turn.of_below hB _ 500).mono (by simp)), K0.out.box.turn (Turn.of_below hB _ 500) (by simp), K0.out.tok.turn (Turn.of_below hB _ 500) (by simp)⟩)
      clear hB K0 c0
      obtain ⟨l0, hl0⟩ : ∃ l0, l0 = s.drop p := ⟨_, rfl⟩
      have HL := Lib.hid hl0
      have hll : l0.length ≤ 1000000 := by rw [hl0, List.length_drop]; omega
      clear hl0
      go_upto_block 2 with fail
      go_cut [] (fun wx => FoundAt J s sb tb k p l0 wx)
      case first =>
        go_wp2_with fail
        go_loopg [23] 3 (fun gk vj wr => KindAt J s sb tb k p l0 gk vj wr)
        case atStart => exact ⟨0, _, by omega, rfl, rfl, fun h => absurd h (by omega), fun h => absurd h (by omega), fun h => absurd h (by omega), K2.out⟩
        case round =>
          obtain ⟨j, gj, hj, rfl, rfl, hj1, hj2, hj3, hK⟩ := hrel
          have j0 : (0 : Int) ≤ (j : Int) := by omega
          clear K2
          rcases (show j = 0 ∨ j = 1 ∨ j = 2 ∨ j = 3 by omega) with rfl | rfl | rfl | rfl
          · have HZ := Lib.hid (And.intro hj1 hj2)
            clear hj1 hj2 hj3
            have hk0 := fun wx => (kix wx).1
            have hsl := sl_s s .i64 p (z := (p : Int)) rfl hp
            have T0 := Turn.alloc wr gj 500 (.cells #[.int .u8 1, .func (.func 122) #[] #[]] 82)
            obtain ⟨kb, hkb⟩ : ∃ kb, kb = wr.heap.size := ⟨_, rfl⟩
            have K3 := Lib.hid (And.intro (show TkAt J s sb tb k ⟨0, [], p⟩ _ _ from ⟨HJ.out.1 _ _ _ _ _ hK.j (T0.mono (by simp)), hK.box.turn T0 (by simp), hK.tok.turn T0 (by simp)⟩) (show Box1 _ (gj.ext wr.heap.size 500) kb 82 500 #[.int .u8 1, .func (.func 122) #[] #[]] by rw [hkb]; exact Box1.alloc wr gj _ 500 _))
            have htk : tb ≠ kb ∧ kb ≠ tb := by have := hK.tok.lt; omega
            have hst : sb ≠ tb ∧ tb ≠ sb := by have h1 := hK.box.2; have h2 := hK.tok.2; exact ⟨fun e => by rw [e, h2] at h1; omega, fun e => by rw [← e, h2] at h1; omega⟩
            have HNE := Lib.hid (And.intro htk hst)
            clear hK T0 htk hst
            go_wp2_with fail
            rw [← hkb] at K3 ⊢
            clear hkb
            generalize wr.alloc (.cells #[.int .u8 1, .func (.func 122) #[] #[]] 82) = w3 at K3 ⊢
            have c1 : w3.cell? ⟨kb, 1, none⟩ = some (.func (.func 122) #[] #[]) := (K3.out.2.cell 1).1
            have c0 : w3.cell? ⟨sb, 0, none⟩ = some (.string (bs s)) := (K3.out.1.box.cell 0).1
            go_still_tail 5, (by kernel_rfl)
            change wpList _ _ _ _ _ w3.drew
            have D3 := Turn.drew w3 (gj.ext kb 500)
            have K4 := Lib.hid (And.intro (K3.out.1.turn0 HJ.out.1 D3) (K3.out.2.turn D3 (by simp)))
            clear D3 K3 c1 c0 hsl
            generalize w3.drew = w4 at K4 ⊢
            go_wp2_with fail
            rw [← HL.out]
            refine word_t l0 (by omega) fun w5 hB => ?_
            have T5 := Turn.of_below hB (gj.ext kb 500) 500
            have K5 := Lib.hid (And.intro (K4.out.1.turn0 HJ.out.1 T5) (K4.out.2.turn T5 (by simp)))
            clear hB T5 K4
            obtain ⟨n, hn⟩ : ∃ n, n = To.word l0 := ⟨_, rfl⟩
            rw [← hn]
            have HN := Lib.hid hn
            have hnl := To.word_le l0
            rw [← hn] at hnl
            clear hn
            by_cases hpos : 0 < n
            · have hp1 : (0 : Int) < (n : Int) := by omega
              have hp2 : (p : Int) + (n : Int) ≤ 1000000 := by have := congrArg List.length HL.out; rw [List.length_drop] at this; omega
              have c1 : w5.cell? ⟨kb, 0, none⟩ = some (.int .u8 1) := (K5.out.2.cell 0).1
              have c0 : w5.cell? ⟨sb, 0, none⟩ = some (.string (bs s)) := (K5.out.1.box.cell 0).1
              have t0 : w5.cell? ⟨tb, 0, none⟩ = some (.int .u8 0) := (K5.out.1.tok.cell 0).1
              have t1 : w5.cell? ⟨tb, 1, none⟩ = some (.string (bs [])) := (K5.out.1.tok.cell 1).1
              have f0 := (K5.out.1.tok.cell 0).2
              have f1 := (K5.out.1.tok.cell 1).2
              have hsl := sl_pn s l0 p n HL.out (by have := congrArg List.length HL.out; rw [List.length_drop] at this; omega)
              have hwr : IntKind.i64.wrap ((p : Int) + (n : Int)) = (p : Int) + (n : Int) := IntWalk.i64_in _ (by omega)
              obtain ⟨⟨e1, e2⟩, ⟨e3, e4⟩⟩ := HNE.out
              have HP := Lib.hid hpos
              clear hpos
              go_wp2_with fail
              go_region
              all_goals
                go_wp2_with fail
                go_meet
                case rel => exact found_at (kd := 1) (n := n) (by unfold To.tok; rw [← HN.out, if_pos HP.out]) (tk_set K5.out.1 HJ.out.1 1 (l0.take n))
            · have hp1 : (n : Int) = 0 := by omega
              go_wp2_with fail
              go_roundg 2
              case measure => omega
              case rel => exact ⟨1, _, by omega, rfl, rfl, fun _ => by rw [← HN.out]; omega, fun h => absurd h (by omega), fun h => absurd h (by omega), K5.out.1⟩
          · have HZ := Lib.hid (And.intro hj1 hj2)
            clear hj1 hj2 hj3
            have hk0 := fun wx => (kix wx).2.1
            have hsl := sl_s s .i64 p (z := (p : Int)) rfl hp
            have T0 := Turn.alloc wr gj 500 (.cells #[.int .u8 2, .func (.func 123) #[] #[]] 82)
            obtain ⟨kb, hkb⟩ : ∃ kb, kb = wr.heap.size := ⟨_, rfl⟩
            have K3 := Lib.hid (And.intro (show TkAt J s sb tb k ⟨0, [], p⟩ _ _ from ⟨HJ.out.1 _ _ _ _ _ hK.j (T0.mono (by simp)), hK.box.turn T0 (by simp), hK.tok.turn T0 (by simp)⟩) (show Box1 _ (gj.ext wr.heap.size 500) kb 82 500 #[.int .u8 2, .func (.func 123) #[] #[]] by rw [hkb]; exact Box1.alloc wr gj _ 500 _))
            have htk : tb ≠ kb ∧ kb ≠ tb := by have := hK.tok.lt; omega
            have hst : sb ≠ tb ∧ tb ≠ sb := by have h1 := hK.box.2; have h2 := hK.tok.2; exact ⟨fun e => by rw [e, h2] at h1; omega, fun e => by rw [← e, h2] at h1; omega⟩
            have HNE := Lib.hid (And.intro htk hst)
            clear hK T0 htk hst
            go_wp2_with fail
            rw [← hkb] at K3 ⊢
            clear hkb
            generalize wr.alloc (.cells #[.int .u8 2, .func (.func 123) #[] #[]] 82) = w3 at K3 ⊢
            have c1 : w3.cell? ⟨kb, 1, none⟩ = some (.func (.func 123) #[] #[]) := (K3.out.2.cell 1).1
            have c0 : w3.cell? ⟨sb, 0, none⟩ = some (.string (bs s)) := (K3.out.1.box.cell 0).1
            go_still_tail 5, (by kernel_rfl)
            change wpList _ _ _ _ _ w3.drew
            have D3 := Turn.drew w3 (gj.ext kb 500)
            have K4 := Lib.hid (And.intro (K3.out.1.turn0 HJ.out.1 D3) (K3.out.2.turn D3 (by simp)))
            clear D3 K3 c1 c0 hsl
            generalize w3.drew = w4 at K4 ⊢
            go_wp2_with fail
            rw [← HL.out]
            refine number_t l0 (by omega) fun w5 hB => ?_
            have T5 := Turn.of_below hB (gj.ext kb 500) 500
            have K5 := Lib.hid (And.intro (K4.out.1.turn0 HJ.out.1 T5) (K4.out.2.turn T5 (by simp)))
            clear hB T5 K4
            obtain ⟨n, hn⟩ : ∃ n, n = To.number l0 := ⟨_, rfl⟩
            rw [← hn]
            have HN := Lib.hid hn
            have hnl := To.number_le l0
            rw [← hn] at hnl
            clear hn
            by_cases hpos : 0 < n
            · have hp1 : (0 : Int) < (n : Int) := by omega
              have hp2 : (p : Int) + (n : Int) ≤ 1000000 := by have := congrArg List.length HL.out; rw [List.length_drop] at this; omega
              have c1 : w5.cell? ⟨kb, 0, none⟩ = some (.int .u8 2) := (K5.out.2.cell 0).1
              have c0 : w5.cell? ⟨sb, 0, none⟩ = some (.string (bs s)) := (K5.out.1.box.cell 0).1
              have t0 : w5.cell? ⟨tb, 0, none⟩ = some (.int .u8 0) := (K5.out.1.tok.cell 0).1
              have t1 : w5.cell? ⟨tb, 1, none⟩ = some (.string (bs [])) := (K5.out.1.tok.cell 1).1
              have f0 := (K5.out.1.tok.cell 0).2
              have f1 := (K5.out.1.tok.cell 1).2
              have hsl := sl_pn s l0 p n HL.out (by have := congrArg List.length HL.out; rw [List.length_drop] at this; omega)
              have hwr : IntKind.i64.wrap ((p : Int) + (n : Int)) = (p : Int) + (n : Int) := IntWalk.i64_in _ (by omega)
              obtain ⟨⟨e1, e2⟩, ⟨e3, e4⟩⟩ := HNE.out
              have HP := Lib.hid hpos
              clear hpos
              go_wp2_with fail
              go_region
              all_goals
                go_wp2_with fail
                go_meet
                case rel => exact found_at (kd := 2) (n := n) (by unfold To.tok; rw [← HN.out, if_neg (by have := HZ.out.1 (by omega); omega), if_pos HP.out]) (tk_set K5.out.1 HJ.out.1 2 (l0.take n))
            · have hp1 : (n : Int) = 0 := by omega
              go_wp2_with fail
              go_roundg 1
              case measure => omega
              case rel => exact ⟨2, _, by omega, rfl, rfl, fun _ => HZ.out.1 (by omega), fun _ => by rw [← HN.out]; omega, fun h => absurd h (by omega), K5.out.1⟩
          · have HZ := Lib.hid (And.intro hj1 hj2)
            clear hj1 hj2 hj3
            have hk0 := fun wx => (kix wx).2.2
            have hsl := sl_s s .i64 p (z := (p : Int)) rfl hp
            have T0 := Turn.alloc wr gj 500 (.cells #[.int .u8 3, .func (.func 124) #[] #[]] 82)
            obtain ⟨kb, hkb⟩ : ∃ kb, kb = wr.heap.size := ⟨_, rfl⟩
            have K3 := Lib.hid (And.intro (show TkAt J s sb tb k ⟨0, [], p⟩ _ _ from ⟨HJ.out.1 _ _ _ _ _ hK.j (T0.mono (by simp)), hK.box.turn T0 (by simp), hK.tok.turn T0 (by simp)⟩) (show Box1 _ (gj.ext wr.heap.size 500) kb 82 500 #[.int .u8 3, .func (.func 124) #[] #[]] by rw [hkb]; exact Box1.alloc wr gj _ 500 _))
            have htk : tb ≠ kb ∧ kb ≠ tb := by have := hK.tok.lt; omega
            have hst : sb ≠ tb ∧ tb ≠ sb := by have h1 := hK.box.2; have h2 := hK.tok.2; exact ⟨fun e => by rw [e, h2] at h1; omega, fun e => by rw [← e, h2] at h1; omega⟩
            have HNE := Lib.hid (And.intro htk hst)
            clear hK T0 htk hst
            go_wp2_with fail
            rw [← hkb] at K3 ⊢
            clear hkb
            generalize wr.alloc (.cells #[.int .u8 3, .func (.func 124) #[] #[]] 82) = w3 at K3 ⊢
            have c1 : w3.cell? ⟨kb, 1, none⟩ = some (.func (.func 124) #[] #[]) := (K3.out.2.cell 1).1
            have c0 : w3.cell? ⟨sb, 0, none⟩ = some (.string (bs s)) := (K3.out.1.box.cell 0).1
            go_still_tail 5, (by kernel_rfl)
            change wpList _ _ _ _ _ w3.drew
            have D3 := Turn.drew w3 (gj.ext kb 500)
            have K4 := Lib.hid (And.intro (K3.out.1.turn0 HJ.out.1 D3) (K3.out.2.turn D3 (by simp)))
            clear D3 K3 c1 c0 hsl
            generalize w3.drew = w4 at K4 ⊢
            go_wp2_with fail
            rw [← HL.out]
            refine sign_b l0 (by omega) fun w5 hB => ?_
            have T5 := Turn.of_below hB (gj.ext kb 500) 500
            have K5 := Lib.hid (And.intro (K4.out.1.turn0 HJ.out.1 T5) (K4.out.2.turn T5 (by simp)))
            clear hB T5 K4
            obtain ⟨n, hn⟩ : ∃ n, n = To.sign l0 := ⟨_, rfl⟩
            rw [← hn]
            have HN := Lib.hid hn
            have hnl := To.sign_le l0
            rw [← hn] at hnl
            clear hn
            by_cases hpos : 0 < n
            · have hp1 : (0 : Int) < (n : Int) := by omega
              have hp2 : (p : Int) + (n : Int) ≤ 1000000 := by have := congrArg List.length HL.out; rw [List.length_drop] at this; omega
              have c1 : w5.cell? ⟨kb, 0, none⟩ = some (.int .u8 3) := (K5.out.2.cell 0).1
              have c0 : w5.cell? ⟨sb, 0, none⟩ = some (.string (bs s)) := (K5.out.1.box.cell 0).1
              have t0 : w5.cell? ⟨tb, 0, none⟩ = some (.int .u8 0) := (K5.out.1.tok.cell 0).1
              have t1 : w5.cell? ⟨tb, 1, none⟩ = some (.string (bs [])) := (K5.out.1.tok.cell 1).1
              have f0 := (K5.out.1.tok.cell 0).2
              have f1 := (K5.out.1.tok.cell 1).2
              have hsl := sl_pn s l0 p n HL.out (by have := congrArg List.length HL.out; rw [List.length_drop] at this; omega)
              have hwr : IntKind.i64.wrap ((p : Int) + (n : Int)) = (p : Int) + (n : Int) := IntWalk.i64_in _ (by omega)
              obtain ⟨⟨e1, e2⟩, ⟨e3, e4⟩⟩ := HNE.out
              have HP := Lib.hid hpos
              clear hpos
              go_wp2_with fail
              go_region
              all_goals
                go_wp2_with fail
                go_meet
                case rel => exact found_at (kd := 3) (n := n) (by unfold To.tok; rw [← HN.out, if_neg (by have := HZ.out.1 (by omega); omega), if_neg (by have := HZ.out.2 (by omega); omega), if_pos HP.out]) (tk_set K5.out.1 HJ.out.1 3 (l0.take n))
            · have hp1 : (n : Int) = 0 := by omega
              go_wp2_with fail
              go_roundg 0
              case measure => omega
              case rel => exact ⟨3, _, by omega, rfl, rfl, fun _ => HZ.out.1 (by omega), fun _ => HZ.out.2 (by omega), fun _ => by rw [← HN.out]; omega, K5.out.1⟩
          · have hz := Lib.hid (show (To.tok l0).1 = 0 by unfold To.tok; rw [if_neg (by have := hj1 (by omega); omega), if_neg (by have := hj2 (by omega); omega), if_neg (by have := hj3 (by omega); omega)])
            clear hj1 hj2 hj3
            go_wp2_with fail
            go_meet
            case rel => exact ⟨gj, by rw [if_pos hz.out]; exact hK⟩
      case rest =>
        obtain ⟨g3, hT⟩ := hcut
        have HT := Lib.hid hT
        have hne : l0 ≠ [] := by intro e; have := congrArg List.length HL.out; rw [e, List.length_drop, List.length_nil] at this; omega
        have HNE := Lib.hid hne
        clear hT K2 hne
        by_cases hz : (To.tok l0).1 = 0
        · have HT2 := Lib.hid (show TkAt J s sb tb k ⟨0, [], p⟩ _ g3 by have := HT.out; rw [if_pos hz] at this; exact this)
          have hb := To.step_bad (To.all s) HL.out HNE.out hz HX.out.2.1 HX.out.1
          have HB := Lib.hid hb
          have t0 : wc.cell? ⟨tb, 0, none⟩ = some (.int .u8 0) := (HT2.out.tok.cell 0).1
          have t1 : wc.cell? ⟨tb, 1, none⟩ = some (.string (bs [])) := (HT2.out.tok.cell 1).1
          have t2 : wc.cell? ⟨tb, 2, none⟩ = some (.int .i64 (p : Int)) := (HT2.out.tok.cell 2).1
          have hYk := HJ.out.2.2.1 p wc g3 hb.2 (hb.1 ▸ HT2.out.j)
          clear HT hz hb
          go_upto_region 11 with fail
          refine (wpIn_wide (n := 5)).1 ?_
          obtain ⟨fn, tmps, assign, body, hy, hR⟩ := hYk
          have hy : (Instr.yield l #[.agg #[.int .u8 0, .string (bs []), .int .i64 (p : Int)]]).run Tryz.prog wc = .ok (.round l fn tmps assign body) wc := hy
          gi_wp2
          refine hR.mono ?_
          rintro e W' ⟨rfl, hJx⟩
          have hRR := Lib.hid (HJ.out.2.2.2.2 p W' HB.out.2 hJx)
          clear hJx hR hy
          gi_wp2
          go_wp2_with fail
          refine bodyPost_ret (results_none rfl _ _ _) rfl ?_
          exact ⟨⟨_, rfl⟩, hRR.out⟩
        · obtain ⟨kd, hkd⟩ : ∃ kd, kd = (To.tok l0).1 := ⟨_, rfl⟩
          obtain ⟨n, hn⟩ : ∃ n, n = (To.tok l0).2 := ⟨_, rfl⟩
          have HT2 := Lib.hid (show TkAt J s sb tb k ⟨kd, l0.take n, p⟩ _ g3 by have := HT.out; rw [if_neg hz] at this; rw [hkd, hn]; exact this)
          have hst := To.step_tok (To.all s) HL.out HNE.out hz HX.out.1
          have hnl := To.tok_le l0
          have hnp := To.tok_pos l0 hz
          rw [← hn] at hnl hnp
          rw [← hkd, ← hn] at hst
          obtain ⟨m, hm⟩ : ∃ m, m = To.sil false (l0.drop n) := ⟨_, rfl⟩
          have hml := To.sil_le (l0.drop n) false
          rw [← hm] at hml hst
          have hll2 := congrArg List.length HL.out
          rw [List.length_drop] at hml hll2
          have hpn : p + n + m ≤ s.length := by omega
          obtain ⟨hk2, hA, hsc2⟩ := hst
          have HZ := Lib.hid (And.intro hm (And.intro hsc2 (And.intro hk2 (And.intro hpn hnp))))
          have t0 : wc.cell? ⟨tb, 0, none⟩ = some (.int .u8 (kd : Int)) := (HT2.out.tok.cell 0).1
          have t1 : wc.cell? ⟨tb, 1, none⟩ = some (.string (bs (l0.take n))) := (HT2.out.tok.cell 1).1
          have t2 : wc.cell? ⟨tb, 2, none⟩ = some (.int .i64 (p : Int)) := (HT2.out.tok.cell 2).1
          have hYk := HJ.out.2.1 k wc g3 hk2 HT2.out.j
          rw [hA] at hYk
          have hs3 : (bs (l0.take n)).size = n := by rw [bs_size, List.length_take]; omega
          have hpn1 : (p : Int) + (n : Int) ≤ (s.length : Int) := by omega
          have hpn2 : (p : Int) + (n : Int) + (m : Int) ≤ (s.length : Int) := by omega
          have hsl := sl_s s .i64 (p + n) (z := (p : Int) + (n : Int)) (by omega) (by omega)
          have hdd : s.drop (p + n) = l0.drop n := by rw [HL.out, List.drop_drop]
          rw [hdd] at hsl
          clear HT hz hkd hn hm hml hll2 hA hsc2 hk2 hpn hnp hnl hdd
          go_upto_region 11 with fail
          refine (wpIn_wide (n := 5)).1 ?_
          obtain ⟨fn, tmps, assign, body, hy, hR⟩ := hYk
          have hy : (Instr.yield l #[.agg #[.int .u8 (kd : Int), .string (bs (l0.take n)), .int .i64 (p : Int)]]).run Tryz.prog wc = .ok (.round l fn tmps assign body) wc := hy
          gi_wp2
          refine hR.mono ?_
          rintro e W' ⟨g4, rfl, hJ4, hT4⟩
          have hbx := HT2.out.box.turn hT4 h5.2
          have htk := HT2.out.tok.turn hT4 h5.1
          have K5 := Lib.hid (And.intro hJ4 hbx)
          clear hR hy t0 t1 t2 hJ4 hT4
          have t1 : W'.cell? ⟨tb, 1, none⟩ = some (.string (bs (l0.take n))) := (htk.cell 1).1
          have c0 : W'.cell? ⟨sb, 0, none⟩ = some (.string (bs s)) := (hbx.cell 0).1
          clear hbx htk
          gi_wp2
          go_wp2_with fail
          refine silence_t (l0.drop n) (by rw [List.length_drop]; omega) fun w7 hB7 => ?_
          rw [← HZ.out.1]
          have T7 := Turn.of_below hB7 g4 500
          have K7 := Lib.hid (And.intro (HJ.out.1 _ _ _ _ _ K5.out.1 (T7.mono (by simp))) (K5.out.2.turn T7 (by simp)))
          go_wp2_with fail
          go_roundg (s.length - (p + n + m))
          case measure => have := HZ.out.2.2.2; omega
          case rel => exact ⟨k + 1, p + n + m, _, HZ.out.2.2.2.1, rfl, by go_num, HZ.out.2.1, HZ.out.2.2.1, K7.out.1, K7.out.2⟩
    · obtain rfl : p = s.length := by omega
      have hsc := HX.out.1
      rw [List.drop_length, To.scan'_nil] at hsc
      simp only [Prod.mk.injEq] at hsc
      have hkl : k = (To.all s).1.length := by
        have h1 := congrArg List.length hsc.1
        rw [List.length_drop] at h1
        have := HX.out.2.1
        simp at h1; omega
      have hR := Lib.hid (HJ.out.2.2.2.1 wr gr hsc.2.symm (hkl ▸ HX.out.2.2.1))
      clear hsc hkl
      go_wp2_with fail
      go_end0
      exact ⟨⟨_, rfl⟩, hR.out⟩
end Go.Proofs.YtcldcigopkfmmaaGreatDoor
