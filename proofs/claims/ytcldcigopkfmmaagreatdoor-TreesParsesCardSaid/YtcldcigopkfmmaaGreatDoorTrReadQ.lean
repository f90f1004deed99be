/- Tokens, as the document has them: Read. -/
import Derived.Test.YtcldcigopkfmmaaGreatDoorTrSignQ
import Derived.Test.YtcldcigopkfmmaaGreatDoorToToksQ
namespace Go.Proofs.YtcldcigopkfmmaaGreatDoor
open Go.RowKit Go.My

/-- At the head of a round. -/
def RfAt (w0 : World) (s : List UInt8) (gk : Nat) (vt vp : Value) (W : World) : Prop :=
  ∃ (k p cap : Nat) (ao : Option Addr) (g : Tags), k ≤ (To.all s).1.length ∧ k ≤ p ∧ p ≤ s.length ∧ gk = s.length - p ∧ vp = .int .i64 (p : Int) ∧ vt = .slice ao k cap ∧ To.scan' p (s.drop p) = ((To.all s).1.drop k, (To.all s).2) ∧ Since w0 W g ∧ Owns W g 515 55 3 (.slice ao k cap) k (tokRow ((To.all s).1.take k))

/-- Behind the three ways: how long the token is, and its kind. -/
def CutTok (w0 _W1 : World) (tb k p kd n : Nat) (ao : Option Addr) (cap : Nat) (l : List To.T) (v9 : Value) (wx : World) : Prop :=
  ∃ g : Tags, v9 = .int .i64 (n : Int) ∧ Since w0 wx g ∧ Owns wx g 515 55 3 (.slice ao k cap) k (tokRow l) ∧ Box1 wx g tb 55 517 #[.int .u8 (kd : Int), .string ⟨#[]⟩, .int .i64 (p : Int)]

set_option maxRecDepth 100000 in
set_option maxHeartbeats 4000000 in
theorem refread_t {w : World} (g : Tags) (t : Nat) (s : List UInt8) {Q : Ending → World → Prop}
    (h : ∀ v w' g', Turn w g w' g' [] → Owns w' g' t 55 3 v (To.read s).1.length (tokRow (To.read s).1) → Q (.returned (.tuple #[v, .int .i64 ((To.read s).2.1 : Int), .int .i64 ((To.read s).2.2 : Int)])) w') :
    Calls Tryz.prog 6 #[.string (bs s)] w Q := by
  have H := Lib.hid h
  have hs0 := bs_size s
  clear h
  go_enter Tryz.func6, Tryz.ntmps6
  by_cases hlong : 65536 < s.length
  · have hl1 : (65536 : Int) < (s.length : Int) := by omega
    have hr : To.read s = ([], 0, 3) := by unfold To.read; rw [if_pos hlong]
    have h1 := H.out (.slice none 0 0) w g (Turn.refl _ _ _)
    rw [hr] at h1
    have H1 := Lib.hid (h1 (Owns.nil _ _ _ _ _))
    clear h1 hr hlong
    go_wp2_with fail
    exact bodyPost_ret (v := .tuple #[.slice none 0 0, .int .i64 0, .int .i64 3]) (by simp [results, Tryz.results6, go_sem]) rfl H1.out
  · have hl1 : (s.length : Int) ≤ 65536 := by omega
    have HL := Lib.hid hlong
    have hsl : s.length ≤ 65536 := by omega
    clear hlong
    go_wp2_with fail
    refine refskip_t s 0 (Nat.zero_le _) (by omega) ?_
    rw [Nat.zero_add, List.drop_zero]
    obtain ⟨p0, hp0⟩ : ∃ p0, p0 = To.sil false s := ⟨_, rfl⟩
    have HP0 := Lib.hid hp0
    rw [← hp0]
    clear hp0
    go_wp2_with fail
    go_loopg [5, 6] (s.length - p0) (fun gk vt vp wr => RfAt w s gk vt vp wr)
    case atStart =>
      refine ⟨0, p0, 0, none, fun _ => 0, Nat.zero_le _, Nat.zero_le _, ?_, rfl, rfl, rfl, ?_, Since.start _, Owns.nil _ _ _ _ _⟩
      · have := To.sil_le s false; have := HP0.out; omega
      · rw [List.drop_zero, HP0.out, ← To.all_scan']
    case round =>
      obtain ⟨k, p, cap, ao, g1, hk, hkp, hp, rfl, rfl, rfl, hsc, hS, hO⟩ := hrel
      have HX := Lib.hid (And.intro hsc (And.intro hS hO))
      have n0 : (0 : Int) ≤ (p : Int) := by omega
      have HK := Lib.hid (And.intro hk hkp)
      clear hsc hS hO hk hkp
      by_cases hlt : p < s.length
      · have hei : (p : Int) < (s.length : Int) := by omega
        have hle : (p : Int) ≤ (s.length : Int) := by omega
        have hsd : (bs s).extract p s.length = bs (s.drop p) := by rw [← hs0]; exact bs_drop s p
        obtain ⟨l0, hl0⟩ : ∃ l0, l0 = s.drop p := ⟨_, rfl⟩
        rw [← hl0] at hsd
        have hll : l0.length = s.length - p := by rw [hl0, List.length_drop]
        have HL0 := Lib.hid (And.intro hl0 hll)
        have hlm : l0.length ≤ 9223372036854775807 := by omega
        clear hl0 hll
        go_upto_region 8 with fail
        have T1 := Turn.alloc wr g1 517 (.cells #[.int .u8 0, .string ⟨#[]⟩, .int .i64 (p : Int)] 55)
        have bt := Box1.alloc wr g1 55 517 #[.int .u8 0, .string ⟨#[]⟩, .int .i64 (p : Int)]
        have S1 := HX.out.2.1.turn T1 (by simp)
        have O1 := HX.out.2.2.turn T1 (by simp)
        obtain ⟨tb, htb⟩ : ∃ tb, tb = wr.heap.size := ⟨_, rfl⟩
        rw [← htb] at bt S1 O1 ⊢
        clear T1 htb
        generalize wr.alloc (.cells #[.int .u8 0, .string ⟨#[]⟩, .int .i64 (p : Int)] 55) = W1 at *
        generalize g1.ext tb 517 = g2 at *
        have HY := Lib.hid (And.intro S1 (And.intro O1 bt))
        have c0 : W1.cell? ⟨tb, 0, none⟩ = some (.int .u8 0) := (bt.cell 0).1
        have f0 := (bt.cell 0).2
        have c1 : W1.cell? ⟨tb, 1, none⟩ = some (.string ⟨#[]⟩) := (bt.cell 1).1
        have f1 := (bt.cell 1).2
        have c2 : W1.cell? ⟨tb, 2, none⟩ = some (.int .i64 (p : Int)) := (bt.cell 2).1
        clear S1 O1 bt
        obtain ⟨xw, hxw⟩ : ∃ xw, xw = To.word l0 := ⟨_, rfl⟩
        obtain ⟨xn, hxn⟩ : ∃ xn, xn = To.number l0 := ⟨_, rfl⟩
        obtain ⟨xs, hxs⟩ : ∃ xs, xs = To.sign l0 := ⟨_, rfl⟩
        have HZ := Lib.hid (And.intro hxw (And.intro hxn hxs))
        have hne : l0 ≠ [] := by intro e; have := HL0.out.2; rw [e] at this; simp at this; omega
        have HNE := Lib.hid hne
        clear hxw hxn hxs hne
        by_cases hbad : xw = 0 ∧ xn = 0 ∧ xs = 0
        · obtain ⟨z1, z2, z3⟩ := hbad
          have ht : (To.tok l0).1 = 0 := by
            unfold To.tok; rw [← HZ.out.1, ← HZ.out.2.1, ← HZ.out.2.2, z1, z2, z3]; rfl
          have hsb := To.step_bad (To.all s) HL0.out.1 HNE.out ht HK.out.1 HX.out.1
          have hr : To.read s = ([], p, 4) := by unfold To.read; rw [if_neg HL.out, hsb.2]
          have HR := Lib.hid hr
          clear ht hsb hr
          subst z1 z2 z3
          go_wp2_with (first
            | (refine refword_t l0 hlm ?_; rw [← HZ.out.1])
            | (refine refnumber_t l0 hlm ?_; rw [← HZ.out.2.1])
            | (refine refsign_t l0 hlm fun w3 hb3 => ?_; rw [← HZ.out.2.2]; have HB3 := Lib.hid hb3; clear hb3))
          have h1 := H.out (.slice none 0 0) w3 (g.ext w.heap.size t) (Turn.of_below (HY.out.1.below.trans (HB3.out.mono HY.out.1.below.size)) g t)
          rw [HR.out] at h1
          have h2 := h1 (Owns.nil _ _ _ _ _)
          exact bodyPost_ret (v := .tuple #[.slice none 0 0, .int .i64 (p : Int), .int .i64 4]) (by simp [results, Tryz.results6, go_sem]) rfl h2
        · obtain ⟨kd, n, htk⟩ : ∃ kd n, To.tok l0 = (kd, n) := ⟨_, _, rfl⟩
          have htk' := htk
          unfold To.tok at htk'
          rw [← HZ.out.1, ← HZ.out.2.1, ← HZ.out.2.2] at htk'
          have HT := Lib.hid htk
          clear htk
          have h0 : (To.tok l0).1 ≠ 0 := by
            rw [HT.out]; intro e
            simp only at e
            subst e
            apply hbad
            by_cases z1 : 0 < xw
            · rw [if_pos z1] at htk'; simp at htk'
            · rw [if_neg z1] at htk'
              by_cases z2 : 0 < xn
              · rw [if_pos z2] at htk'; simp at htk'
              · rw [if_neg z2] at htk'
                by_cases z3 : 0 < xs
                · rw [if_pos z3] at htk'; simp at htk'
                · omega
          have hst := To.step_tok (To.all s) HL0.out.1 HNE.out h0 HX.out.1
          simp only [HT.out] at hst
          have hnp := To.tok_pos l0 h0
          have hnl := To.tok_le l0
          rw [HT.out] at hnp hnl
          simp only at hnp hnl
          have HA := Lib.hid hst
          clear hst h0
          have key : (kd = 1 ∧ xw = n ∧ 0 < xw) ∨ (kd = 2 ∧ xw = 0 ∧ xn = n ∧ 0 < xn) ∨ (kd = 3 ∧ xw = 0 ∧ xn = 0 ∧ xs = n ∧ 0 < xs) := by
            by_cases z1 : 0 < xw
            · rw [if_pos z1] at htk'; simp at htk'; exact .inl ⟨htk'.1.symm, htk'.2, z1⟩
            · rw [if_neg z1] at htk'
              by_cases z2 : 0 < xn
              · rw [if_pos z2] at htk'; simp at htk'; exact .inr (.inl ⟨htk'.1.symm, by omega, htk'.2, z2⟩)
              · rw [if_neg z2] at htk'
                by_cases z3 : 0 < xs
                · rw [if_pos z3] at htk'; simp at htk'; exact .inr (.inr ⟨htk'.1.symm, by omega, by omega, htk'.2, z3⟩)
                · exact absurd ⟨by omega, by omega, by omega⟩ hbad
          clear hbad htk'
          have HKey := Lib.hid (And.intro key (And.intro hnp hnl))
          have hkd : (kd : Int) ≤ 3 := by omega
          clear key hnp hnl
          clear hkd
          go_upto_region 9 with fail
          refine refword_t l0 hlm ?_
          rw [← HZ.out.1]
          go_upto_if 27 with fail
          go_cut [9] from 28 to 40 (fun v9 wx => CutTok w W1 tb k p kd n ao cap ((To.all s).1.take k) v9 wx)
          case first =>
            rcases HKey.out.1 with ⟨e1, e2, z1⟩ | ⟨e1, e2, e3, z1⟩ | ⟨e1, e2, e3, e4, z1⟩
            · have z1i : (0 : Int) < (xw : Int) := by omega
              obtain ⟨Ta, ba⟩ := HY.out.2.2.store 0 (.int .u8 1)
              have HW := Lib.hid (show CutTok w W1 tb k p kd n ao cap ((To.all s).1.take k) (.int .i64 (xw : Int)) (W1.setCell ⟨tb, 0, none⟩ (.int .u8 1)) from by
                rw [e1, e2]; exact ⟨_, rfl, HY.out.1.turn Ta (by decide), HY.out.2.1.turn Ta (by decide), ba⟩)
              clear Ta ba e1 e2 z1
              go_wp2_with fail
              go_meet
              exact HW.out
            · subst e2
              have z1i : (0 : Int) < (xn : Int) := by omega
              obtain ⟨Ta, ba⟩ := HY.out.2.2.store 0 (.int .u8 2)
              have HW := Lib.hid (show CutTok w W1 tb k p kd n ao cap ((To.all s).1.take k) (.int .i64 (xn : Int)) (W1.setCell ⟨tb, 0, none⟩ (.int .u8 2)) from by
                rw [e1, e3]; exact ⟨_, rfl, HY.out.1.turn Ta (by decide), HY.out.2.1.turn Ta (by decide), ba⟩)
              clear Ta ba e1 e3 z1
              go_wp2_with (refine refnumber_t l0 hlm ?_; rw [← HZ.out.2.1])
              go_meet
              exact HW.out
            · subst e2
              subst e3
              have z1i : (0 : Int) < (xs : Int) := by omega
              have HE := Lib.hid (And.intro e1 e4)
              clear e1 e4 z1
              go_wp2_with (refine refnumber_t l0 hlm ?_; rw [← HZ.out.2.1])
              refine refsign_t l0 hlm fun w3 hb3 => ?_
              rw [← HZ.out.2.2]
              have T3 := Turn.of_below hb3 g2 530
              have HV := Lib.hid (And.intro (HY.out.1.turn T3 (by simp)) (And.intro (HY.out.2.1.turn T3 (by simp)) (HY.out.2.2.turn T3 (by simp))))
              generalize g2.ext W1.heap.size 530 = g3 at HV
              clear hb3 T3 c0 f0 c1 f1 c2
              go_wp2_with fail
              refine refsign_t l0 hlm fun w4 hb4 => ?_
              rw [← HZ.out.2.2]
              have T4 := Turn.of_below hb4 g3 530
              have HU := Lib.hid (And.intro (HV.out.1.turn T4 (by simp)) (And.intro (HV.out.2.1.turn T4 (by simp)) (HV.out.2.2.turn T4 (by simp))))
              generalize g3.ext w3.heap.size 530 = g4 at HU
              clear hb4 T4
              have c0 : w4.cell? ⟨tb, 0, none⟩ = some (.int .u8 0) := (HU.out.2.2.cell 0).1
              have f0 := (HU.out.2.2.cell 0).2
              obtain ⟨Ta, ba⟩ := HU.out.2.2.store 0 (.int .u8 3)
              have HW := Lib.hid (show CutTok w W1 tb k p kd n ao cap ((To.all s).1.take k) (.int .i64 (xs : Int)) (w4.setCell ⟨tb, 0, none⟩ (.int .u8 3)) from by
                rw [HE.out.1, HE.out.2]; exact ⟨_, rfl, HU.out.1.turn Ta (by decide), HU.out.2.1.turn Ta (by decide), ba⟩)
              clear Ta ba
              go_wp2_with fail
              go_meet
              exact HW.out
          case rest =>
            obtain ⟨g5, rfl, S5, O5, B5⟩ := hcut
            obtain ⟨hn0, hnl⟩ := HKey.out.2
            have hni : (n : Int) ≤ (l0.length : Int) := by omega
            have hnz : (0 : Int) ≤ (n : Int) := by omega
            have hsz : (bs l0).size = l0.length := bs_size l0
            have hex : (bs l0).extract 0 n = bs (l0.take n) := by apply ByteArray.ext; simp [bs]
            have c1 := (B5.cell 1).1
            have f1 := (B5.cell 1).2
            obtain ⟨T6, B6⟩ := B5.store 1 (.string (bs (l0.take n)))
            have HB := Lib.hid (And.intro (S5.turn T6 (by decide)) (And.intro (O5.turn T6 (by decide)) B6))
            clear S5 O5 B5 T6 B6 c0 f0 c2
            go_upto_region 19 with fail
            have hk5 : k ≤ 65536 := by have := HK.out.2; omega
            generalize wc.setCell ⟨tb, 1, none⟩ (.string (bs (l0.take n))) = W6 at *
            have d0 : W6.cell? ⟨tb, 0, none⟩ = some (.int .u8 (kd : Int)) := (HB.out.2.2.cell 0).1
            have d1 : W6.cell? ⟨tb, 1, none⟩ = some (.string (bs (l0.take n))) := (HB.out.2.2.cell 1).1
            have d2 : W6.cell? ⟨tb, 2, none⟩ = some (.int .i64 (p : Int)) := (HB.out.2.2.cell 2).1
            go_upto_region 20 with (at_builtin; refine wpList_append_t _ rfl (.tmp 46) (.tmp 48) rfl tokElem (g := g5.ext W6.heap.size 517) (tg := 515) (v := .slice ao k cap) (n := k) rfl (HB.out.2.1.turn (Turn.alloc W6 g5 517 _) (by decide)) rfl (Src.lit (n := 1) _ _ rfl rfl) (tok_one ⟨kd, l0.take n, p⟩) (by unfold maxLen; omega) (by omega) ?_; intro ao7 cap7 w7 g8 O7 T7; have K7 := Lib.hid (And.intro O7 T7); clear O7 T7)
            have hpn : p + n ≤ s.length := by have := HL0.out.2; omega
            obtain ⟨p1, hp1⟩ : ∃ p1, p1 = p + n + To.sil false (s.drop (p + n)) := ⟨_, rfl⟩
            have hpl : p1 ≤ s.length := by have := To.sil_le (s.drop (p + n)) false; rw [List.length_drop] at this; omega
            have hpp : p + 1 ≤ p1 := by omega
            have HP1 := Lib.hid hp1
            clear hp1
            have HP2 := Lib.hid (And.intro hpl hpp)
            clear c1 f1 d0 d1 d2 hpl hpp hnl hn0 hk5 hex hsz
            go_wp2_with fail
            rw [← Int.natCast_add]
            refine refskip_t s (p + n) hpn (by omega) ?_
            rw [← HP1.out]
            go_wp2_with fail
            obtain ⟨hk, he, hsc⟩ := HA.out
            have hdd : l0.drop n = s.drop (p + n) := by rw [HL0.out.1, List.drop_drop]
            rw [hdd, ← HP1.out] at hsc
            have hO7 : Owns w7 g8 515 55 3 (.slice ao7 (k + 1) cap7) (k + 1) (tokRow ((To.all s).1.take (k + 1))) := by
              rw [tokRow_step _ k hk, he]; exact K7.out.1
            have hS7 : Since w w7 g8 := (HB.out.1.turn (Turn.alloc W6 g5 517 _) (by decide)).turn K7.out.2 (by decide)
            go_roundg (s.length - p1)
            case measure => have := HP2.out.2; omega
            case rel => exact ⟨k + 1, p1, cap7, ao7, g8, hk, by have := HK.out.2; have := HP2.out.2; omega, HP2.out.1, rfl, by go_num, by go_num, hsc, hS7, hO7⟩
      · have hpe : p = s.length := by omega
        have hei : (s.length : Int) ≤ (p : Int) := by omega
        have hsc := HX.out.1
        rw [hpe, List.drop_length, To.scan'_nil] at hsc
        simp only [Prod.mk.injEq] at hsc
        have hkl : (To.all s).1.length ≤ k := by have := congrArg List.length hsc.1; rw [List.length_drop] at this; simp at this; omega
        have hke : k = (To.all s).1.length := Nat.le_antisymm HK.out.1 hkl
        have hr : To.read s = ((To.all s).1, 0, 0) := by unfold To.read; rw [if_neg HL.out, ← hsc.2]
        obtain ⟨k1, k2⟩ := fresh_since (v := .slice ao (To.all s).1.length cap) (n := (To.all s).1.length) (xs := tokRow (To.all s).1) (e := 55) (size := 3) g t (show 515 ≠ 0 by decide) HX.out.2.1 (by have := HX.out.2.2; rw [hke, List.take_length] at this; exact this)
        have h1 := H.out (.slice ao (To.all s).1.length cap) _ _ k1
        rw [hr] at h1
        have H1 := Lib.hid (h1 k2)
        rw [← hke] at H1
        clear hlt hsc hkl hr k1 k2 h1 hp hke
        go_wp2_with fail
        exact bodyPost_ret (v := .tuple #[.slice ao k cap, .int .i64 0, .int .i64 0]) (by simp [results, Tryz.results6, go_sem]) rfl H1.out
end Go.Proofs.YtcldcigopkfmmaaGreatDoor
