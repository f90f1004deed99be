/- Tokens: the walk of TokensPlaces. -/
import Derived.Test.YtmohejemgpnclaaDoorToAlive
import Derived.Test.YtmohejemgpnclaaDoorToPlPlain
namespace Go.Proofs.YtmohejemgpnclaaDoor
open Go.RowKit Go.My

theorem below_of' {w w' : World} {g g' : Tags} (T : Turn w g w' g' []) : Below w.heap.size w w' := ⟨T.os, T.tape, T.output, T.size, fun k hk => T.block k hk (by simp)⟩

theorem silent_t {w : World} (c : UInt8) {z : Int} (hz : z = (c.toNat : Int)) {b : Bool} (hb : To.isB c = b) {Q : Ending → World → Prop} (h : Q (.returned (.bool b)) w) :
    Calls Tryd.prog 13 #[.int .u8 z] w Q := by
  subst hb
  have H := Lib.hid h
  have hi : To.isB c = (z == 32 || z == 9 || z == 10 || z == 13) := by
    subst hz; unfold To.isB; rw [Bool.eq_iff_iff]; simp; omega
  rw [hi] at H
  clear h hi hz
  by_cases h1 : z = 32
  · subst h1
    go_enter Tryd.func13, Tryd.ntmps13
    go_wp2_with fail
    exact H.out
  by_cases h2 : z = 9
  · subst h2
    go_enter Tryd.func13, Tryd.ntmps13
    go_wp2_with fail
    exact H.out
  by_cases h3 : z = 10
  · subst h3
    go_enter Tryd.func13, Tryd.ntmps13
    go_wp2_with fail
    exact H.out
  by_cases h4 : z = 13
  · subst h4
    go_enter Tryd.func13, Tryd.ntmps13
    go_wp2_with fail
    exact H.out
  have e1 : (z == 32) = false := by simp [h1]
  have e2 : (z == 9) = false := by simp [h2]
  have e3 : (z == 10) = false := by simp [h3]
  have e4 : (z == 13) = false := by simp [h4]
  have H2 := Lib.hid (show Q (.returned (.bool false)) w by have := H.out; rw [e1, e2, e3, e4] at this; exact this)
  clear H h1 h2 h3 h4
  go_enter Tryd.func13, Tryd.ntmps13
  go_wp2_with fail
  exact H2.out

/-- At the head of a round: i tokens are looked at, the last one ends at e. -/
def PlAt (w : World) (s : List UInt8) (xs : List To.T) (v3 : Value) (gk : Nat) (v6 v7 v8 : Value) (wr : World) : Prop :=
  ∃ (i e : Nat) (g' : Tags), gk = xs.length - i ∧ v6 = .int .i64 (e : Int) ∧ v7 = .bool false ∧ v8 = .int .i64 (i : Int) ∧ To.At s xs i e ∧ Turn w (fun _ => 0) wr g' [] ∧ Toks wr g' 601 v3 xs

/-- Between two tokens. -/
def GapAt (s : List UInt8) (e p : Nat) (wx : World) (gk : Nat) (v7 v10 : Value) (wr : World) : Prop :=
  ∃ (k : Nat) (c : Bool), e ≤ k ∧ k ≤ p ∧ gk = p - k ∧ v7 = .bool c ∧ v10 = .int .i64 (k : Int) ∧ To.sil c (s.drop k) = p - k ∧ wr = wx

set_option maxRecDepth 100000 in
set_option maxHeartbeats 8000000 in
theorem places_t {w : World} (s : List UInt8) {Q : Ending → World → Prop} (hs9 : s.length ≤ 9223372036854775807) (h : ∀ w' g', Turn w (fun _ => 0) w' g' [] → Q (.returned (.bool true)) w') :
    Calls Tryd.prog 4 #[.string (bs s)] w Q := by
  have H := Lib.hid h
  have hs1 := bs_size s
  clear h
  by_cases hlong : 65536 < s.length
  · have hr : To.read s = ([], 0, 3) := by unfold To.read; rw [if_pos hlong]
    have hl1 : (65536 : Int) < (s.length : Int) := by omega
    go_enter Tryd.func4, Tryd.ntmps4
    go_wp2_with fail
    refine read_k (fun _ => 0) 601 s fun a2 c2 w2 g2 T2 _ => ?_
    rw [hr]
    have X := Lib.hid T2
    clear T2 hr hlong
    go_wp2_with fail
    refine alive_t g2 fun w3 g3 T3 => ?_
    have X3 := Lib.hid (X.out.trans T3 (V := []) (by simp) (by simp))
    clear T3 X
    go_wp2_with fail
    exact H.out w3 g3 X3.out
  · cases ha : (To.all s).2 with
    | some p =>
      have hr : To.read s = ([], p, 4) := by unfold To.read; rw [if_neg hlong, ha]
      obtain ⟨c, r, hc, hB, h35, hp⟩ := To.all_bad s p ha
      have hsp : s[p] = c := by
        have := List.drop_eq_getElem_cons hp
        rw [hc] at this
        exact (List.cons.inj this).1.symm
      have hp0 : (0 : Int) ≤ (p : Int) := by omega
      have hp1 : (p : Int) < (s.length : Int) := by omega
      have hix := ix_s s .i64 p (z := (p : Int)) rfl hp
      rw [hsp] at hix
      have hn : ((c.toNat : Int) != 35) = true := by simp; omega
      have HB := Lib.hid hB
      clear hsp hc h35 ha hB hp hlong
      go_enter Tryd.func4, Tryd.ntmps4
      go_wp2_with fail
      refine read_k (fun _ => 0) 601 s fun a2 c2 w2 g2 T2 _ => ?_
      rw [hr]
      have X := Lib.hid T2
      clear T2 hr
      go_wp2_with fail
      refine alive_t g2 fun w3 g3 T3 => ?_
      have X3 := Lib.hid (X.out.trans T3 (V := []) (by simp) (by simp))
      clear T3 X
      go_wp2_with fail
      refine silent_t c rfl HB.out ?_
      go_wp2_with fail
      exact H.out w3 g3 X3.out
    | none =>
      obtain ⟨xs, hxs⟩ : ∃ xs, xs = (To.all s).1 := ⟨_, rfl⟩
      have hr : To.read s = (xs, 0, 0) := by unfold To.read; rw [if_neg hlong, ha, hxs]
      have hst := To.At.start s ha
      rw [← hxs] at hst
      have hl1 : (s.length : Int) ≤ 65536 := by omega
      have HS := Lib.hid hst
      have hxl := To.all_len s
      have hkd := To.all_kind s
      rw [← hxs] at hxl hkd
      have HK := Lib.hid hkd
      have hxl2 : (xs.length : Int) ≤ 65536 := by omega
      clear hst ha hxs hlong hkd
      go_enter Tryd.func4, Tryd.ntmps4
      go_wp2_with fail
      refine read_k (fun _ => 0) 601 s fun a2 c2 w2 g2 T2 K2 => ?_
      rw [hr] at K2 ⊢
      have X := Lib.hid (And.intro T2 K2)
      clear T2 K2 hr
      go_wp2_with fail
      go_loopg [6, 7, 8] xs.length (fun gk v6 v7 v8 wr => PlAt w s xs (.slice a2 xs.length c2) gk v6 v7 v8 wr)
      case atStart => exact ⟨0, 0, g2, rfl, rfl, rfl, rfl, HS.out, X.out.1, X.out.2⟩
      case round =>
        obtain ⟨i, e, g3, rfl, rfl, rfl, rfl, hat, hT, hK⟩ := hrel
        have HX := Lib.hid (And.intro hat (And.intro hT hK))
        have hin := hat.n
        have hle := hat.le
        obtain ⟨p, hp⟩ : ∃ p, p = e + To.sil false (s.drop e) := ⟨_, rfl⟩
        have hz := To.sil_le (s.drop e) false
        rw [List.length_drop] at hz
        have hps : p ≤ s.length := by omega
        have hep : e ≤ p := by omega
        have hsil : To.sil false (s.drop e) = p - e := by omega
        have HP := Lib.hid (And.intro hp hsil)
        have i0 : (0 : Int) ≤ (i : Int) := by omega
        have i1 : (i : Int) ≤ (xs.length : Int) := by omega
        clear X HS hat hT hK hp hz hsil
        go_upto_if 77 with fail
        go_cut [9] (fun v9 wx => v9 = .int .i64 (p : Int) ∧ wx = wr)
        case first =>
          by_cases hlt : i < xs.length
          · have i2 : (i : Int) < (xs.length : Int) := by omega
            obtain ⟨n, _, k1, _⟩ := HX.out.1.next hlt
            obtain ⟨ao, cap, hv, _, _, hc⟩ := HX.out.2.2
            cases hv
            obtain ⟨b, off, rfl, _, _, hc⟩ := hc (by omega)
            obtain ⟨_, _, d2⟩ := hc i hlt
            rw [k1, ← HP.out.1] at d2
            clear hc k1
            go_wp2_with fail
            go_meet
            case rel => exact ⟨rfl, rfl⟩
          · obtain rfl : i = xs.length := by omega
            have hpl := HX.out.1.last
            rw [← HP.out.1] at hpl
            go_wp2_with fail
            go_meet
            case rel => exact ⟨by rw [hpl], rfl⟩
        case rest =>
          obtain ⟨rfl, rfl⟩ := hcut
          have e0 : (0 : Int) ≤ (e : Int) := by omega
          have e1 : (e : Int) ≤ (p : Int) := by omega
          have p1 : (p : Int) ≤ (s.length : Int) := by omega
          have dd1 : decide (p < e) = false := by simp; omega
          have dd2 : decide (s.length < p) = false := by simp; omega
          go_wp2_with fail
          go_loopg [7, 10] (p - e) (fun gk v7 v10 wr => GapAt s e p wc gk v7 v10 wr)
          case atStart => exact ⟨e, false, Nat.le_refl _, hep, rfl, rfl, rfl, HP.out.2, rfl⟩
          case round =>
            obtain ⟨k, c, hek, hkp, rfl, rfl, rfl, hsk, rfl⟩ := hrel
            have k0 : (0 : Int) ≤ (k : Int) := by omega
            by_cases hlt : k < p
            · have k1 : (k : Int) < (p : Int) := by omega
              have hks : k < s.length := by omega
              have hix := ix_s s .i64 k (z := (k : Int)) rfl hks
              have hst := To.sil_step s k p c hks hlt hsk
              generalize s[k] = b at *
              have HS := Lib.hid hst
              clear hst hsk
              cases c with
              | true =>
                by_cases hb : b.toNat = 10
                · have hb1 : (b.toNat : Int) = 10 := by omega
                  have H2 := Lib.hid (show To.sil false (s.drop (k + 1)) = p - (k + 1) by have := HS.out.1; rw [hb] at this; exact this)
                  clear hb HS
                  go_wp2_with fail
                  go_roundg (p - (k + 1))
                  case measure => omega
                  case rel => exact ⟨k + 1, false, by omega, by omega, rfl, rfl, by go_num, H2.out, rfl⟩
                · have hb1 : ((b.toNat : Int) != 10) = true := by simp; omega
                  have H2 := Lib.hid (show To.sil true (s.drop (k + 1)) = p - (k + 1) by have := HS.out.1; have e : ((true || b.toNat == 35) && b.toNat != 10) = true := (by simp [hb]); rw [e] at this; exact this)
                  clear hb HS
                  go_wp2_with fail
                  go_roundg (p - (k + 1))
                  case measure => omega
                  case rel => exact ⟨k + 1, true, by omega, by omega, rfl, rfl, by go_num, H2.out, rfl⟩
              | false =>
                by_cases hb : b.toNat = 35
                · have hb1 : (b.toNat : Int) = 35 := by omega
                  have H2 := Lib.hid (show To.sil true (s.drop (k + 1)) = p - (k + 1) by have := HS.out.1; rw [hb] at this; exact this)
                  clear hb HS
                  go_wp2_with fail
                  go_roundg (p - (k + 1))
                  case measure => omega
                  case rel => exact ⟨k + 1, true, by omega, by omega, rfl, rfl, by go_num, H2.out, rfl⟩
                · have hb1 : ((b.toNat : Int) == 35) = false := by simp; omega
                  have hb2 : (b.toNat == 35) = false := by simp [hb]
                  have H2 := Lib.hid (show To.sil false (s.drop (k + 1)) = p - (k + 1) ∧ To.isB b = true by have := HS.out; rw [hb2] at this; exact ⟨this.1, by simpa using this.2⟩)
                  clear hb HS hb2
                  go_wp2_with fail
                  refine silent_t b rfl H2.out.2 ?_
                  go_wp2_with fail
                  go_roundg (p - (k + 1))
                  case measure => omega
                  case rel => exact ⟨k + 1, false, by omega, by omega, rfl, rfl, by go_num, H2.out.1, rfl⟩
            · obtain rfl : p = k := by omega
              by_cases hi : i < xs.length
              · have i2 : (i : Int) < (xs.length : Int) := by omega
                obtain ⟨n, q1, q2, q3, q4, q5, q6, q7⟩ := HX.out.1.next hi
                rw [← HP.out.1] at q2
                obtain ⟨ao, cap, hv, _, _, hc⟩ := HX.out.2.2
                cases hv
                obtain ⟨b, off, rfl, _, hbl, hc⟩ := hc (by omega)
                obtain ⟨d0, d1, d2⟩ := hc i hi
                have hkk := HK.out _ (List.getElem_mem hi)
                obtain ⟨kd, text, pos, hx⟩ : ∃ kd text pos, xs[i] = ⟨kd, text, pos⟩ := ⟨_, _, _, rfl⟩
                rw [hx] at q1 q2 q3 q4 q6 q7 d0 d1 d2 hkk
                simp only at q1 q2 q3 q4 q6 q7 d0 d1 d2 hkk
                obtain rfl : p = pos := q2.symm
                have hcf : c = false := by
                  cases c with
                  | false => rfl
                  | true => have := congrArg List.length (To.sil_true_pos _ (show To.sil true (s.drop p) = 0 by omega)); rw [List.length_drop, List.length_nil] at this; omega
                subst hcf
                have hkd1 : (1 : Int) ≤ (kd : Int) := by omega
                have hkd2 : (kd : Int) ≤ 3 := by omega
                have htl : (bs text).size = n := by rw [bs_size, q4, List.length_take, List.length_drop]; omega
                have hte : (bs text).toList.isEmpty = false := by
                  have : text.length = n := by rw [← htl, bs_size]
                  rw [ByteArray.toList_eq, bs_list]
                  cases text with
                  | nil => simp at this; omega
                  | cons _ _ => rfl
                have hsl := sl_pn s (s.drop p) p n rfl (by omega)
                rw [← q4] at hsl
                have hn1 : (n : Int) ≤ (s.length : Int) - (p : Int) := by omega
                have hn2 : (p : Int) + (n : Int) ≤ (s.length : Int) := by omega
                have n0 : (0 : Int) ≤ (n : Int) := by omega
                have hwr : IntKind.i64.wrap ((s.length : Int) - (p : Int)) = (s.length : Int) - (p : Int) := IntWalk.i64_in _ (by omega)
                have hwr2 : IntKind.i64.wrap ((p : Int) + (n : Int)) = (p : Int) + (n : Int) := IntWalk.i64_in _ (by omega)
                have dd4 : decide ((kd : Int) < 1) = false := by simp; omega
                have dd5 : decide (3 < (kd : Int)) = false := by simp; omega
                have dd3 : decide ((s.length : Int) - (p : Int) < (n : Int)) = false := by simp; omega
                obtain ⟨bx, hbx⟩ : ∃ bx, bx = wr.heap.size := ⟨_, rfl⟩
                have T3 := Turn.alloc wr g3 602 (.cells #[.int .u8 (kd : Int), .string (bs text), .int .i64 (p : Int)] 30)
                have B3 := Box1.alloc wr g3 30 602 #[.int .u8 (kd : Int), .string (bs text), .int .i64 (p : Int)]
                have X3 := Lib.hid (And.intro (HX.out.2.1.trans T3 (V := []) (by simp) (by simp)) (And.intro (HX.out.2.2.turn T3 (by simp)) B3))
                have HN := Lib.hid (And.intro q5 (And.intro q6 q7))
                clear T3 B3 hc q1 q3 q4 q5 q6 q7 hx hkk hsk hi hbl
                go_upto_region 23 with fail
                go_wp2_with fail
                go_quiet (fail)
                have T5 := Turn.drewN (wr.alloc (.cells #[.int .u8 (kd : Int), .string (bs text), .int .i64 (p : Int)] 30)) (g3.ext wr.heap.size 602) nq
                have X5 := Lib.hid (And.intro (X3.out.1.trans T5 (V := []) (by simp) (by simp)) (And.intro (X3.out.2.1.turn T5 (by simp)) (X3.out.2.2.turn T5 (by simp))))
                clear T5 X3
                rw [← hbx] at X5 ⊢
                generalize g3.ext bx 602 = g5 at X5
                generalize (wr.alloc (.cells #[.int .u8 (kd : Int), .string (bs text), .int .i64 (p : Int)] 30)).drewN nq = w5 at X5 ⊢
                clear hbx d0 d1 d2 hsl
                have d1 : w5.cell? ⟨bx, 1, none⟩ = some (.string (bs text)) := (X5.out.2.2.cell 1).1
                go_wp2_with fail
                go_roundg (xs.length - (i + 1))
                case measure => omega
                case rel => exact ⟨i + 1, p + n, g5, rfl, by go_num, rfl, by go_num, HN.out.2.2, X5.out.1, X5.out.2.1⟩
              · obtain rfl : i = xs.length := by omega
                clear hsk hi
                go_wp2_with fail
                refine alive_t g3 fun w3 g4 T3 => ?_
                have X3 := Lib.hid (HX.out.2.1.trans T3 (V := []) (by simp) (by simp))
                clear T3
                go_wp2_with fail
                exact H.out w3 g4 X3.out

theorem places_any (w : World) (s : ByteArray) (hs : s.size ≤ maxLen) : Calls Tryd.prog 4 #[.string s] w fun e w' => e = .returned (.bool true) ∧ Below w.heap.size w w' := by
  rw [bs_of s]
  rw [bs_of s, bs_size] at hs
  exact places_t _ (by unfold maxLen at hs; omega) fun w' g' T => ⟨rfl, below_of' T⟩
end Go.Proofs.YtmohejemgpnclaaDoor
