/- Tokens: the walk of TokensAgain. -/
import Derived.Test.YtmohejemgpnclaaDoorToSigns
import Derived.Test.YtmohejemgpnclaaDoorToAgPlain
namespace Go.Proofs.YtmohejemgpnclaaDoor
open Go.RowKit Go.My

/-- The text so far. -/
def TextAt (w2 : World) (b : List UInt8) (xs : List To.T) (gk : Nat) (v9 v10 : Value) (wr : World) : Prop :=
  ∃ i : Nat, i ≤ xs.length ∧ gk = xs.length - i ∧ v9 = .string (bs (b ++ To.txt b (xs.take i))) ∧ v10 = .int .i64 (i : Int) ∧ wr = w2

def EqAt (w1 : World) (n gk : Nat) (v : Value) (wr : World) : Prop :=
  ∃ i m : Nat, i ≤ n ∧ gk = n - i ∧ v = .int .i64 (i : Int) ∧ wr = w1.drewN m

set_option maxRecDepth 100000 in
set_option maxHeartbeats 8000000 in
theorem again_t {w : World} (s : List UInt8) (n : Nat) (hn : n < 256) (hs9 : s.length ≤ 9223372036854775807) {Q : Ending → World → Prop} (h : ∀ w' g', Turn w (fun _ => 0) w' g' [] → Q (.returned (.bool true)) w') :
    Calls Tryd.prog 5 #[.string (bs s), .int .u8 (n : Int)] w Q := by
  have H := Lib.hid h
  have hs1 := bs_size s
  clear h
  obtain ⟨k, hk⟩ : ∃ k, k = n % 4 := ⟨_, rfl⟩
  have hk4 : k < 4 := by omega
  have HK := Lib.hid (show (n : Int) % 4 = (k : Int) by omega)
  have n0 : (0 : Int) ≤ (n : Int) := by omega
  have n1 : (n : Int) ≤ 255 := by omega
  clear hk
  by_cases hlong : 3000 < s.length
  · have hl1 : (3000 : Int) < (s.length : Int) := by omega
    clear hlong
    go_enter Tryd.func5, Tryd.ntmps5
    go_wp2_with fail
    refine alive_t (fun _ => 0) fun w2 g2 T2 => ?_
    have X2 := Lib.hid T2
    clear T2
    go_wp2_with fail
    refine alive_t g2 fun w3 g3 T3 => ?_
    have X3 := Lib.hid (X2.out.trans T3 (V := []) (by simp) (by simp))
    clear T3 X2
    go_wp2_with fail
    exact H.out w3 g3 X3.out
  · have hl1 : (s.length : Int) ≤ 3000 := by omega
    cases ha : (To.all s).2 with
    | some p =>
      have hr : To.read s = ([], p, 4) := by unfold To.read; rw [if_neg (by omega), ha]
      clear hlong ha
      go_enter Tryd.func5, Tryd.ntmps5
      go_wp2_with fail
      refine alive_t (fun _ => 0) fun w2 g2 T2 => ?_
      have X2 := Lib.hid T2
      clear T2
      go_wp2_with fail
      refine read_k g2 601 s fun a3 c3 w3 g3 T3 _ => ?_
      rw [hr]
      have X3 := Lib.hid (X2.out.trans T3 (V := []) (by simp) (by simp))
      clear T3 X2 hr
      go_wp2_with fail
      exact H.out w3 g3 X3.out
    | none =>
      obtain ⟨xs, hxs⟩ : ∃ xs, xs = (To.all s).1 := ⟨_, rfl⟩
      have hr : To.read s = (xs, 0, 0) := by unfold To.read; rw [if_neg (by omega), ha, hxs]
      obtain ⟨b, hb⟩ : ∃ b, b = To.blanks k := ⟨_, rfl⟩
      obtain ⟨hb1, hb7⟩ := To.blanks_len k
      rw [← hb] at hb1 hb7
      obtain ⟨ys, hy, hm⟩ := To.again_read (by rw [hb]; exact To.blanks_are k) hb7 s (by omega)
      rw [← hxs] at hy hm
      have hxl := To.all_len s
      have hxb := To.all_bytes s
      rw [← hxs] at hxl hxb
      have hxl2 : (xs.length : Int) ≤ 3000 := by omega
      have HB := Lib.hid (And.intro hb (And.intro hb1 (And.intro hb7 (And.intro hxb hxl))))
      have HY := Lib.hid (And.intro hy hm)
      clear ha hxs hlong hb hb1 hb7 hxb hxl hy hm
      go_enter Tryd.func5, Tryd.ntmps5
      go_wp2_with fail
      refine alive_t (fun _ => 0) fun w2 g2 T2 => ?_
      have X2 := Lib.hid T2
      clear T2
      go_wp2_with fail
      refine read_k g2 601 s fun a3 c3 w3 g3 T3 K3 => ?_
      rw [hr] at K3 ⊢
      have X3 := Lib.hid (And.intro (X2.out.trans T3 (V := []) (by simp) (by simp)) K3)
      clear T3 X2 hr K3
      go_upto_region 6 with fail
      go_cut [8] (fun v8 wx => v8 = .string (bs b) ∧ ∃ g4, Turn w (fun _ => 0) wx g4 [] ∧ Toks wx g4 601 (.slice a3 xs.length c3) xs)
      case first =>
        obtain ⟨rfl, hk'⟩ | ⟨rfl, hk'⟩ | ⟨rfl, hk'⟩ | ⟨rfl, hk'⟩ : (k = 0 ∧ (n : Int) % 4 = 0) ∨ (k = 1 ∧ (n : Int) % 4 = 1) ∨ (k = 2 ∧ (n : Int) % 4 = 2) ∨ (k = 3 ∧ (n : Int) % 4 = 3) := by have := HK.out; omega
        all_goals
          go_wp2_with fail
          have T4 := Turn.alloc w3 g3 602 (.cells #[.string ⟨#[32]⟩, .string ⟨#[10]⟩, .string ⟨#[9, 13, 10]⟩, .string ⟨#[32, 35, 32, 61, 32, 120, 10]⟩] 9)
          have X4 := Lib.hid (And.intro (X3.out.1.trans T4 (V := []) (by simp) (by simp)) (X3.out.2.turn T4 (by simp)))
          clear T4
          go_meet
          case rel => exact ⟨by rw [HB.out.1]; rfl, _, X4.out.1, X4.out.2⟩
      case rest =>
        obtain ⟨rfl, g4, hT4, hK4⟩ := hcut
        have X4 := Lib.hid (And.intro hT4 hK4)
        clear hT4 hK4 X3 HK
        obtain ⟨w4, rfl⟩ : ∃ w4 : World, w4 = wc := ⟨_, rfl⟩
        go_wp2_with fail
        go_loopg [9, 10] xs.length (fun gk v9 v10 wr => TextAt w4 b xs gk v9 v10 wr)
        case atStart => exact ⟨0, Nat.zero_le _, rfl, by simp [To.txt], rfl, rfl⟩
        case round =>
          obtain ⟨i, hi, rfl, rfl, rfl, rfl⟩ := hrel
          have i0 : (0 : Int) ≤ (i : Int) := by omega
          have hbl := HB.out.2.1
          have hb7 := HB.out.2.2.1
          have hxb := HB.out.2.2.2.1
          have htl : (To.txt b (xs.take i)).length ≤ 30000 := by
            rw [To.txt_len]
            have h1 := To.bytes_take xs i
            have h2 : (xs.take i).length * b.length ≤ 3000 * 7 := Nat.mul_le_mul (by rw [List.length_take]; omega) hb7
            omega
          have HTL := Lib.hid htl
          clear htl hbl hb7 hxb
          by_cases hlt : i < xs.length
          · have i2 : (i : Int) < (xs.length : Int) := by omega
            obtain ⟨ao, cap, hv, _, _, hc⟩ := X4.out.2
            cases hv
            obtain ⟨b0, off, rfl, _, _, hc⟩ := hc (by omega)
            obtain ⟨_, d1, _⟩ := hc i hlt
            have hxt : (xs[i]).text.length ≤ 3000 := by
              have h1 := To.bytes_mem xs i hlt
              have h2 := HB.out.2.2.2.1
              omega
            have hnx : b ++ To.txt b (xs.take (i + 1)) = b ++ To.txt b (xs.take i) ++ (xs[i]).text ++ b := by
              rw [List.take_succ_eq_append_getElem hlt, To.txt_snoc]; simp [List.append_assoc]
            generalize xs[i] = x at *
            have HN := Lib.hid hnx
            obtain ⟨u, hu⟩ : ∃ u, u = b ++ To.txt b (xs.take i) := ⟨_, rfl⟩
            obtain ⟨v, hv⟩ : ∃ v, v = u ++ x.text := ⟨_, rfl⟩
            obtain ⟨z, hz⟩ : ∃ z, z = v ++ b := ⟨_, rfl⟩
            have hul : u.length ≤ 40000 := by have := HTL.out; have := HB.out.2.2.1; rw [hu, List.length_append]; omega
            have hvl : v.length ≤ 50000 := by rw [hv, List.length_append]; omega
            have hadd1 : ∀ wx, (Op.stringOp .add (bs u) (bs x.text)).run Tryd.prog wx = .ok (.string (bs v)) wx := by rw [hv]; exact add_s _ _ (by omega)
            have hadd2 : ∀ wx, (Op.stringOp .add (bs v) (bs b)).run Tryd.prog wx = .ok (.string (bs z)) wx := by rw [hz]; exact add_s _ _ (by have := HB.out.2.2.1; omega)
            have HZ := Lib.hid (show z = b ++ To.txt b (xs.take (i + 1)) by rw [HN.out, hz, hv, hu])
            rw [← hu]
            clear hc hxt hnx hi hlt hu hv hz HN hul hvl
            go_wp2_with fail
            go_roundg (xs.length - (i + 1))
            case measure => omega
            case rel => exact ⟨i + 1, by omega, rfl, by rw [HZ.out], by go_num, rfl⟩
          · obtain rfl : i = xs.length := by omega
            clear hlt hi i0
            go_wp2_with fail
            rw [List.take_length]
            refine read_k g4 603 (b ++ To.txt b xs) fun a5 c5 w5 g5 T5 K5 => ?_
            rw [HY.out.1] at K5 ⊢
            have X5 := Lib.hid (And.intro (X4.out.1.trans T5 (V := []) (by simp) (by simp)) (And.intro (X4.out.2.turn T5 (by simp)) K5))
            clear T5 K5 X4
            have hyl : ys.length = xs.length := by have := congrArg List.length HY.out.2; simpa using this
            have HYL := Lib.hid hyl
            rw [hyl]
            clear hyl
            go_wp2_with fail
            go_loopg [14] xs.length (fun gk v wr => EqAt w5 xs.length gk v wr)
            case atStart => exact ⟨0, 0, Nat.zero_le _, rfl, rfl, rfl⟩
            case round =>
              obtain ⟨i, m, hi, rfl, rfl, rfl⟩ := hrel
              have i0 : (0 : Int) ≤ (i : Int) := by omega
              by_cases hlt : i < xs.length
              · have i2 : (i : Int) < (xs.length : Int) := by omega
                obtain ⟨ao, cap, hv, _, _, hc⟩ := X5.out.2.1
                cases hv
                obtain ⟨b0, off, rfl, _, _, hc⟩ := hc (by omega)
                obtain ⟨d0, d1, dz⟩ := hc i hlt
                obtain ⟨ao, cap, hv, _, _, hc'⟩ := X5.out.2.2
                rw [HYL.out] at hv
                cases hv
                obtain ⟨b1, off1, rfl, _, _, hc'⟩ := hc' (by have := HYL.out; omega)
                obtain ⟨e0, e1, ez⟩ := hc' i (by have := HYL.out; omega)
                have hm := To.map_at HY.out.2 i (by have := HYL.out; omega) hlt
                rw [hm.1] at e0
                rw [hm.2] at e1
                clear hc hc' hm dz ez
                generalize xs[i] = x at *
                go_wp2_with fail
                go_quiet (fail)
                go_wp2
                go_roundg (xs.length - (i + 1))
                case measure => omega
                case rel => exact ⟨i + 1, m + nq, by omega, rfl, by go_num, rfl⟩
              · obtain rfl : i = xs.length := by omega
                clear hlt hi
                have X6 := Lib.hid (X5.out.1.trans (Turn.drewN w5 g5 m) (V := []) (by simp) (by simp))
                go_wp2_with fail
                exact H.out _ g5 X6.out

theorem again_any (w : World) (s : ByteArray) (ws : s.size ≤ 9223372036854775807) (n : Int) (hn : (Lit.int .u8 n).wf = true) : Calls Tryd.prog 5 #[.string s, .int .u8 n] w fun e w' => e = .returned (.bool true) ∧ Below w.heap.size w w' := by
  simp [Lit.wf, IntKind.min, IntKind.max, IntKind.signed, IntKind.bits] at hn
  obtain ⟨n, rfl⟩ : ∃ k : Nat, n = (k : Int) := ⟨n.toNat, by omega⟩
  obtain ⟨l, rfl⟩ : ∃ l, s = bs l := ⟨s.data.toList, (bs_of s).symm⟩
  exact again_t l n (by omega) (by rw [bs_size] at ws; exact ws) fun w' g' T => ⟨rfl, below_of' T⟩
end Go.Proofs.YtmohejemgpnclaaDoor
