/- Trees: TreesSilent's walk. -/
import Derived.Test.YtiefpffccmdcoaaDoorNdBoxT
import Derived.Test.YtiefpffccmdcoaaDoorNdSamePT
import Derived.Test.YtiefpffccmdcoaaDoorNdRankT
import Derived.Test.YtiefpffccmdcoaaDoorTrB1
namespace Go.Proofs.YtiefpffccmdcoaaDoor
open Go.RowKit Go.My Go.Nd

/-- The text so far. -/
def TextAt9 (w2 : World) (b : List UInt8) (xs : List To.T) (gk : Nat) (v9 v10 : Value) (wr : World) : Prop :=
  ∃ i : Nat, i ≤ xs.length ∧ gk = xs.length - i ∧ v9 = .string (bs (b ++ To.txt b (xs.take i))) ∧ v10 = .int .i64 (i : Int) ∧ wr = w2

set_option maxRecDepth 100000 in
set_option maxHeartbeats 8000000 in
theorem silent_law (w : World) (s : Tx) (n : Nat) (hn : n < 256) : Calls Tryd.prog 4 #[.string (bs s), .int .u8 (n : Int)] w fun e w' => e = .returned (.bool true) ∧ Below w.heap.size w w' := by
  have hs1 := bs_size s
  obtain ⟨k, hk⟩ : ∃ k, k = n % 4 := ⟨_, rfl⟩
  have HK := Lib.hid (And.intro (show (n : Int) % 4 = (k : Int) by omega) (show k < 4 by omega))
  have n0 : (0 : Int) ≤ (n : Int) := by omega
  have n1 : (n : Int) ≤ 255 := by omega
  clear hk
  by_cases hlong : 3000 < s.length
  · have hl : (3000 : Int) < (s.length : Int) := by omega
    clear hlong
    go_enter Tryd.func4, Tryd.ntmps4
    go_wp2_with fail
    refine alive9_t fun w1 hb => ?_
    have K := Lib.hid hb
    clear hb
    go_wp2_with fail
    refine alive9_t fun w2 hb => ?_
    have K2 := Lib.hid (K.out.trans (hb.mono K.out.size))
    clear hb
    go_wp2_with fail
    go_ret
    exact ⟨rfl, K2.out⟩
  · have hl : (s.length : Int) ≤ 3000 := by omega
    have HIN := Lib.hid (To.read_in s)
    obtain ⟨xs, hxs⟩ : ∃ xs, xs = (To.read s).1 := ⟨_, rfl⟩
    obtain ⟨at_, hat⟩ : ∃ p, p = (To.read s).2.1 := ⟨_, rfl⟩
    obtain ⟨er, her⟩ : ∃ e, e = (To.read s).2.2 := ⟨_, rfl⟩
    have HR := Lib.hid (And.intro hxs (And.intro hat her))
    have HL := Lib.hid (show s.length ≤ 3000 by omega)
    clear hlong hxs hat her
    go_enter Tryd.func4, Tryd.ntmps4
    go_wp2_with fail
    refine alive9_t fun w1 hb => ?_
    have K := Lib.hid hb
    clear hb
    go_wp2_with fail
    refine read_t (fun _ => 0) 7 s fun v w2 g2 hT hO => ?_
    rw [← HR.out.2.1, ← HR.out.2.2]
    have hk := tokIn_of (toks_of_owns hO) (Nat.le_refl _)
    rw [← HR.out.1] at hk
    have hB := turn_below hT
    have K2 := Lib.hid (And.intro (K.out.trans (hB.mono K.out.size)) hk)
    clear hT hO hB
    obtain ⟨ao, cap, hv, k1, k2, k3⟩ := hk
    subst hv
    clear k1 k2 k3
    by_cases he : er = 0
    · have he' : (er : Int) = 0 := by omega
      obtain ⟨b, hb⟩ : ∃ b, b = blanks9 k := ⟨_, rfl⟩
      have HB := Lib.hid (And.intro hb (And.intro (show 1 ≤ b.length by rw [hb]; exact (blanks9_len k).1) (show b.length ≤ 7 by rw [hb]; exact (blanks9_len k).2)))
      have hsil := silent wrapI (b := b) (by rw [hb]; exact blanks9_are k) HB.out.2.2 s HL.out (by rw [← HR.out.2.2]; exact he)
      have hread := To.read_in s
      have hxl : xs.length ≤ 3000 := by have := HIN.out.2.1; rw [← HR.out.1] at this; have := HL.out; omega
      have hxb : To.bytes xs ≤ 3000 := by
        have h1 := To.all_bytes s
        have h2 : (To.read s).1 = (To.all s).1 := by
          have h3 := HR.out.2.2.symm.trans he
          unfold To.read at h3 ⊢
          have := HL.out
          rw [if_neg (by omega)] at h3 ⊢
          cases hq : (To.all s).2 with
          | some p => rw [hq] at h3; cases h3
          | none => rfl
        rw [HR.out.1, h2]
        have := HL.out
        omega
      rw [← HR.out.1] at hsil
      have HS := Lib.hid hsil
      have HX := Lib.hid (And.intro hxl hxb)
      have hxl2 : (xs.length : Int) ≤ 3000 := by omega
      subst he
      clear hb hsil hread hxl hxb he'
      go_upto_region 7 with fail
      obtain ⟨hA, hn, hz⟩ := Put.new w2 #[.string ⟨#[32]⟩, .string ⟨#[10]⟩, .string ⟨#[9, 13, 10]⟩, .string ⟨#[32, 35, 32, 59, 32, 125, 10]⟩] 9
      go_cut [11] (fun v11 wx => v11 = .string (bs b) ∧ Below w.heap.size w wx ∧ TokIn wx (· < w2.heap.size) (.slice ao xs.length cap) xs)
      case first =>
        have hfin : Below w.heap.size w (w2.alloc (.cells #[.string ⟨#[32]⟩, .string ⟨#[10]⟩, .string ⟨#[9, 13, 10]⟩, .string ⟨#[32, 35, 32, 59, 32, 125, 10]⟩] 9)) ∧ TokIn (w2.alloc (.cells #[.string ⟨#[32]⟩, .string ⟨#[10]⟩, .string ⟨#[9, 13, 10]⟩, .string ⟨#[32, 35, 32, 59, 32, 125, 10]⟩] 9)) (· < w2.heap.size) (.slice ao xs.length cap) xs :=
          ⟨K2.out.1.trans (hA.mono K2.out.1.size), K2.out.2.frame hA.size fun b hb _ => hA.block b hb⟩
        have X4 := Lib.hid hfin
        clear hA hn hz hfin
        obtain ⟨rfl, hk'⟩ | ⟨rfl, hk'⟩ | ⟨rfl, hk'⟩ | ⟨rfl, hk'⟩ : (k = 0 ∧ (n : Int) % 4 = 0) ∨ (k = 1 ∧ (n : Int) % 4 = 1) ∨ (k = 2 ∧ (n : Int) % 4 = 2) ∨ (k = 3 ∧ (n : Int) % 4 = 3) := by have := HK.out; omega
        all_goals
          go_wp2_with fail
          go_meet
          case rel => exact ⟨by rw [HB.out.1]; rfl, X4.out.1, X4.out.2⟩
      case rest =>
        obtain ⟨rfl, hb4, hk4⟩ := hcut
        have X4 := Lib.hid (And.intro hb4 hk4)
        clear hb4 hk4 hA hn hz HK
        obtain ⟨w4, rfl⟩ : ∃ w4 : World, w4 = wc := ⟨_, rfl⟩
        go_wp2_with fail
        go_loopg [12, 13] xs.length (fun gk v9 v10 wr => TextAt9 w4 b xs gk v9 v10 wr)
        case atStart => exact ⟨0, Nat.zero_le _, rfl, by simp [To.txt], rfl, rfl⟩
        case round =>
          obtain ⟨i, hi, rfl, rfl, rfl, rfl⟩ := hrel
          have i0 : (0 : Int) ≤ (i : Int) := by omega
          have htl : (To.txt b (xs.take i)).length ≤ 30000 := by
            have hb7 := HB.out.2.2
            have hxb := HX.out
            rw [To.txt_len]
            have h1 := To.bytes_take xs i
            have h2 : (xs.take i).length * b.length ≤ 3000 * 7 := Nat.mul_le_mul (by rw [List.length_take]; omega) hb7
            omega
          have HTL := Lib.hid htl
          clear htl
          by_cases hlt : i < xs.length
          · have i2 : (i : Int) < (xs.length : Int) := by omega
            obtain ⟨ao, cap, hv, _, _, hc⟩ := X4.out.2
            cases hv
            obtain ⟨b0, off, rfl, _, _, hc⟩ := hc (by omega)
            obtain ⟨_, d1, _⟩ := hc i hlt
            have hxt : (xs[i]).text.length ≤ 3000 := by
              have h1 := To.bytes_mem xs i hlt
              have h2 := HX.out
              omega
            have hnx : b ++ To.txt b (xs.take (i + 1)) = b ++ To.txt b (xs.take i) ++ (xs[i]).text ++ b := by
              rw [List.take_succ_eq_append_getElem hlt, To.txt_snoc]; simp [List.append_assoc]
            generalize xs[i] = x at *
            have HN := Lib.hid hnx
            obtain ⟨u, hu⟩ : ∃ u, u = b ++ To.txt b (xs.take i) := ⟨_, rfl⟩
            obtain ⟨v, hv⟩ : ∃ v, v = u ++ x.text := ⟨_, rfl⟩
            obtain ⟨z, hz⟩ : ∃ z, z = v ++ b := ⟨_, rfl⟩
            have hul : u.length ≤ 40000 := by have := HTL.out; have := HB.out.2.2; rw [hu, List.length_append]; omega
            have hvl : v.length ≤ 50000 := by rw [hv, List.length_append]; omega
            have hadd1 : ∀ wx, (Op.stringOp .add (bs u) (bs x.text)).run Tryd.prog wx = .ok (.string (bs v)) wx := by rw [hv]; exact add_s9 _ _ (by omega)
            have hadd2 : ∀ wx, (Op.stringOp .add (bs v) (bs b)).run Tryd.prog wx = .ok (.string (bs z)) wx := by rw [hz]; exact add_s9 _ _ (by have := HB.out.2.2; omega)
            have HZ := Lib.hid (show z = b ++ To.txt b (xs.take (i + 1)) by rw [HN.out, hz, hv, hu])
            rw [← hu]
            clear hc hxt hnx hi hlt hu hv hz HN hul hvl
            go_wp2_with fail
            go_roundg (xs.length - (i + 1))
            case measure => omega
            case rel => exact ⟨i + 1, by omega, rfl, by rw [HZ.out], by go_num, rfl⟩
          · obtain rfl : i = xs.length := by omega
            clear hlt hi i0
            rw [List.take_length]
            obtain ⟨t, ht⟩ : ∃ t, t = b ++ To.txt b xs := ⟨_, rfl⟩
            have hS := HS.out
            rw [← ht] at hS ⊢
            have HT := Lib.hid hS
            clear hS ht
            go_wp2_with fail
            refine (parse_t s).mono ?_
            rintro e w5 ⟨hb5, pv, rfl, hP⟩
            obtain ⟨a1, d1, a2, d2, rfl, hbox⟩ := PB.of X4.out.1 hb5 hP
            obtain ⟨b5, hb5'⟩ : ∃ b5, b5 = w5.heap.size := ⟨_, rfl⟩
            obtain ⟨p, hp⟩ : ∃ p, p = (parse wrapI s).1 := ⟨_, rfl⟩
            obtain ⟨ep, hep⟩ : ∃ ep, ep = (parse wrapI s).2.2 := ⟨_, rfl⟩
            obtain ⟨ap, hap⟩ : ∃ ap, ap = (parse wrapI s).2.1 := ⟨_, rfl⟩
            rw [← hp] at hbox ⊢
            rw [← hep, ← hap]
            obtain ⟨w6, hw6⟩ : ∃ w6, w6 = w5.alloc (.cells #[.slice a1 p.funcs.length d1, .slice a2 p.body.len d2] 25) := ⟨_, rfl⟩
            rw [← hw6, ← hb5'] at hbox
            have B1 := Lib.hid hbox
            have HP := Lib.hid (And.intro hp hep)
            clear hb5 hP hbox hp hep hap
            go_upto_region 14 with fail
            rw [← hw6, ← hb5']
            clear hw6 hb5'
            go_wp2_with fail
            refine (parse_t t).mono ?_
            rintro e w7 ⟨hb7, pv, rfl, hP⟩
            rw [HT.out.1, ← HP.out.1] at hP
            rw [HT.out.2, ← HP.out.2]
            obtain ⟨a3, d3, a4, d4, rfl, hbox⟩ := PB.of B1.out.below hb7 hP
            obtain ⟨b7, hb7'⟩ : ∃ b7, b7 = w7.heap.size := ⟨_, rfl⟩
            obtain ⟨ap2, hap⟩ : ∃ ap, ap = (parse wrapI t).2.1 := ⟨_, rfl⟩
            rw [← hap]
            obtain ⟨w8, hw8⟩ : ∃ w8, w8 = w7.alloc (.cells #[.slice a3 p.funcs.length d3, .slice a4 p.body.len d4] 25) := ⟨_, rfl⟩
            have hA8 := (Put.new w7 #[.slice a3 p.funcs.length d3, .slice a4 p.body.len d4] 25).1
            rw [← hw8] at hA8
            rw [← hw8, ← hb7'] at hbox
            have B1' := Lib.hid (B1.out.later (hb7.trans (hA8.mono hb7.size)))
            have hbb : b5 ≤ b7 := by have h1 := B1.out.lt; have h2 := hb7.size; omega
            have B2 := Lib.hid (And.intro hbox hbb)
            clear hb7 hP hbox hap hA8 hbb B1
            go_upto_region 15 with fail
            rw [← hw8, ← hb7']
            clear hw8 hb7'
            obtain ⟨c0, c1⟩ := B1'.out.cells
            obtain ⟨c2, c3⟩ := B2.out.1.cells
            have hee : ((ep : Int) == (ep : Int)) = true := by simp
            go_wp2_with fail
            refine (sameProg_t (B := b7) (p := p) (Nat.le_of_lt B2.out.1.lt) (B1'.out.wide B2.out.2).1 (B1'.out.wide B2.out.2).2 B2.out.1.funcs B2.out.1.nodes).mono ?_
            rintro e w9 ⟨rfl, hb⟩
            have K9 := Lib.hid (B2.out.1.below.trans (hb.mono B2.out.1.below.size))
            clear hb c0 c1 c2 c3
            go_wp2_with fail
            go_ret
            exact ⟨rfl, K9.out⟩
    · have he' : ¬ (er : Int) = 0 := by omega
      have hpb := parse_bad0 wrapI s (by rw [← HR.out.2.2]; exact he)
      rw [← HR.out.2.1, ← HR.out.2.2] at hpb
      have HP := Lib.hid hpb
      clear he hpb
      go_wp2_with fail
      refine (parse_t s).mono ?_
      rintro e w5 ⟨hb5, pv, rfl, hP⟩
      rw [HP.out] at hP ⊢
      obtain ⟨a1, d1, a2, d2, rfl, hbox⟩ := PB.of K2.out.1 hb5 hP
      have K5 := Lib.hid hbox.below
      clear hbox hP hb5
      dsimp only at *
      have hee : ((er : Int) == (er : Int)) = true := by simp
      go_wp2_with fail
      go_ret
      exact ⟨rfl, K5.out⟩
theorem silent_any (w : World) (s : ByteArray) (_ : s.size ≤ maxLen) (n : Int) (hn : (Lit.int .u8 n).wf = true) : Calls Tryd.prog 4 #[.string s, .int .u8 n] w fun e w' => e = .returned (.bool true) ∧ Below w.heap.size w w' := by
  simp [Lit.wf, IntKind.min, IntKind.max, IntKind.signed, IntKind.bits] at hn
  obtain ⟨n, rfl⟩ : ∃ k : Nat, n = (k : Int) := ⟨n.toNat, by omega⟩
  rw [bs_of s]
  exact silent_law w _ n (by omega)
end Go.Proofs.YtiefpffccmdcoaaDoor
