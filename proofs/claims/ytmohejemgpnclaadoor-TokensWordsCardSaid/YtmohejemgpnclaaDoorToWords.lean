/- Tokens: the walk of TokensWords. -/
import Derived.Test.YtmohejemgpnclaaDoorToAlive
import Derived.Test.YtmohejemgpnclaaDoorToWPlain
namespace Go.Proofs.YtmohejemgpnclaaDoor
open Go.RowKit Go.My

theorem bs_tl' (l : List UInt8) : (bs l).toList = l := by rw [ByteArray.toList_eq, bs_list]

/-- Ahead of the i-th of the seven words. -/
def ownAt (w2 : World) (s : List UInt8) (gk : Nat) (vt vi : Value) (wr : World) : Prop :=
  ∃ i : Nat, i ≤ 7 ∧ gk = 7 - i ∧ vi = .int .i64 (i : Int) ∧ vt = .bool ((To.own.take i).contains s) ∧ wr = w2

def ownCells : Array Value := #[.string ⟨#[102, 110]⟩, .string ⟨#[105, 102]⟩, .string ⟨#[101, 108, 115, 101]⟩, .string ⟨#[119, 104, 105, 108, 101]⟩, .string ⟨#[114, 101, 116, 117, 114, 110]⟩, .string ⟨#[116, 101, 108, 108]⟩, .string ⟨#[110, 111, 116]⟩]
theorem own_at (i : Nat) (hi : i < 7) : ownCells[i]? = some (.string (bs (To.own[i]'hi))) :=
  match i, hi with
  | 0, _ => rfl | 1, _ => rfl | 2, _ => rfl | 3, _ => rfl | 4, _ => rfl | 5, _ => rfl | 6, _ => rfl
  | n + 7, h => absurd h (by omega)
theorem contains_take (l : List (List UInt8)) (s : List UInt8) (i : Nat) (hi : i < l.length) : (l.take (i + 1)).contains s = ((l.take i).contains s || s == l[i]) := by
  rw [List.take_succ_eq_append_getElem hi, Bool.eq_iff_iff]
  simp only [List.contains_iff_mem, List.mem_append, List.mem_singleton, Bool.or_eq_true, beq_iff_eq]
theorem own_take (s : List UInt8) (i : Nat) (hi : i < 7) : (To.own.take (i + 1)).contains s = ((To.own.take i).contains s || s == To.own[i]'hi) := contains_take To.own s i hi

set_option maxRecDepth 100000 in
set_option maxHeartbeats 4000000 in
theorem words_t {w : World} (s : List UInt8) {Q : Ending → World → Prop} (hs9 : s.length ≤ 9223372036854775807) (h : ∀ w' g', Turn w (fun _ => 0) w' g' [] → Q (.returned (.bool true)) w') :
    Calls Tryd.prog 6 #[.string (bs s)] w Q := by
  have H := Lib.hid h
  have hs1 := bs_size s
  clear h
  go_enter Tryd.func6, Tryd.ntmps6
  by_cases hlong : 65536 < s.length
  · have hl1 : (65536 : Int) < (s.length : Int) := by omega
    go_wp2_with fail
    refine alive_t (fun _ => 0) fun w1 g1 T1 => ?_
    go_wp2_with fail
    refine alive_t g1 fun w2 g2 T2 => ?_
    have T := Lib.hid (T1.trans T2 (V := []) (by simp) (by simp))
    go_wp2_with fail
    exact H.out w2 g2 T.out
  · have hl1 : (s.length : Int) ≤ 65536 := by omega
    have HL := Lib.hid (And.intro hlong (To.one_name s (by omega)))
    clear hlong
    go_wp2_with fail
    refine alive_t (fun _ => 0) fun w1 g1 T1 => ?_
    go_wp2_with fail
    obtain ⟨r, hr⟩ : ∃ r, r = To.read s := ⟨_, rfl⟩
    have HR := Lib.hid hr
    refine read_k g1 601 s fun a2 c2 w2 g2 T2 K2 => ?_
    rw [← hr] at K2 ⊢
    have X := Lib.hid (And.intro (T1.trans T2 (V := []) (by simp) (by simp)) K2)
    clear T1 T2 K2 hr
    go_upto_region 4 with fail
    go_cut [6] (fun v6 wx => v6 = .bool (To.one s) ∧ wx = w2)
    case first =>
      obtain ⟨xs, p, e⟩ := r
      obtain ⟨ao, cap, hv, _, _, hc⟩ := X.out.2
      cases hv
      by_cases he : e = 0
      · subst he
        by_cases hx : xs.length = 1
        · obtain ⟨b, off, rfl, _, _, hc⟩ := hc (by simp only; omega)
          obtain ⟨c0, c1, _⟩ := hc 0 (by simp only; omega)
          obtain ⟨x, rfl⟩ : ∃ x, xs = [x] := by cases xs with | nil => simp at hx | cons x xs => cases xs with | nil => exact ⟨x, rfl⟩ | cons y xs => simp at hx
          have hone0 := Lib.hid (show To.one s = (x.kind == 1 && x.text == s) by unfold To.one; rw [← HR.out]; rfl)
          simp only [List.getElem_cons_zero, Nat.zero_mul, Nat.add_zero] at c0 c1
          by_cases hk : x.kind = 1
          · have hk1 : (x.kind : Int) = 1 := by omega
            rw [hk1] at c0
            obtain ⟨o, ho⟩ : ∃ o, o = x.text := ⟨_, rfl⟩
            rw [← ho] at c1 hone0
            rw [hk] at hone0
            clear ho hk hk1
            obtain ⟨c, hcc⟩ : ∃ c, c = (o == s) := ⟨_, rfl⟩
            rw [← hcc] at hone0
            have hcmp : ((bs o).toList == (bs s).toList) = c := by rw [bs_tl', bs_tl', hcc]
            clear hcc
            cases c
            all_goals
              go_wp2_with fail
              go_meet
              case rel => exact ⟨by rw [hone0.out]; rfl, rfl⟩
          · have hone := Lib.hid (show To.one s = false by rw [hone0.out]; simp [hk])
            have hx1 : decide ((x.kind : Int) = 1) = false := by simp; omega
            have hx2 : ((x.kind : Int) == 1) = false := by simp; omega
            clear hk
            go_wp2_with fail
            go_meet
            case rel => exact ⟨by rw [hone.out], rfl⟩
        · have hone := Lib.hid (show To.one s = false by unfold To.one; rw [← HR.out]; cases xs with | nil => rfl | cons x xs => cases xs with | nil => exact absurd rfl hx | cons y xs => rfl)
          have hx1 : decide ((xs.length : Int) = 1) = false := by simp; omega
          have hx2 : ((xs.length : Int) == 1) = false := by simp; omega
          clear hx hc
          go_wp2_with fail
          go_meet
          case rel => exact ⟨by rw [hone.out], rfl⟩
      · have hone := Lib.hid (show To.one s = false by unfold To.one; rw [← HR.out]; cases xs with | nil => rfl | cons x xs => cases xs with | nil => (cases e with | zero => exact absurd rfl he | succ e => rfl) | cons y xs => rfl)
        have hx1 : decide ((e : Int) = 0) = false := by simp; omega
        have hx2 : ((e : Int) == 0) = false := by simp; omega
        clear he hc
        go_wp2_with fail
        go_meet
        case rel => exact ⟨by rw [hone.out], rfl⟩
    case rest =>
      obtain ⟨rfl, rfl⟩ := hcut
      obtain ⟨bw, hbw⟩ : ∃ bw, bw = wc.heap.size := ⟨_, rfl⟩
      have T3 := Turn.alloc wc g2 602 (.cells ownCells 9)
      have B3 := Box1.alloc wc g2 9 602 ownCells
      have X3 := Lib.hid (And.intro (X.out.1.trans T3 (V := []) (by simp) (by simp)) B3)
      clear T3 B3 X
      go_wp2_with fail
      have e : wc.alloc (.cells #[.string ⟨#[102, 110]⟩, .string ⟨#[105, 102]⟩, .string ⟨#[101, 108, 115, 101]⟩, .string ⟨#[119, 104, 105, 108, 101]⟩, .string ⟨#[114, 101, 116, 117, 114, 110]⟩, .string ⟨#[116, 101, 108, 108]⟩, .string ⟨#[110, 111, 116]⟩] 9) = wc.alloc (.cells ownCells 9) := rfl
      rw [e]
      clear e
      rw [← hbw] at X3 ⊢
      clear hbw
      generalize g2.ext bw 602 = g3 at X3
      generalize wc.alloc (.cells ownCells 9) = w3 at X3 ⊢
      go_loopg [8, 9] 7 (fun gk vt vi wr => ownAt w3 s gk vt vi wr)
      case atStart => exact ⟨0, by omega, rfl, rfl, rfl, rfl⟩
      case round =>
        obtain ⟨i, hi, rfl, rfl, rfl, rfl⟩ := hrel
        have i0 : (0 : Int) ≤ (i : Int) := by omega
        by_cases hlt : i < 7
        · have i1 : (i : Int) < 7 := by omega
          have hst := Lib.hid (own_take s i hlt)
          obtain ⟨b, hb⟩ : ∃ b, b = (To.own.take i).contains s := ⟨_, rfl⟩
          rw [← hb] at hst ⊢
          clear hb
          cases b with
          | true =>
            go_wp2_with fail
            go_roundg (7 - (i + 1))
            case measure => omega
            case rel => exact ⟨i + 1, by omega, rfl, by go_num, by rw [hst.out]; rfl, rfl⟩
          | false =>
            have cw : wr.cell? ⟨bw, i, none⟩ = some (.string (bs (To.own[i]'hlt))) := ((X3.out.2.cell i).1).trans (own_at i hlt)
            obtain ⟨o, ho⟩ : ∃ o, o = To.own[i]'hlt := ⟨_, rfl⟩
            rw [← ho] at cw hst
            clear ho hlt
            obtain ⟨c, hc⟩ : ∃ c, c = (s == o) := ⟨_, rfl⟩
            rw [← hc] at hst
            have hcmp : ((bs s).toList == (bs o).toList) = c := by rw [bs_tl', bs_tl', hc]
            clear hc
            cases c
            all_goals
              go_wp2_with fail
              go_roundg (7 - (i + 1))
              case measure => omega
              case rel => exact ⟨i + 1, by omega, rfl, by go_num, by rw [hst.out]; rfl, rfl⟩
        · obtain rfl : i = 7 := by omega
          clear hlt
          have e7 : (To.own.take 7).contains s = To.own.contains s := rfl
          rw [e7]
          have hN := HL.out.2
          obtain ⟨b1, hb1⟩ : ∃ b1, b1 = To.one s := ⟨_, rfl⟩
          obtain ⟨b2, hb2⟩ : ∃ b2, b2 = To.own.contains s := ⟨_, rfl⟩
          rw [← hb1, ← hb2] at hN ⊢
          have HN := Lib.hid hN
          clear hN hb1 hb2 e7
          cases b1 <;> cases b2
          all_goals
            go_wp2_with fail
            refine name_t s hs9 fun w4 B => ?_
            rw [HN.out]
            have X4 := Lib.hid (X3.out.1.trans (Turn.of_below B g3 602) (V := []) (by simp) (by simp))
            clear B
            go_wp2_with fail
            exact H.out w4 _ X4.out

theorem below_of {w w' : World} {g g' : Tags} (T : Turn w g w' g' []) : Below w.heap.size w w' := ⟨T.os, T.tape, T.output, T.size, fun k hk => T.block k hk (by simp)⟩

theorem words_any (w : World) (s : ByteArray) (hs : s.size ≤ maxLen) : Calls Tryd.prog 6 #[.string s] w fun e w' => e = .returned (.bool true) ∧ Below w.heap.size w w' := by
  rw [bs_of s]
  rw [bs_of s, bs_size] at hs
  exact words_t _ (by unfold maxLen at hs; omega) fun w' g' T => ⟨rfl, below_of T⟩
end Go.Proofs.YtmohejemgpnclaaDoor
