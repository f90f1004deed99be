/- A book of lists of bytes: it looks; all of it. -/
import Derived.Test.YtoedalocfepkoaaGreatDoorBk2
namespace Go.Proofs.YtoedalocfepkoaaGreatDoor
open Go.RowKit Go.My

theorem is_t (c : Nat) (hc : c ≤ 1000000000) (w : World) : Calls Tryz.prog 81 #[.int .u8 (1 + (c : Int) % 250), .int .i64 (c : Int)] w fun e w' => e = .returned (.bool true) ∧ w' = w := by
  have h0 : (0 : Int) ≤ (c : Int) := by omega
  have h1 : (c : Int) ≤ 1000000000 := by omega
  go_enter Tryz.func81, Tryz.ntmps81
  go_wp2
  go_ret
  simp

def LookAt (w : World) (g : Tags) (bp : Nat) (cs : Array Value) (hs : List Ent) (gk : Nat) (v3 : Value) (wr : World) : Prop :=
  ∃ (i : Nat) (g' : Tags), i ≤ hs.length ∧ gk = hs.length - i ∧ v3 = .int .i64 (i : Int) ∧ Turn w g wr g' [] ∧ Book wr g' bp cs hs ∧ GrownTo wr g' hs hs.length

def Look1 (wx : World) (n gk : Nat) (v5 : Value) (wr : World) : Prop := ∃ k q : Nat, k ≤ n ∧ gk = n - k ∧ v5 = .int .i64 (k : Int) ∧ wr = wx.drewN q

set_option maxRecDepth 100000 in
set_option maxHeartbeats 4000000 in
theorem look_t' {w : World} {g : Tags} {bp : Nat} {cs : Array Value} {hs : List Ent} (hB : Book w g bp cs hs) (hF : GrownTo w g hs hs.length) {Q : Ending → World → Prop}
    (h : ∀ w' g', Turn w g w' g' [] → Book w' g' bp cs hs → Q (.returned (.bool true)) w') :
    Calls Tryz.prog 56 #[.pointer (some ⟨bp, 0, none⟩)] w Q := by
  have H := Lib.hid h
  have X0 := Lib.hid (And.intro hB hF)
  clear h hB hF
  go_enter Tryz.func56, Tryz.ntmps56
  go_wp2_with fail
  go_loopg [3] hs.length (fun gk v3 wr => LookAt w g bp cs hs gk v3 wr)
  case atStart => exact ⟨0, g, Nat.zero_le _, rfl, rfl, Turn.refl _ _ _, X0.out.1, X0.out.2⟩
  case round =>
    obtain ⟨i, g1, hi, rfl, rfl, hT, hB, hF⟩ := hrel
    obtain ⟨vb, hvb, hA⟩ := hB.arr
    obtain ⟨ao, cap, hform⟩ := hA.form
    subst hform
    have c1 : wr.cell? ⟨bp, 1, none⟩ = some (.slice ao hs.length cap) := (hB.box.cell 1).1.trans hvb
    have i0 : (0 : Int) ≤ (i : Int) := by omega
    have hm : (hs.length : Int) ≤ 1000000000 := by have := hB.few; omega
    have X := Lib.hid (And.intro hT (And.intro hB hF))
    clear hT hF X0
    by_cases hlt : i < hs.length
    · have i1 : (i : Int) < (hs.length : Int) := by omega
      obtain ⟨b, off, cap', hv, hgb, _, _, hbl, hc⟩ := hA.cell (by omega)
      cases hv
      obtain ⟨r0, r1, r2⟩ := rows_at hs i hlt
      have d0 : wr.cell? ⟨b, off + i * 3, none⟩ = some hs[i].v := (hc (i * 3) (by omega)).1.trans r0
      have d1 : wr.cell? ⟨b, off + i * 3 + 1, none⟩ = some hs[i].long := (hc (i * 3 + 1) (by omega)).1.trans r1
      have d2 : wr.cell? ⟨b, off + i * 3 + 2, none⟩ = some (.int .i64 (hs[i].num : Int)) := (hc (i * 3 + 2) (by omega)).1.trans r2
      have hok := hB.ok _ (List.getElem_mem hlt)
      have hx := X.out.2.2 i hlt
      rw [if_pos hlt] at hx
      obtain ⟨x, hxx⟩ : ∃ x, x = hs[i] := ⟨_, rfl⟩
      rw [← hxx] at d0 d1 d2 hok hx
      clear hxx
      obtain ⟨va, n, vc, la, ll, lc, num⟩ := x
      simp only [Ent.v, Ent.long] at d0 d1 d2 hok hx
      obtain ⟨rfl, hx⟩ := hx
      have T2 := Turn.alloc wr g1 900 (.cells #[.slice va n vc, .slice la (n + 40) lc, .int .i64 (num : Int)] 79)
      have B2 := Bx.alloc wr g1 79 900 #[.slice va n vc, .slice la (n + 40) lc, .int .i64 (num : Int)]
      have X2 := Lib.hid (And.intro T2 (And.intro B2 (hx.turn T2 (by simp))))
      have hn1 : (n : Int) ≤ 1000000000 := by have := hok.1; omega
      have hnum : (num : Int) ≤ 1000000000 := by have := hok.2.2; omega
      have HL := Lib.hid hlt
      clear T2 B2 hx hok hvb hA hB hc r0 r1 r2 hi
      go_upto_region 5 with fail
      obtain ⟨bx, hbx⟩ : ∃ bx, bx = wr.heap.size := ⟨_, rfl⟩
      rw [← hbx] at X2 ⊢
      generalize hw2 : wr.alloc (.cells #[.slice va n vc, .slice la (n + 40) lc, .int .i64 (num : Int)] 79) = w2 at X2 ⊢
      generalize g1.ext bx 900 = g2 at X2
      clear hw2 d0 d1 d2 hbx c1
      have e0 : w2.cell? ⟨bx, 0, none⟩ = some (.slice va n vc) := (X2.out.2.1.cell 0).1
      have e1 : w2.cell? ⟨bx, 1, none⟩ = some (.slice la (n + 40) lc) := (X2.out.2.1.cell 1).1
      have e2 : w2.cell? ⟨bx, 2, none⟩ = some (.int .i64 (num : Int)) := (X2.out.2.1.cell 2).1
      go_wp2_with fail
      go_loopg [5] (n + 40) (fun gk v5 wr => Look1 w2 (n + 40) gk v5 wr)
      case atStart => exact ⟨0, 0, Nat.zero_le _, rfl, rfl, rfl⟩
      case round =>
        obtain ⟨k, q, hk, rfl, rfl, rfl⟩ := hrel
        have k0 : (0 : Int) ≤ (k : Int) := by omega
        by_cases hkn : k < n + 40
        · have k1 : (k : Int) < (n : Int) + 40 := by omega
          obtain ⟨b1, off1, cap1, hv, _, _, _, _, hc⟩ := X2.out.2.2.2.1.cell (by omega)
          cases hv
          have c0 : w2.cell? ⟨b1, off1 + k, none⟩ = some (.int .u8 (1 + (num : Int) % 250)) := by
            rw [(hc k (by omega)).1, List.replicate_append_replicate, List.getElem?_replicate, if_pos hkn]; rfl
          clear hc
          by_cases hk2 : k < n
          · have k2 : decide (k < n) = true := by simp [hk2]
            have k3 : (k : Int) < (n : Int) := by omega
            obtain ⟨b2, off2, cap2, hv, hc2⟩ := X2.out.2.2.cell (by omega)
            cases hv
            have c2 : w2.cell? ⟨b2, off2 + k, none⟩ = some (.int .u8 (1 + (num : Int) % 250)) := hc2 k _ (by rw [List.getElem?_replicate, if_pos hk2]; rfl)
            clear hc2 hk
            go_wp2_with fail
            go_quiet ((go_at_call 81; exact (is_t num (by omega) _).mono fun _ _ h => ⟨h.1, _, h.2⟩))
            go_wp2
            go_roundg (n + 40 - (k + 1))
            case measure => omega
            case rel => exact ⟨k + 1, q + nq, by omega, rfl, by go_num, rfl⟩
          · have k2 : decide (k < n) = false := by simp [hk2]
            have k3 : (n : Int) ≤ (k : Int) := by omega
            clear hk
            go_wp2_with fail
            go_quiet ((go_at_call 81; exact (is_t num (by omega) _).mono fun _ _ h => ⟨h.1, _, h.2⟩))
            go_wp2
            go_roundg (n + 40 - (k + 1))
            case measure => omega
            case rel => exact ⟨k + 1, q + nq, by omega, rfl, by go_num, rfl⟩
        · obtain rfl : k = n + 40 := by omega
          have T4 := X2.out.1.trans (Turn.drewN w2 g2 q) (V := []) (by simp) (by simp)
          have X5 := Lib.hid (And.intro (X.out.1.trans T4 (V := []) (by simp) (by simp)) (And.intro (X.out.2.1.turn T4 (by simp) (by simp)) (X.out.2.2.turn T4 (by simp))))
          clear T4
          go_wp2_with fail
          go_roundg (hs.length - (i + 1))
          case measure => omega
          case rel => exact ⟨i + 1, g2, HL.out, rfl, by go_num, X5.out.1, X5.out.2.1, X5.out.2.2⟩
    · obtain rfl : i = hs.length := by omega
      clear hlt hvb hA hB
      go_wp2_with fail
      exact H.out _ g1 X.out.1 X.out.2.1
end Go.Proofs.YtoedalocfepkoaaGreatDoor
