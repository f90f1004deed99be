/- The statement TokensReads: its walk. -/
import Derived.Test.YtcldcigopkfmmaaGreatDoorGkTokenAp
import Derived.Test.YtcldcigopkfmmaaGreatDoorToToks
import Derived.Test.YtcldcigopkfmmaaGreatDoorTrRead
namespace Go.Proofs.YtcldcigopkfmmaaGreatDoor
open Go.RowKit Go.My

theorem read_len (s : List UInt8) : (To.read s).1.length ≤ 65536 := by
  unfold To.read
  split
  · exact Nat.zero_le _
  · rename_i h
    split
    · exact Nat.zero_le _
    · have := To.all_len s; show (To.all s).1.length ≤ _; omega

set_option maxRecDepth 100000 in
set_option maxHeartbeats 4000000 in
theorem reads_any (w : World) (a : ByteArray) (ha : a.size ≤ 9223372036854775807) (htab : Lib.TabIs Tryz.prog w "internal/strconv.uint64pow10" .u64 Lib.pow10Tab) :
    Calls Tryz.prog 3 #[.string a] w fun e w' => e = .returned (.bool true) ∧ Below w.heap.size w w' := by
  obtain ⟨s, rfl⟩ : ∃ s, a = bs s := ⟨a.data.toList, by apply ByteArray.ext; simp [bs]⟩
  have hs0 := bs_size s
  have HTB := Lib.hid (Lib.tabBelow_of_tabIs htab)
  clear htab
  rw [bs_size] at ha
  go_enter Tryz.func3, Tryz.ntmps3
  by_cases hlong : 70000 < s.length
  · have hl1 : (70000 : Int) < (s.length : Int) := by omega
    clear hlong
    go_wp2_with fail
    go_ret
    exact ⟨rfl, Below.refl _ _⟩
  · have hl1 : (s.length : Int) ≤ 70000 := by omega
    clear hlong
    obtain ⟨r, hr⟩ : ∃ r, r = To.read s := ⟨_, rfl⟩
    have hlen := read_len s
    rw [← hr] at hlen
    have HR := Lib.hid hr
    have HL := Lib.hid hlen
    clear hr hlen
    go_wp2_with fail
    refine read_t (fun _ => 0) (entTag kToken 0) s fun v1 w1 g1 T1 O1 => ?_
    rw [← HR.out] at O1 ⊢
    obtain ⟨a1, c1, rfl⟩ := O1.form
    have X1 := Lib.hid (And.intro ((Since.start w).turn T1 (by simp)) O1)
    clear T1 O1
    go_wp2_with fail
    refine read_t g1 (entTag kToken 1) s fun v2 w2 g2 T2 O2 => ?_
    rw [← HR.out] at O2 ⊢
    obtain ⟨a2, c2, rfl⟩ := O2.form
    have X2 := Lib.hid (And.intro (X1.out.1.turn T2 (by simp)) (And.intro (X1.out.2.turn T2 (by simp)) O2))
    clear T2 O2 X1
    go_wp2_with fail
    refine refread_t g2 2 s fun v3 w3 g3 T3 O3 => ?_
    rw [← HR.out] at O3 ⊢
    obtain ⟨a3, c3, rfl⟩ := O3.form
    have X3 := Lib.hid (And.intro (X2.out.1.turn T3 (by simp)) (And.intro (X2.out.2.1.turn T3 (by simp)) (And.intro (X2.out.2.2.turn T3 (by simp)) (toks_of_owns O3))))
    clear T3 O3 X2
    obtain ⟨⟨xs, p, e⟩, rfl⟩ : ∃ q : List To.T × Nat × Nat, r = q := ⟨_, rfl⟩
    go_wp2_with fail
    refine (sameToks_eq w3 g3 xs (toks_of_owns X3.out.2.1) X3.out.2.2.2).mono ?_
    rintro e4 w4 ⟨rfl, n4, hw4⟩
    have T4 := Turn.drewN w3 g3 n4
    rw [← hw4] at T4
    have X4 := Lib.hid (And.intro (X3.out.1.turn T4 (by simp)) (And.intro (X3.out.2.1.turn T4 (by simp)) (And.intro (X3.out.2.2.1.turn T4 (by simp)) (X3.out.2.2.2.turn T4 (by simp)))))
    clear T4 X3 hw4
    go_wp2_with fail
    refine (sameToks_eq w4 g3 xs (toks_of_owns X4.out.2.2.1) X4.out.2.2.2).mono ?_
    rintro e5 w5 ⟨rfl, n5, hw5⟩
    have T5 := Turn.drewN w4 g3 n5
    rw [← hw5] at T5
    have X5 := Lib.hid (And.intro (X4.out.1.turn T5 (by simp)) (And.intro (X4.out.2.1.turn T5 (by simp)) (X4.out.2.2.1.turn T5 (by simp))))
    clear T5 X4 hw5
    have hTab : Tab w5 g3 := ⟨w.heap.size, HTB.out.on X5.out.1.below, X5.out.1.zero, X5.out.1.below.size⟩
    have B6 := bk1_new w5 g3 hTab
    have T6 := Turn.alloc w5 g3 801 (.cells #[.int .i64 0, .slice none 0 0, .slice none 0 0, .slice none 0 0, .slice none 0 0, .slice none 0 0, .slice none 0 0, .slice none 0 0, .slice none 0 0, .slice none 0 0, .slice none 0 0, .slice none 0 0, .slice none 0 0] 40)
    have X6 := Lib.hid (And.intro (X5.out.1.turn T6 (by simp)) (And.intro (X5.out.2.1.turn T6 (by simp)) (X5.out.2.2.turn T6 (by simp))))
    have B6' := Lib.hid B6
    obtain ⟨kp, hkp⟩ : ∃ kp, kp = w5.heap.size := ⟨_, rfl⟩
    rw [← hkp] at X6 B6'
    clear T6 B6 hTab X5
    go_upto_region 9 with fail
    rw [← hkp]
    generalize w5.alloc (.cells #[.int .i64 0, .slice none 0 0, .slice none 0 0, .slice none 0 0, .slice none 0 0, .slice none 0 0, .slice none 0 0, .slice none 0 0, .slice none 0 0, .slice none 0 0, .slice none 0 0, .slice none 0 0, .slice none 0 0] 40) = w6 at *
    generalize g3.ext kp 801 = g6 at *
    clear hkp
    have hxl : xs.length ≤ 1000000000 := by exact Nat.le_trans HL.out (by decide)
    have HXL := Lib.hid hxl
    clear hxl
    go_wp2_with fail
    refine list_add B6'.out (by decide) a1 xs.length c1 HXL.out X6.out.2.1 fun w7 g7 cs7 T7 B7 => ?_
    have hE : ∀ j, entTag kToken j ∉ [801, arrTag kToken] := fun j => by unfold entTag arrTag; simp [kToken]; omega
    have X7 := Lib.hid (And.intro (X6.out.1.turn T7 (by decide)) (And.intro B7 (X6.out.2.2.turn T7 (hE _))))
    clear T7 B7 X6 B6' hE
    go_wp2_with fail
    refine list_add X7.out.2.1 (by decide) a2 xs.length c2 HXL.out X7.out.2.2 fun w8 g8 cs8 T8 B8 => ?_
    have X8 := Lib.hid (And.intro (X7.out.1.turn T8 (by decide)) B8)
    clear T8 B8 X7
    go_wp2_with fail
    refine apart1_t X8.out.2 fun w9 g9 hA => ?_
    have X9 := Lib.hid (hA.below X8.out.1)
    clear hA X8
    go_wp2_with fail
    go_ret
    exact ⟨rfl, X9.out.below⟩
end Go.Proofs.YtcldcigopkfmmaaGreatDoor
