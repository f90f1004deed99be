/- Trees: TreesMay's walk. -/
import Derived.Test.YtiefpffccmdcoaaDoorNdAliveT
import Derived.Test.YtiefpffccmdcoaaDoorNdCheck3T
namespace Go.Proofs.YtiefpffccmdcoaaDoor
open Go.RowKit Go.My Go.Nd

set_option maxRecDepth 100000 in
set_option maxHeartbeats 8000000 in
theorem may_law (w : World) (s : Tx) : Calls Tryd.prog 6 #[.string (bs s)] w fun e w' => e = .returned (.bool true) ∧ Below w.heap.size w w' := by
  have hs1 := bs_size s
  by_cases hlong : 5000 < s.length
  · have hl : (5000 : Int) < (s.length : Int) := by omega
    clear hlong
    go_enter Tryd.func6, Tryd.ntmps6
    go_wp2_with fail
    refine alive9_t fun w1 hb => ?_
    have K := Lib.hid hb
    clear hb
    go_wp2_with fail
    go_ret
    exact ⟨rfl, K.out⟩
  · have hl : (s.length : Int) ≤ 5000 := by omega
    clear hlong
    go_enter Tryd.func6, Tryd.ntmps6
    go_wp2_with fail
    refine (parse_t s).mono ?_
    rintro e w1 ⟨hb1, pv, rfl, hP⟩
    have hmay := parse_may wrapI s
    have hpl := parse_place wrapI s
    generalize parse wrapI s = res at *
    obtain ⟨p, a, e⟩ := res
    simp only at hP hmay hpl ⊢
    obtain ⟨a1, d1, a2, d2, rfl⟩ := hP.form
    obtain ⟨hF, hN⟩ := hP.parts (· < w1.heap.size) (fun b _ h => h)
    obtain ⟨hA2, hn2, hz2⟩ := Put.new w1 #[.slice a1 p.funcs.length d1, .slice a2 p.body.len d2] 25
    obtain ⟨b4, hb4⟩ : ∃ b4, b4 = w1.heap.size := ⟨_, rfl⟩
    obtain ⟨w2, hw2⟩ : ∃ w2, w2 = w1.alloc (.cells #[.slice a1 p.funcs.length d1, .slice a2 p.body.len d2] 25) := ⟨_, rfl⟩
    rw [← hw2] at hA2 hn2 hz2
    rw [← hb4] at hn2
    have X2 := Lib.hid (And.intro (hb1.trans (hA2.mono hb1.size)) (And.intro hn2 (And.intro (hF.below hA2) (And.intro (hN.below hA2) hA2.size))))
    clear hb1 hP hF hN hA2 hn2 hz2
    go_upto_region 4 with fail
    rw [← hw2, ← hb4]
    have HB4 := Lib.hid hb4
    clear hw2 hb4
    by_cases he : e = 0
    · subst he
      obtain ⟨hchk, ha⟩ := hmay rfl
      subst ha
      have HC := Lib.hid hchk
      clear hmay hpl hchk
      go_wp2_with fail
      refine alive9_t fun w3 hb => ?_
      have K3 := Lib.hid hb
      have row := (hb.block _ (heap_lt X2.out.2.1)).trans X2.out.2.1
      have p0 := cell_of_row w3 b4 0 _ _ _ row
      have p1 := cell_of_row w3 b4 1 _ _ _ row
      simp at p0 p1
      have hsz : w1.heap.size ≤ w3.heap.size := Nat.le_trans X2.out.2.2.2.2 hb.size
      have Y := Lib.hid (And.intro hsz (And.intro (X2.out.2.2.1.below (hb.mono X2.out.2.2.2.2)) (X2.out.2.2.2.1.below (hb.mono X2.out.2.2.2.2))))
      clear hb row hsz
      go_wp2_with fail
      refine (check_t (p := p) Y.out.1 Y.out.2.1 Y.out.2.2).mono ?_
      rintro e w4 ⟨rfl, hb⟩
      rw [HC.out]
      have K4 := Lib.hid (K3.out.trans (hb.mono K3.out.size))
      clear hb
      go_wp2_with fail
      go_ret
      exact ⟨rfl, X2.out.1.trans (K4.out.mono X2.out.1.size)⟩
    · obtain ⟨hf, hbd, hpl1, hpl2⟩ := hpl he
      have hf0 : p.funcs.length = 0 := by rw [hf]; rfl
      have hb0 : p.body.len = 0 := by rw [hbd]; rfl
      have he' : ¬ (e : Int) = 0 := by omega
      rw [hf0, hb0] at X2 ⊢
      have a0 : (0 : Int) ≤ (a : Int) := by omega
      have a1' : (a : Int) ≤ (s.length : Int) := by omega
      have HP2 := Lib.hid hpl2
      have HE := Lib.hid he
      clear hmay hpl hf hbd hf0 hb0 hpl1 hpl2 he
      go_wp2_with fail
      refine alive9_t fun w3 hb => ?_
      have K3 := Lib.hid hb
      have row := (hb.block _ (heap_lt X2.out.2.1)).trans X2.out.2.1
      have p0 := cell_of_row w3 b4 0 _ _ _ row
      have p1 := cell_of_row w3 b4 1 _ _ _ row
      simp at p0 p1
      clear hb row
      by_cases h4 : e = 4
      · subst h4
        go_wp2_with fail
        go_ret
        exact ⟨rfl, X2.out.1.trans (K3.out.mono X2.out.1.size)⟩
      · obtain ⟨rfl, rfl⟩ := HP2.out.resolve_left h4
        go_wp2_with fail
        go_ret
        exact ⟨rfl, X2.out.1.trans (K3.out.mono X2.out.1.size)⟩
theorem may_any (w : World) (s : ByteArray) (_ : s.size ≤ maxLen) : Calls Tryd.prog 6 #[.string s] w fun e w' => e = .returned (.bool true) ∧ Below w.heap.size w w' := by
  rw [bs_of s]
  exact may_law w _
end Go.Proofs.YtiefpffccmdcoaaDoor
