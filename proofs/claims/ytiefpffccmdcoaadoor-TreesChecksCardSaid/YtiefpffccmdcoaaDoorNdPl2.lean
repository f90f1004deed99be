/- Trees: digits without a needless nought. -/
import Derived.Test.YtiefpffccmdcoaaDoorNdPl
namespace Go.My
theorem mem_drop (p : UInt8 → Bool) (c : UInt8) (hp : p c = false) : ∀ l : List UInt8, c ∈ l → c ∈ l.dropWhile p := by
  intro l
  induction l with
  | nil => intro h; cases h
  | cons d l ih =>
    intro h
    rw [List.dropWhile_cons]
    by_cases hd : p d = true
    · rw [if_pos hd]
      rcases List.mem_cons.1 h with rfl | h
      · rw [hp] at hd; cases hd
      · exact ih h
    · rw [if_neg hd]; exact h
theorem drop_none (p : UInt8 → Bool) : ∀ l : List UInt8, (∀ c ∈ l, p c = true) → l.dropWhile p = [] := by
  intro l
  induction l with
  | nil => intro _; rfl
  | cons d l ih => intro h; rw [List.dropWhile_cons, if_pos (h d (List.mem_cons_self ..))]; exact ih fun c hc => h c (List.mem_cons_of_mem _ hc)
theorem trim_all (l cs : List UInt8) (h : ∀ c ∈ l, cs.contains c = true) : Lib.trimS l cs = [] := by
  unfold Lib.trimS Lib.trimLeftS Lib.trimRightS
  rw [drop_none (cs.contains ·) l.reverse (fun c hc => h c (List.mem_reverse.1 hc))]; rfl
theorem trim_not (l cs : List UInt8) {c : UInt8} (hc : c ∈ l) (hn : cs.contains c = false) : Lib.trimS l cs ≠ [] := by
  intro h
  have h1 := mem_drop (cs.contains ·) c hn l.reverse (List.mem_reverse.2 hc)
  have h2 := mem_drop (cs.contains ·) c hn _ (List.mem_reverse.2 h1)
  unfold Lib.trimS Lib.trimLeftS Lib.trimRightS at h
  rw [h] at h2; cases h2
end Go.My
namespace Go.Proofs.YtiefpffccmdcoaaDoor
open Go.RowKit Go.My

theorem trims_t {w : World} (l : List UInt8) (hl : l.length ≤ 9223372036854775807) {Q : Ending → World → Prop} (h : ∀ w', Below w.heap.size w w' → Q (.returned (.string (bs (Lib.trimS l digits)))) w') :
    Calls Tryd.prog 101 #[.string (bs l), .string (bs digits)] w Q := by
  have hcon := Any.strings_Trim_laid Tryd.lays160 (by kernel_rfl) (bs l) (bs digits) w (by rw [bs_size]; exact hl) (by rw [bs_size]; decide) (by rw [bs_list]; exact cutD.ascii)
  refine Calls.mono (P := Tryd.prog) (f := 101) hcon ?_
  rintro e w' ⟨rfl, hB⟩
  rw [bs_list, bs_list]
  exact h w' hB

theorem isD_in (c : UInt8) : digits.contains c = To.isD c := cutD.is c

theorem plain_zero : Nd.plain [48] = true := by decide
theorem plain_some (s : List UInt8) (hpos : 0 < s.length) (hz : s ≠ [48]) (hall : s.all To.isD = true) : Nd.plain s = ((s[0]).toNat != 48) := by
  by_cases h1 : s.length = 1
  · obtain ⟨c, rfl⟩ : ∃ c, s = [c] := by
      cases s with
      | nil => exact absurd hpos (Nat.lt_irrefl _)
      | cons c r => cases r with
        | nil => exact ⟨c, rfl⟩
        | cons d r => simp at h1
    have hc : c.toNat ≠ 48 := fun h => hz (by rw [show c = 48 from UInt8.toNat_inj.1 h])
    unfold Nd.plain
    rw [hall, Bool.true_and, List.getElem_cons_zero]
    simp [hc]
  · exact plain_two s hpos h1 hall

set_option maxRecDepth 100000 in
set_option maxHeartbeats 4000000 in
theorem plain_t {w : World} (s : List UInt8) (hs : s.length ≤ 9223372036854775807) {Q : Ending → World → Prop} (h : ∀ w', Below w.heap.size w w' → Q (.returned (.bool (Nd.plain s))) w') :
    Calls Tryd.prog 78 #[.string (bs s)] w Q := by
  have H := Lib.hid h
  have hs1 := bs_size s
  have e1 := bs_tlp s
  have e9 := bs_tlp []
  clear h
  by_cases hn : s = []
  · subst hn
    have hp : Nd.plain [] = false := rfl
    rw [hp] at H
    clear hp
    go_enter Tryd.func78, Tryd.ntmps78
    go_wp2_with fail
    exact H.out _ (Below.refl _ _)
  · have he : s.isEmpty = false := by cases s with | nil => exact absurd rfl hn | cons _ _ => rfl
    have hpos : 0 < s.length := List.length_pos_iff.2 hn
    have hpi : (0 : Int) < (s.length : Int) := by omega
    have HS := Lib.hid hs
    by_cases hall : s.all To.isD = true
    · have hr : Lib.trimS s digits = [] := trim_all s digits fun c hc => by rw [isD_in]; exact List.all_eq_true.1 hall c hc
      have HRR := Lib.hid hr
      clear hr
      by_cases hz : s = [48]
      · subst hz
        rw [plain_zero] at H
        clear hall hn
        go_enter Tryd.func78, Tryd.ntmps78
        go_wp2_with fail
        refine trims_t [48] HS.out fun w' hB => ?_
        rw [HRR.out]
        have HB := Lib.hid hB
        clear hB
        go_wp2_with fail
        exact H.out _ HB.out
      · have hix := ix_s s .i64 0 (z := (0 : Int)) rfl hpos
        have hp := plain_some s hpos hz hall
        rw [hp] at H
        have hzb : (s == [48]) = false := by simp [hz]
        generalize s[0] = c at *
        by_cases hc : c.toNat = 48
        · have hcf : ((c.toNat : Int) != 48) = false := by simp [hc]
          have hcb : (c.toNat != 48) = false := by simp [hc]
          rw [hcb] at H
          clear hp hall hn hc hcb hz
          go_enter Tryd.func78, Tryd.ntmps78
          go_wp2_with fail
          refine trims_t s HS.out fun w' hB => ?_
          rw [HRR.out]
          have HB := Lib.hid hB
          clear hB
          go_wp2_with fail
          exact H.out _ HB.out
        · have hcf : ((c.toNat : Int) != 48) = true := by simp; omega
          have hcb : (c.toNat != 48) = true := by simp [hc]
          rw [hcb] at H
          clear hp hall hn hc hcb hz
          go_enter Tryd.func78, Tryd.ntmps78
          go_wp2_with fail
          refine trims_t s HS.out fun w' hB => ?_
          rw [HRR.out]
          have HB := Lib.hid hB
          clear hB
          go_wp2_with fail
          exact H.out _ HB.out
    · have hf : s.all To.isD = false := by simpa using hall
      have hp : Nd.plain s = false := by unfold Nd.plain; rw [hf]; rfl
      rw [hp] at H
      obtain ⟨c, hc, hcn⟩ : ∃ c ∈ s, To.isD c = false := by
        have := List.all_eq_false.1 hf
        obtain ⟨c, h1, h2⟩ := this
        exact ⟨c, h1, by simpa using h2⟩
      have hr := trim_not s digits hc (by rw [isD_in]; exact hcn)
      obtain ⟨r, hrr⟩ : ∃ r, r = Lib.trimS s digits := ⟨_, rfl⟩
      rw [← hrr] at hr
      have e2 := bs_tlp r
      have he2 : r.isEmpty = false := by cases r with | nil => exact absurd rfl hr | cons _ _ => rfl
      have HRR := Lib.hid hrr
      clear hp hall hn hf hc hcn hr hrr
      go_enter Tryd.func78, Tryd.ntmps78
      go_wp2_with fail
      refine trims_t s HS.out fun w' hB => ?_
      rw [← HRR.out]
      have HB := Lib.hid hB
      clear hB
      go_wp2_with fail
      exact H.out _ HB.out
end Go.Proofs.YtiefpffccmdcoaaDoor
