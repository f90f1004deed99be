/- Tokens: silence; the table of kinds. -/
import Derived.Test.YtcldcigopkfmmaaGreatDoorToSign
namespace Go.To
theorem sil_run (l : List UInt8) : sil false l = run isB l + sil false (l.drop (run isB l)) := by
  induction l with
  | nil => simp [run, sil]
  | cons c l ih =>
    by_cases h : isB c = true
    · rw [sil, if_pos h, run, if_pos h, ih, List.drop_succ_cons]; omega
    · rw [run, if_neg h]; simp
theorem run_stop (p : UInt8 → Bool) (l : List UInt8) (c : UInt8) (h : (l.drop (run p l)).head? = some c) : p c = false := by
  induction l with
  | nil => simp [run] at h
  | cons d l ih =>
    by_cases hd : p d = true
    · rw [run, if_pos hd, List.drop_succ_cons] at h; exact ih h
    · rw [run, if_neg hd] at h
      simp at h
      subst h
      simpa using hd
theorem sil_stop (c : UInt8) (l : List UInt8) (h1 : isB c = false) (h2 : c.toNat ≠ 35) : sil false (c :: l) = 0 := by
  rw [sil, if_neg (by simp [h1]), if_neg h2]
theorem ib_cons (c : UInt8) (l : List UInt8) (x : UInt8) (h : c ≠ x) : Lib.indexByte (c :: l) x = if Lib.indexByte l x = -1 then -1 else Lib.indexByte l x + 1 := by
  conv => lhs; unfold Lib.indexByte
  rw [if_neg (by simpa using h)]
  by_cases h2 : Lib.indexByte l x = -1
  · rw [if_pos h2, if_pos (by simp [h2])]
  · rw [if_neg h2, if_neg (by simpa using h2)]
theorem ib_same (l : List UInt8) (x : UInt8) : Lib.indexByte (x :: l) x = 0 := by unfold Lib.indexByte; simp
theorem sil_in (l : List UInt8) : (Lib.indexByte l 10 < 0 → sil true l = l.length) ∧ ∀ e : Nat, Lib.indexByte l 10 = e → sil true l = e + sil false (l.drop e) := by
  induction l with
  | nil => exact ⟨fun _ => rfl, fun e h => by simp [Lib.indexByte] at h⟩
  | cons c l ih =>
    by_cases hc : c = 10
    · subst hc
      have e1 : Lib.indexByte (10 :: l) 10 = 0 := ib_same l 10
      refine ⟨fun h => by rw [e1] at h; exact absurd h (by decide), fun e h => ?_⟩
      rw [e1] at h
      have : e = 0 := by omega
      subst this
      rw [List.drop_zero, sil, sil, if_pos (show (10 : UInt8).toNat = 10 from rfl), if_pos (by decide)]; omega
    · have hcn : c.toNat ≠ 10 := fun h => hc (UInt8.toNat_inj.1 h)
      have hp := (Proofs.YtcldcigopkfmmaaGreatDoor.idx_pos l 10).1
      rw [sil, if_neg hcn, ib_cons c l 10 hc]
      by_cases h2 : Lib.indexByte l 10 = -1
      · rw [if_pos h2]
        exact ⟨fun _ => by rw [ih.1 (by omega), List.length_cons], fun e h => by omega⟩
      · rw [if_neg h2]
        refine ⟨fun h => by omega, fun e h => ?_⟩
        obtain ⟨k, rfl⟩ : ∃ k, e = k + 1 := ⟨e - 1, by omega⟩
        have h4 := ih.2 k (by omega)
        rw [h4, List.drop_succ_cons]
        omega
theorem sil_hash (c : UInt8) (l : List UInt8) (h : c.toNat = 35) : (Lib.indexByte (c :: l) 10 < 0 → sil false (c :: l) = (c :: l).length) ∧ ∀ e : Nat, Lib.indexByte (c :: l) 10 = e → 0 < e ∧ sil false (c :: l) = e + sil false ((c :: l).drop e) := by
  have hc : c ≠ 10 := fun e => by rw [e] at h; exact absurd h (by decide)
  have hb : isB c = false := by simp [isB, h]
  have e0 : sil false (c :: l) = sil true (c :: l) := by rw [sil, sil, if_neg (by simp [hb]), if_pos h, if_neg (by omega)]
  rw [e0]
  refine ⟨(sil_in (c :: l)).1, fun e he => ⟨?_, (sil_in (c :: l)).2 e he⟩⟩
  rcases Nat.eq_zero_or_pos e with h0 | h0
  · exfalso
    subst h0
    rw [ib_cons c l 10 hc] at he
    have := (Proofs.YtcldcigopkfmmaaGreatDoor.idx_pos l 10).1
    by_cases h2 : Lib.indexByte l 10 = -1
    · rw [if_pos h2] at he; omega
    · rw [if_neg h2] at he; omega
  · exact h0
end Go.To
namespace Go.Proofs.YtcldcigopkfmmaaGreatDoor
open Go.RowKit Go.My

def SilAt (w : World) (l : List UInt8) (gk : Nat) (vn : Value) (wr : World) : Prop :=
  ∃ n : Nat, n ≤ l.length ∧ gk = l.length - n ∧ vn = .int .i64 (n : Int) ∧ To.sil false l = n + To.sil false (l.drop n) ∧ Below w.heap.size w wr

set_option maxHeartbeats 2000000 in
theorem silence_t {w : World} (l : List UInt8) (hl : l.length ≤ 9223372036854775807) {Q : Ending → World → Prop} (h : ∀ w', Below w.heap.size w w' → Q (.returned (.int .i64 (To.sil false l : Nat))) w') :
    Calls Tryz.prog 67 #[.string (bs l)] w Q := by
  have H := Lib.hid h
  have hs0 := bs_size l
  have hl1 : (l.length : Int) ≤ 9223372036854775807 := by omega
  clear h
  go_enter Tryz.func67, Tryz.ntmps67
  go_wp2_with fail
  go_loopg [2] l.length (fun gk vn wr => SilAt w l gk vn wr)
  case atStart => exact ⟨0, Nat.zero_le _, rfl, rfl, by simp, Below.refl _ _⟩
  case round =>
    obtain ⟨n, hn, rfl, rfl, hsil, hB⟩ := hrel
    have HX := Lib.hid (And.intro hsil hB)
    clear hsil hB
    have n0 : (0 : Int) ≤ (n : Int) := by omega
    have n1 : (n : Int) ≤ (l.length : Int) := by omega
    have hsl := sl_s l .i64 n (z := (n : Int)) rfl hn
    obtain ⟨r, hr⟩ : ∃ r, r = To.run To.isB (l.drop n) := ⟨_, rfl⟩
    have hrl := To.run_le To.isB (l.drop n)
    rw [← hr, List.length_drop] at hrl
    obtain ⟨m, hm⟩ : ∃ m, m = n + r := ⟨_, rfl⟩
    have hmi : (n : Int) + (r : Int) = (m : Int) := by omega
    have hml : m ≤ l.length := by omega
    have hr2 : (r : Int) ≤ (l.length : Int) := by omega
    have hsl2 := sl_s l .i64 m (z := (m : Int)) rfl hml
    have hdd : (l.drop n).drop r = l.drop m := by rw [List.drop_drop, hm]
    have hs1 := To.sil_run (l.drop n)
    have hs2 := To.run_stop To.isB (l.drop n)
    rw [← hr, hdd] at hs1 hs2
    have HR := Lib.hid (And.intro hr (And.intro hs1 (And.intro hs2 hm)))
    clear hr hs1 hs2 hdd hm
    go_wp2_with fail
    refine run_t cutB (l.drop n) (by rw [List.length_drop]; omega) fun w2 hB2 => ?_
    rw [← HR.out.1]
    have HB := Lib.hid (HX.out.2.trans (hB2.mono HX.out.2.size))
    clear hB2
    by_cases hend : m = l.length
    · have hei : (m : Int) = (l.length : Int) := by omega
      have hfin := Lib.hid (show To.sil false l = l.length by rw [HX.out.1, HR.out.2.1, hend, List.drop_length]; show n + (r + 0) = _; have := HR.out.2.2.2; omega)
      have h2 := Lib.hid (H.out w2 HB.out)
      rw [hfin.out] at h2
      clear hend
      go_wp2_with fail
      exact h2.out
    · have hlt : m < l.length := by omega
      have hei : (m : Int) < (l.length : Int) := by omega
      have hix := ix_s l .i64 m (z := (m : Int)) rfl hlt
      obtain ⟨c, rs, hcr⟩ : ∃ c rs, l.drop m = c :: rs := by
        cases hd : l.drop m with
        | nil => have := congrArg List.length hd; simp at this; omega
        | cons c rs => exact ⟨c, rs, rfl⟩
      have hlm : l[m] = c := by
        have := List.drop_eq_getElem_cons hlt
        rw [hcr] at this
        exact (List.cons.inj this).1.symm
      rw [hlm] at hix
      have hbc := HR.out.2.2.1 c (by rw [hcr]; rfl)
      clear hend hlm
      by_cases hh : c.toNat = 35
      · have hh1 : (c.toNat : Int) = 35 := by omega
        have hsh := To.sil_hash c rs hh
        rw [← hcr] at hsh
        obtain ⟨x, hx⟩ : ∃ x, x = Lib.indexByte (l.drop m) 10 := ⟨_, rfl⟩
        have hxp := idx_pos (l.drop m) 10
        rw [← hx] at hxp hsh
        rw [List.length_drop] at hxp
        have HC := Lib.hid (And.intro hx (And.intro hsh hcr))
        have hx1 : -1 ≤ x := hxp.1
        have hx2 : x < (l.length : Int) := by omega
        have hx3 : x < (l.length : Int) - (m : Int) := by omega
        clear hx hsh hcr hxp hh hbc
        by_cases hneg : x < 0
        · have hfin := Lib.hid (show To.sil false l = l.length by rw [HX.out.1, HR.out.2.1, HC.out.2.1.1 hneg, List.length_drop]; have := HR.out.2.2.2; omega)
          have h2 := Lib.hid (H.out w2 HB.out)
          rw [hfin.out] at h2
          go_wp2_with fail
          refine idx_t (l.drop m) 10 rfl ?_
          rw [← HC.out.1]
          go_wp2_with fail
          exact h2.out
        · obtain ⟨e, he⟩ : ∃ e : Nat, x = (e : Int) := ⟨x.toNat, by omega⟩
          subst he
          have hpe := HC.out.2.1.2 e rfl
          have HPE := Lib.hid hpe
          have hme : (m : Int) + (e : Int) ≤ (l.length : Int) := by omega
          have hei2 : (0 : Int) ≤ (e : Int) := by omega
          clear hpe hneg
          go_wp2_with fail
          refine idx_t (l.drop m) 10 rfl ?_
          rw [← HC.out.1]
          go_wp2_with fail
          go_roundg (l.length - (m + e))
          case measure => have := HPE.out.1; have := HR.out.2.2.2; omega
          case rel => exact ⟨m + e, by omega, rfl, by go_num, by rw [HX.out.1, HR.out.2.1, HPE.out.2, List.drop_drop]; have := HR.out.2.2.2; omega, HB.out⟩
      · have hh1 : ((c.toNat : Int) == 35) = false := by simp; omega
        have hh2 : ((c.toNat : Int) != 35) = true := by simp; omega
        have hfin := Lib.hid (show To.sil false l = m by rw [HX.out.1, HR.out.2.1, hcr, To.sil_stop c rs hbc hh]; have := HR.out.2.2.2; omega)
        have h2 := Lib.hid (H.out w2 HB.out)
        rw [hfin.out] at h2
        clear hcr hbc hh
        go_wp2_with fail
        exact h2.out
end Go.Proofs.YtcldcigopkfmmaaGreatDoor
