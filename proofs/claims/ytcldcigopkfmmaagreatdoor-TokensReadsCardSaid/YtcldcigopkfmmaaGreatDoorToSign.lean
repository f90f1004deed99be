/- Tokens: the signs, the table of kinds, silence. -/
import Derived.Test.YtcldcigopkfmmaaGreatDoorToRun
namespace Go.To
def pre2 (x y : UInt8) (l : List UInt8) : Bool := l.head? == some x && l.tail.head? == some y
theorem sign_pre (l : List UInt8) : sign l = if pre2 61 61 l || pre2 33 61 l || pre2 60 61 l then 2 else if l.any (fun _ => true) && (l.head?.map isS).getD false then 1 else 0 := by
  cases l with
  | nil => rfl
  | cons c r =>
    rw [sign_cons]
    have hc : ∀ n : Nat, n < 256 → ((c == UInt8.ofNat n) = decide (c.toNat = n)) := fun n hn => by
      rw [Bool.eq_iff_iff]; simp
      constructor
      · rintro rfl; simp; omega
      · intro h; rw [← h]; simp
    have e1 : pre2 61 61 (c :: r) = (decide (c.toNat = 61) && decide (r.head? = some 61)) := by
      unfold pre2; rw [show (61 : UInt8) = UInt8.ofNat 61 from rfl]; simp only [List.head?_cons, List.tail_cons]
      rw [← hc 61 (by decide)]; congr 1; rw [Bool.eq_iff_iff]; simp
    have e2 : pre2 33 61 (c :: r) = (decide (c.toNat = 33) && decide (r.head? = some 61)) := by
      unfold pre2; simp only [List.head?_cons, List.tail_cons]
      rw [← hc 33 (by decide)]; congr 1; rw [Bool.eq_iff_iff]; simp
    have e3 : pre2 60 61 (c :: r) = (decide (c.toNat = 60) && decide (r.head? = some 61)) := by
      unfold pre2; simp only [List.head?_cons, List.tail_cons]
      rw [← hc 60 (by decide)]; congr 1; rw [Bool.eq_iff_iff]; simp
    rw [e1, e2, e3]
    by_cases h1 : r.head? = some 61
    · simp [h1, or_assoc]
    · simp [h1]
end Go.To
namespace Go.Proofs.YtcldcigopkfmmaaGreatDoor
open Go.RowKit Go.My

theorem ix_s (l : List UInt8) (k : IntKind) (i : Nat) {z : Int} (hz : z = (i : Int)) (h : i < l.length) : ∀ wx, (Instr.index 9 (.string (bs l)) (.int k z)).run Tryz.prog wx = .ok (.int .u8 ((l[i]).toNat : Int)) wx := by
  intro wx
  subst hz
  have hs := bs_size l
  rw [run_index_string (P := Tryz.prog) wx 9 (bs l) k (i : Int) Tryz.underlying9, dif_pos ⟨by omega, by omega⟩]
  congr 3

theorem bs_drop (l : List UInt8) (k : Nat) : (bs l).extract k (bs l).size = bs (l.drop k) := by
  rw [bs_of ((bs l).extract k (bs l).size), Lib.extract_to_end, bs_list]
theorem bs_cut (l : List UInt8) (k j : Nat) : (bs l).extract k j = bs ((l.drop k).take (j - k)) := by
  rw [bs_of ((bs l).extract k j), Lib.extract_data, bs_list]

theorem sl_s (l : List UInt8) (kl : IntKind) (k : Nat) {z : Int} (hz : z = (k : Int)) (h : k ≤ l.length) : ∀ wx, (Instr.slice 9 (.string (bs l)) (some (.int kl z)) none none).run Tryz.prog wx = .ok (.string (bs (l.drop k))) wx := by
  intro wx
  subst hz
  have hs := bs_size l
  rw [run_slice_string_l wx 9 (bs l) Tryz.underlying9 kl (k : Int) (by omega) (by omega), Int.toNat_natCast, bs_drop]

/-- IndexByte, at a text. -/
theorem idx_t {w : World} (l : List UInt8) (c : UInt8) {ci : Int} (hc : ci = (c.toNat : Int)) {Q : Ending → World → Prop} (h : Q (.returned (.int .i64 (Lib.indexByte l c))) w) : Calls Tryz.prog 121 #[.string (bs l), .int .u8 ci] w Q := by
  subst hc
  refine Calls.mono (Tryz.strings_IndexByte (bs l) (c.toNat : Int) w) ?_
  rintro e w' ⟨rfl, rfl⟩
  have e1 : ((c.toNat : Int)).toNat.toUInt8 = c := by simp
  rw [bs_list, e1]
  exact h
theorem idx_pos (l : List UInt8) (c : UInt8) : -1 ≤ Lib.indexByte l c ∧ (0 ≤ Lib.indexByte l c ↔ c ∈ l) ∧ Lib.indexByte l c < l.length := by
  induction l with
  | nil => simp [Lib.indexByte]
  | cons b l ih =>
    unfold Lib.indexByte
    by_cases h : b == c
    · rw [if_pos h]
      have : b = c := by simpa using h
      simp [this]
    · rw [if_neg h]
      have hne : c ≠ b := fun e => h (by simp [e])
      by_cases h2 : Lib.indexByte l c == -1
      · rw [if_pos h2]
        have h3 : Lib.indexByte l c = -1 := by simpa using h2
        have : c ∉ l := fun hm => by have := ih.2.1.2 hm; omega
        simp [hne, this]; omega
      · rw [if_neg h2]
        have h3 : Lib.indexByte l c ≠ -1 := fun e => h2 (by simp [e])
        have h4 : 0 ≤ Lib.indexByte l c := by have := ih.1; omega
        have h5 := ih.2.1.1 h4
        have h6 := ih.2.2
        simp [h5]; omega

theorem has_t {w : World} (l : List UInt8) (x y : UInt8) {Q : Ending → World → Prop} (h : Q (.returned (.bool (To.pre2 x y l))) w) : Calls Tryz.prog 125 #[.string (bs l), .string (bs [x, y])] w Q := by
  refine Calls.mono (Tryz.strings_HasPrefix (bs l) (bs [x, y]) w) ?_
  rintro e w' ⟨rfl, rfl⟩
  have e1 : Lib.hasPrefix (bs l).data.toList (bs [x, y]).data.toList = To.pre2 x y l := by
    rw [bs_list, bs_list]
    unfold Lib.hasPrefix To.pre2
    cases l with
    | nil => rfl
    | cons c r => cases r with
      | nil => simp [List.isPrefixOf]
      | cons d r => simp [List.isPrefixOf]; rw [Bool.eq_iff_iff]; simp; exact ⟨fun ⟨a, b⟩ => ⟨a.symm, b.symm⟩, fun ⟨a, b⟩ => ⟨a.symm, b.symm⟩⟩
  rw [e1]
  exact h

def signs : List UInt8 := [43, 45, 42, 47, 94, 40, 41, 91, 93, 44, 59, 123, 125, 61, 60]
theorem signs_is (c : UInt8) : c ∈ signs ↔ To.isS c = true := by
  have h : (List.range 256).all (fun n => signs.contains (UInt8.ofNat n) == To.isS (UInt8.ofNat n)) = true := by decide +kernel
  have := List.all_eq_true.1 h c.toNat (List.mem_range.2 c.toNat_lt)
  have e : signs.contains c = To.isS c := by simpa using this
  rw [← e]; simp

set_option maxHeartbeats 2000000 in
theorem sign_t {w : World} (l : List UInt8) (hl : l.length ≤ 9223372036854775807) {Q : Ending → World → Prop} (h : Q (.returned (.int .i64 (To.sign l : Nat))) w) :
    Calls Tryz.prog 124 #[.string (bs l)] w Q := by
  have H := Lib.hid h
  clear h
  obtain ⟨p1, h1⟩ : ∃ p, p = To.pre2 61 61 l := ⟨_, rfl⟩
  obtain ⟨p2, h2⟩ : ∃ p, p = To.pre2 33 61 l := ⟨_, rfl⟩
  obtain ⟨p3, h3⟩ : ∃ p, p = To.pre2 60 61 l := ⟨_, rfl⟩
  have hsp := To.sign_pre l
  rw [← h1, ← h2, ← h3] at hsp
  have HP := Lib.hid (And.intro h1.symm (And.intro h2.symm h3.symm))
  clear h1 h2 h3
  cases p1 with
  | true =>
    have e : To.sign l = 2 := by rw [hsp]; simp
    rw [e] at H
    clear e hsp
    go_enter Tryz.func124, Tryz.ntmps124
    go_wp2_with fail
    refine has_t l 61 61 ?_
    rw [HP.out.1]
    go_wp2_with fail
    exact H.out
  | false =>
    cases p2 with
    | true =>
      have e : To.sign l = 2 := by rw [hsp]; simp
      rw [e] at H
      clear e hsp
      go_enter Tryz.func124, Tryz.ntmps124
      go_wp2_with fail
      refine has_t l 61 61 ?_
      rw [HP.out.1]
      go_wp2_with fail
      refine has_t l 33 61 ?_
      rw [HP.out.2.1]
      go_wp2_with fail
      exact H.out
    | false =>
      cases p3 with
      | true =>
        have e : To.sign l = 2 := by rw [hsp]; simp
        rw [e] at H
        clear e hsp
        go_enter Tryz.func124, Tryz.ntmps124
        go_wp2_with fail
        refine has_t l 61 61 ?_
        rw [HP.out.1]
        go_wp2_with fail
        refine has_t l 33 61 ?_
        rw [HP.out.2.1]
        go_wp2_with fail
        refine has_t l 60 61 ?_
        rw [HP.out.2.2]
        go_wp2_with fail
        exact H.out
      | false =>
        clear hsp
        go_enter Tryz.func124, Tryz.ntmps124
        go_wp2_with fail
        refine has_t l 61 61 ?_
        rw [HP.out.1]
        go_wp2_with fail
        refine has_t l 33 61 ?_
        rw [HP.out.2.1]
        go_wp2_with fail
        refine has_t l 60 61 ?_
        rw [HP.out.2.2]
        cases l with
        | nil =>
          have e : To.sign [] = 0 := rfl
          rw [e] at H
          have hem : (bs []).toList = [] := by rw [ByteArray.toList_eq, bs_list]
          go_wp2_with fail
          exact H.out
        | cons c r =>
          have hix := ix_s (c :: r) .i64 0 (z := 0) rfl (by simp)
          have hne : (bs (c :: r)).toList.isEmpty = false := by rw [ByteArray.toList_eq, bs_list]; rfl
          have hsg : To.sign (c :: r) = if To.isS c = true then 1 else 0 := by
            rw [To.sign_pre, HP.out.1, HP.out.2.1, HP.out.2.2]; simp
          rw [hsg] at H
          clear hsg
          have hi := idx_pos signs c
          rw [signs_is] at hi
          by_cases hs : To.isS c = true
          · rw [if_pos hs] at H
            have hn := hi.2.1.2 hs
            have hn2 := hi.2.2
            obtain ⟨n, he⟩ : ∃ n, n = Lib.indexByte signs c := ⟨_, rfl⟩
            rw [← he] at hn hn2
            have HE := Lib.hid he
            clear hi he hs
            go_wp2_with fail
            refine idx_t signs c rfl ?_
            rw [← HE.out]
            go_wp2_with fail
            exact H.out
          · rw [if_neg hs] at H
            have hn : Lib.indexByte signs c < 0 := by rcases Int.lt_or_le (Lib.indexByte signs c) 0 with h | h; exact h; exact absurd (hi.2.1.1 h) hs
            obtain ⟨n, he⟩ : ∃ n, n = Lib.indexByte signs c := ⟨_, rfl⟩
            rw [← he] at hn
            have HE := Lib.hid he
            clear hi he hs
            go_wp2_with fail
            refine idx_t signs c rfl ?_
            rw [← HE.out]
            go_wp2_with fail
            exact H.out
end Go.Proofs.YtcldcigopkfmmaaGreatDoor
