/- Texts put together: ToSign, ToKinds, ToName, ToRef, NdPl, NdPl2, ToRefName, NdExpr2, NdRExpr, NdStmt, NdRStmt, NdArgF, NdCheck, NdCheck2, NdCheck3, ShTextW, Args, Args2, NdArgs, NdPArgs, NdBulk, NdTypes. -/
import Derived.Test.YtobpnjnfpgcpaaaDoorTrA2
import Derived.Laws.EntriesVeiled
import Derived.Test.YtobpnjnfpgcpaaaDoorTrA1
import Derived.SizedLaws
import Derived.Lib.SmallJoins
import Derived.Test.YtobpnjnfpgcpaaaDoorRows

/- Tokens: the signs, the table of kinds, silence. -/
namespace Go.To
def pre2 (x y : UInt8) (l : List UInt8) : Bool := l.head? == some x && l.tail.head? == some y
theorem sign_pre (l : List UInt8) : sign l = if pre2 61 61 l || pre2 33 61 l || pre2 60 61 l then 2 else if l.any (fun _ => true) && (l.head?.map isS).getD false then 1 else 0 := by
  cases l with
  | nil => rfl
  | cons c r =>
    rw [sign_cons]
    have hc : ∀ n : Nat, n < 256 → ((c == UInt8.ofNat n) = decide (c.toNat = n)) := fun n hn => by
      rw [Bool.eq_iff_iff]; simp
      constructor
      · rintro rfl; simp; omega
      · intro h; rw [← h]; simp
    have e1 : pre2 61 61 (c :: r) = (decide (c.toNat = 61) && decide (r.head? = some 61)) := by
      unfold pre2; rw [show (61 : UInt8) = UInt8.ofNat 61 from rfl]; simp only [List.head?_cons, List.tail_cons]
      rw [← hc 61 (by decide)]; congr 1; rw [Bool.eq_iff_iff]; simp
    have e2 : pre2 33 61 (c :: r) = (decide (c.toNat = 33) && decide (r.head? = some 61)) := by
      unfold pre2; simp only [List.head?_cons, List.tail_cons]
      rw [← hc 33 (by decide)]; congr 1; rw [Bool.eq_iff_iff]; simp
    have e3 : pre2 60 61 (c :: r) = (decide (c.toNat = 60) && decide (r.head? = some 61)) := by
      unfold pre2; simp only [List.head?_cons, List.tail_cons]
      rw [← hc 60 (by decide)]; congr 1; rw [Bool.eq_iff_iff]; simp
    rw [e1, e2, e3]
    by_cases h1 : r.head? = some 61
    · simp [h1, or_assoc]
    · simp [h1]
end Go.To
namespace Go.Proofs.YtobpnjnfpgcpaaaDoor
open Go.RowKit Go.My

theorem ix_s (l : List UInt8) (k : IntKind) (i : Nat) {z : Int} (hz : z = (i : Int)) (h : i < l.length) : ∀ wx, (Instr.index 9 (.string (bs l)) (.int k z)).run Tryd.prog wx = .ok (.int .u8 ((l[i]).toNat : Int)) wx := by
  intro wx
  subst hz
  have hs := bs_size l
  rw [run_index_string (P := Tryd.prog) wx 9 (bs l) k (i : Int) Tryd.underlying9, dif_pos ⟨by omega, by omega⟩]
  congr 3

theorem bs_drop (l : List UInt8) (k : Nat) : (bs l).extract k (bs l).size = bs (l.drop k) := by
  rw [bs_of ((bs l).extract k (bs l).size), Lib.extract_to_end, bs_list]
theorem bs_cut (l : List UInt8) (k j : Nat) : (bs l).extract k j = bs ((l.drop k).take (j - k)) := by
  rw [bs_of ((bs l).extract k j), Lib.extract_data, bs_list]

theorem sl_s (l : List UInt8) (kl : IntKind) (k : Nat) {z : Int} (hz : z = (k : Int)) (h : k ≤ l.length) : ∀ wx, (Instr.slice 9 (.string (bs l)) (some (.int kl z)) none none).run Tryd.prog wx = .ok (.string (bs (l.drop k))) wx := by
  intro wx
  subst hz
  have hs := bs_size l
  rw [run_slice_string_l wx 9 (bs l) Tryd.underlying9 kl (k : Int) (by omega) (by omega), Int.toNat_natCast, bs_drop]

/-- IndexByte, at a text. -/
theorem idx_t {w : World} (l : List UInt8) (c : UInt8) {ci : Int} (hc : ci = (c.toNat : Int)) {Q : Ending → World → Prop} (h : Q (.returned (.int .i64 (Lib.indexByte l c))) w) : Calls Tryd.prog 71 #[.string (bs l), .int .u8 ci] w Q := by
  subst hc
  refine Calls.mono (Tryd.strings_IndexByte (bs l) (c.toNat : Int) w) ?_
  rintro e w' ⟨rfl, rfl⟩
  have e1 : ((c.toNat : Int)).toNat.toUInt8 = c := by simp
  rw [bs_list, e1]
  exact h
theorem idx_pos (l : List UInt8) (c : UInt8) : -1 ≤ Lib.indexByte l c ∧ (0 ≤ Lib.indexByte l c ↔ c ∈ l) ∧ Lib.indexByte l c < l.length := by
  induction l with
  | nil => simp [Lib.indexByte]
  | cons b l ih =>
    unfold Lib.indexByte
    by_cases h : b == c
    · rw [if_pos h]
      have : b = c := by simpa using h
      simp [this]
    · rw [if_neg h]
      have hne : c ≠ b := fun e => h (by simp [e])
      by_cases h2 : Lib.indexByte l c == -1
      · rw [if_pos h2]
        have h3 : Lib.indexByte l c = -1 := by simpa using h2
        have : c ∉ l := fun hm => by have := ih.2.1.2 hm; omega
        simp [hne, this]; omega
      · rw [if_neg h2]
        have h3 : Lib.indexByte l c ≠ -1 := fun e => h2 (by simp [e])
        have h4 : 0 ≤ Lib.indexByte l c := by have := ih.1; omega
        have h5 := ih.2.1.1 h4
        have h6 := ih.2.2
        simp [h5]; omega

theorem has_t {w : World} (l : List UInt8) (x y : UInt8) {Q : Ending → World → Prop} (h : Q (.returned (.bool (To.pre2 x y l))) w) : Calls Tryd.prog 64 #[.string (bs l), .string (bs [x, y])] w Q := by
  refine Calls.mono (Tryd.strings_HasPrefix (bs l) (bs [x, y]) w) ?_
  rintro e w' ⟨rfl, rfl⟩
  have e1 : Lib.hasPrefix (bs l).data.toList (bs [x, y]).data.toList = To.pre2 x y l := by
    rw [bs_list, bs_list]
    unfold Lib.hasPrefix To.pre2
    cases l with
    | nil => rfl
    | cons c r => cases r with
      | nil => simp [List.isPrefixOf]
      | cons d r => simp [List.isPrefixOf]; rw [Bool.eq_iff_iff]; simp; exact ⟨fun ⟨a, b⟩ => ⟨a.symm, b.symm⟩, fun ⟨a, b⟩ => ⟨a.symm, b.symm⟩⟩
  rw [e1]
  exact h

def signs : List UInt8 := [43, 45, 42, 47, 94, 40, 41, 91, 93, 44, 59, 123, 125, 61, 60]
theorem signs_is (c : UInt8) : c ∈ signs ↔ To.isS c = true := by
  have h : (List.range 256).all (fun n => signs.contains (UInt8.ofNat n) == To.isS (UInt8.ofNat n)) = true := by decide +kernel
  have := List.all_eq_true.1 h c.toNat (List.mem_range.2 c.toNat_lt)
  have e : signs.contains c = To.isS c := by simpa using this
  rw [← e]; simp

set_option maxHeartbeats 2000000 in
theorem sign_t {w : World} (l : List UInt8) (hl : l.length ≤ 9223372036854775807) {Q : Ending → World → Prop} (h : Q (.returned (.int .i64 (To.sign l : Nat))) w) :
    Calls Tryd.prog 70 #[.string (bs l)] w Q := by
  have H := Lib.hid h
  clear h
  obtain ⟨p1, h1⟩ : ∃ p, p = To.pre2 61 61 l := ⟨_, rfl⟩
  obtain ⟨p2, h2⟩ : ∃ p, p = To.pre2 33 61 l := ⟨_, rfl⟩
  obtain ⟨p3, h3⟩ : ∃ p, p = To.pre2 60 61 l := ⟨_, rfl⟩
  have hsp := To.sign_pre l
  rw [← h1, ← h2, ← h3] at hsp
  have HP := Lib.hid (And.intro h1.symm (And.intro h2.symm h3.symm))
  clear h1 h2 h3
  cases p1 with
  | true =>
    have e : To.sign l = 2 := by rw [hsp]; simp
    rw [e] at H
    clear e hsp
    go_enter Tryd.func70, Tryd.ntmps70
    go_wp2_with fail
    refine has_t l 61 61 ?_
    rw [HP.out.1]
    go_wp2_with fail
    exact H.out
  | false =>
    cases p2 with
    | true =>
      have e : To.sign l = 2 := by rw [hsp]; simp
      rw [e] at H
      clear e hsp
      go_enter Tryd.func70, Tryd.ntmps70
      go_wp2_with fail
      refine has_t l 61 61 ?_
      rw [HP.out.1]
      go_wp2_with fail
      refine has_t l 33 61 ?_
      rw [HP.out.2.1]
      go_wp2_with fail
      exact H.out
    | false =>
      cases p3 with
      | true =>
        have e : To.sign l = 2 := by rw [hsp]; simp
        rw [e] at H
        clear e hsp
        go_enter Tryd.func70, Tryd.ntmps70
        go_wp2_with fail
        refine has_t l 61 61 ?_
        rw [HP.out.1]
        go_wp2_with fail
        refine has_t l 33 61 ?_
        rw [HP.out.2.1]
        go_wp2_with fail
        refine has_t l 60 61 ?_
        rw [HP.out.2.2]
        go_wp2_with fail
        exact H.out
      | false =>
        clear hsp
        go_enter Tryd.func70, Tryd.ntmps70
        go_wp2_with fail
        refine has_t l 61 61 ?_
        rw [HP.out.1]
        go_wp2_with fail
        refine has_t l 33 61 ?_
        rw [HP.out.2.1]
        go_wp2_with fail
        refine has_t l 60 61 ?_
        rw [HP.out.2.2]
        cases l with
        | nil =>
          have e : To.sign [] = 0 := rfl
          rw [e] at H
          have hem : (bs []).toList = [] := by rw [ByteArray.toList_eq, bs_list]
          go_wp2_with fail
          exact H.out
        | cons c r =>
          have hix := ix_s (c :: r) .i64 0 (z := 0) rfl (by simp)
          have hne : (bs (c :: r)).toList.isEmpty = false := by rw [ByteArray.toList_eq, bs_list]; rfl
          have hsg : To.sign (c :: r) = if To.isS c = true then 1 else 0 := by
            rw [To.sign_pre, HP.out.1, HP.out.2.1, HP.out.2.2]; simp
          rw [hsg] at H
          clear hsg
          have hi := idx_pos signs c
          rw [signs_is] at hi
          by_cases hs : To.isS c = true
          · rw [if_pos hs] at H
            have hn := hi.2.1.2 hs
            have hn2 := hi.2.2
            obtain ⟨n, he⟩ : ∃ n, n = Lib.indexByte signs c := ⟨_, rfl⟩
            rw [← he] at hn hn2
            have HE := Lib.hid he
            clear hi he hs
            go_wp2_with fail
            refine idx_t signs c rfl ?_
            rw [← HE.out]
            go_wp2_with fail
            exact H.out
          · rw [if_neg hs] at H
            have hn : Lib.indexByte signs c < 0 := by rcases Int.lt_or_le (Lib.indexByte signs c) 0 with h | h; exact h; exact absurd (hi.2.1.1 h) hs
            obtain ⟨n, he⟩ : ∃ n, n = Lib.indexByte signs c := ⟨_, rfl⟩
            rw [← he] at hn
            have HE := Lib.hid he
            clear hi he hs
            go_wp2_with fail
            refine idx_t signs c rfl ?_
            rw [← HE.out]
            go_wp2_with fail
            exact H.out
end Go.Proofs.YtobpnjnfpgcpaaaDoor

/- Tokens: the table of kinds. -/
namespace Go.Proofs.YtobpnjnfpgcpaaaDoor
open Go.RowKit Go.My

theorem kinds_t {w : World} {Q : Ending → World → Prop} (h : ∀ w', Below w.heap.size w w' → Q (.returned (.agg #[.int .u8 1, .func (.func 67) #[] #[], .int .u8 2, .func (.func 69) #[] #[], .int .u8 3, .func (.func 70) #[] #[]])) w') :
    Calls Tryd.prog 41 #[] w Q := by
  have H := Lib.hid h
  clear h
  go_enter Tryd.func41, Tryd.ntmps41
  go_wp2_with fail
  exact bodyPost_ret (v := .agg #[.int .u8 1, .func (.func 67) #[] #[], .int .u8 2, .func (.func 69) #[] #[], .int .u8 3, .func (.func 70) #[] #[]]) (by simp [results, Tryd.results41, go_sem]) rfl (H.out _ ((Below.refl _ w).alloc (Nat.le_refl _) _))

theorem kix (wx : World) : (Instr.index 73 (.agg #[.int .u8 1, .func (.func 67) #[] #[], .int .u8 2, .func (.func 69) #[] #[], .int .u8 3, .func (.func 70) #[] #[]]) (.int .i64 0)).run Tryd.prog wx = .ok (.agg #[.int .u8 1, .func (.func 67) #[] #[]]) wx ∧
    (Instr.index 73 (.agg #[.int .u8 1, .func (.func 67) #[] #[], .int .u8 2, .func (.func 69) #[] #[], .int .u8 3, .func (.func 70) #[] #[]]) (.int .i64 1)).run Tryd.prog wx = .ok (.agg #[.int .u8 2, .func (.func 69) #[] #[]]) wx ∧
    (Instr.index 73 (.agg #[.int .u8 1, .func (.func 67) #[] #[], .int .u8 2, .func (.func 69) #[] #[], .int .u8 3, .func (.func 70) #[] #[]]) (.int .i64 2)).run Tryd.prog wx = .ok (.agg #[.int .u8 3, .func (.func 70) #[] #[]]) wx := ⟨by kernel_rfl, by kernel_rfl, by kernel_rfl⟩

theorem kfield (wx : World) : (Instr.field 72 (.agg #[.int .u8 1, .func (.func 67) #[] #[]]) 1).run Tryd.prog wx = .ok (.func (.func 67) #[] #[]) wx := by kernel_rfl

end Go.Proofs.YtobpnjnfpgcpaaaDoor

/- Tokens: Name. -/
namespace Go.Proofs.YtobpnjnfpgcpaaaDoor
open Go.RowKit Go.My

theorem contains_own (l : List UInt8) : Lib.containsS (To.own.map bs) (bs l) = To.own.contains l := by
  rw [Bool.eq_iff_iff, Lib.containsS_iff]
  simp only [List.mem_map, List.contains_iff_mem]
  constructor
  · rintro ⟨x, hx, he⟩
    have := congrArg (fun s : ByteArray => s.data.toList) he
    simp only [bs_list] at this
    rw [← this]; exact hx
  · intro h; exact ⟨l, h, rfl⟩

theorem own_t {w : World} (l : List UInt8) {Q : Ending → World → Prop} (h : Q (.returned (.bool (To.own.contains l))) (w.alloc (.cells #[.string (bs [102, 110]), .string (bs [105, 102]), .string (bs [101, 108, 115, 101]), .string (bs [119, 104, 105, 108, 101]), .string (bs [114, 101, 116, 117, 114, 110]), .string (bs [116, 101, 108, 108]), .string (bs [110, 111, 116])] 9))) :
    Calls Tryd.prog 40 #[.slice (some ⟨w.heap.size, 0, none⟩) 7 7, .string (bs l)] (w.alloc (.cells #[.string (bs [102, 110]), .string (bs [105, 102]), .string (bs [101, 108, 115, 101]), .string (bs [119, 104, 105, 108, 101]), .string (bs [114, 101, 116, 117, 114, 110]), .string (bs [116, 101, 108, 108]), .string (bs [110, 111, 116])] 9)) Q := by
  refine Calls.mono (Tryd.slices_Contains_string w.heap.size 0 7 7 (To.own.map bs) (bs l) _ (by decide) (by decide) (fun j hj => ?_)) ?_
  · rw [cell_of_row _ w.heap.size (0 + j) _ 9 (0, 0) (_root_.Go.heap_alloc_new w _)]
    have hj7 : j < 7 := hj
    match j, hj7 with
    | 0, _ => rfl
    | 1, _ => rfl
    | 2, _ => rfl
    | 3, _ => rfl
    | 4, _ => rfl
    | 5, _ => rfl
    | 6, _ => rfl
  · rintro e w' ⟨rfl, rfl⟩
    rw [show (To.own.map bs).take 7 = To.own.map bs from rfl, contains_own]
    exact h

set_option maxHeartbeats 1000000 in
theorem name_t {w : World} (l : List UInt8) (hl : l.length ≤ 9223372036854775807) {Q : Ending → World → Prop} (h : ∀ w', Below w.heap.size w w' → Q (.returned (.bool (To.name l))) w') :
    Calls Tryd.prog 23 #[.string (bs l)] w Q := by
  have H := Lib.hid h
  clear h
  have hB0 := Lib.hid ((Below.refl w.heap.size w).alloc (Nat.le_refl _) (.cells #[.string (bs [102, 110]), .string (bs [105, 102]), .string (bs [101, 108, 115, 101]), .string (bs [119, 104, 105, 108, 101]), .string (bs [114, 101, 116, 117, 114, 110]), .string (bs [116, 101, 108, 108]), .string (bs [110, 111, 116])] 9))
  obtain ⟨b, hb⟩ : ∃ b, b = To.own.contains l := ⟨_, rfl⟩
  have HBo := Lib.hid hb
  cases b with
  | true =>
    have e : To.name l = false := by unfold To.name; rw [← hb]; rfl
    rw [e] at H
    clear e hb
    go_enter Tryd.func23, Tryd.ntmps23
    go_wp2_with fail
    refine own_t l ?_
    rw [← HBo.out]
    go_wp2_with fail
    exact H.out _ hB0.out
  | false =>
    cases l with
    | nil =>
      have e : To.name [] = false := rfl
      rw [e] at H
      have hem : (bs []).toList = [] := by rw [ByteArray.toList_eq, bs_list]
      clear e hb
      go_enter Tryd.func23, Tryd.ntmps23
      go_wp2_with fail
      refine own_t [] ?_
      rw [← HBo.out]
      go_wp2_with fail
      exact H.out _ hB0.out
    | cons c r =>
      have hne : (bs (c :: r)).toList.isEmpty = false := by rw [ByteArray.toList_eq, bs_list]; rfl
      have e : To.name (c :: r) = (To.word (c :: r) == (c :: r).length) := by unfold To.name; rw [← hb]; simp
      rw [e] at H
      have hsz := bs_size (c :: r)
      obtain ⟨n, hn⟩ : ∃ n, n = (c :: r).length := ⟨_, rfl⟩
      rw [← hn] at hsz hl H
      obtain ⟨x, hx⟩ : ∃ x, x = To.word (c :: r) := ⟨_, rfl⟩
      have hdec : (To.word (c :: r) == n) = decide ((x : Int) = (n : Int)) := by rw [← hx, Bool.eq_iff_iff]; simp; omega
      rw [hdec] at H
      have HN := Lib.hid (And.intro hn hx)
      clear e hb hn hx hdec
      go_enter Tryd.func23, Tryd.ntmps23
      go_wp2_with fail
      refine own_t (c :: r) ?_
      rw [← HBo.out]
      have hk0 := fun wx => (kix wx).1
      have hk1 := fun wx => kfield wx
      go_wp2_with fail
      refine kinds_t fun w1 hB1 => ?_
      have HB1 := Lib.hid (hB0.out.trans (hB1.mono hB0.out.size))
      clear hB1
      go_wp2_with fail
      refine word_t (c :: r) (by rw [← HN.out.1]; exact hl) fun w2 hB2 => ?_
      have HB2 := Lib.hid (HB1.out.trans (hB2.mono HB1.out.size))
      clear hB2
      rw [← HN.out.2]
      go_wp2_with fail
      exact H.out _ HB2.out
end Go.Proofs.YtobpnjnfpgcpaaaDoor

/- Tokens: the reference's words and names; the walk of TokensNames. -/
namespace Go.To
theorem word_zero (l : List UInt8) (h : l = [] ∨ ∃ c r, l = c :: r ∧ isL c = false) : word l = 0 := by
  rcases h with rfl | ⟨c, r, rfl, h⟩
  · rfl
  · unfold word; rw [if_pos]; unfold run; rw [if_neg (by simp [h])]
theorem word_one (c : UInt8) (r : List UInt8) (h : isL c = true) : word (c :: r) = 1 + run isW r := by
  have hw : isW c = true := by unfold isW; rw [h]; rfl
  unfold word
  rw [if_neg (by unfold run; rw [if_pos h]; omega)]
  conv => lhs; unfold run
  rw [if_pos hw]; omega
theorem run_cons (p : UInt8 → Bool) (c : UInt8) (r : List UInt8) : run p (c :: r) = if p c then run p r + 1 else 0 := rfl
end Go.To
namespace Go.Proofs.YtobpnjnfpgcpaaaDoor
open Go.RowKit Go.My

theorem isL_of (c : UInt8) : (97 ≤ c.toNat ∧ c.toNat ≤ 122 → To.isL c = true) ∧ (65 ≤ c.toNat ∧ c.toNat ≤ 90 → To.isL c = true) ∧ (c.toNat < 65 → To.isL c = false) ∧ (90 < c.toNat ∧ c.toNat < 97 → To.isL c = false) ∧ (122 < c.toNat → To.isL c = false) := by
  unfold To.isL
  simp
  omega

set_option maxHeartbeats 1000000 in
theorem letter_t {w : World} (c : UInt8) {ci : Int} (hci : ci = (c.toNat : Int)) {Q : Ending → World → Prop} (h : Q (.returned (.bool (To.isL c))) w) : Calls Tryd.prog 77 #[.int .u8 ci] w Q := by
  subst hci
  have H := Lib.hid h
  obtain ⟨l1, l2, l3, l4, l5⟩ := isL_of c
  have hx := c.toNat_lt
  clear h
  by_cases h1 : c.toNat < 65
  · rw [l3 h1] at H
    generalize c.toNat = x at *
    have j1 : (x : Int) < 65 := by omega
    have j2 : (x : Int) < 97 := by omega
    clear l1 l2 l3 l4 l5 h1 hx
    go_enter Tryd.func77, Tryd.ntmps77
    go_wp2_with fail
    exact H.out
  by_cases h2 : c.toNat ≤ 90
  · rw [l2 ⟨by omega, h2⟩] at H
    generalize c.toNat = x at *
    have j1 : (65 : Int) ≤ (x : Int) := by omega
    have j2 : (x : Int) ≤ 90 := by omega
    have j3 : (x : Int) < 97 := by omega
    clear l1 l2 l3 l4 l5 h1 hx h2
    go_enter Tryd.func77, Tryd.ntmps77
    go_wp2_with fail
    exact H.out
  by_cases h3 : c.toNat < 97
  · rw [l4 ⟨by omega, h3⟩] at H
    generalize c.toNat = x at *
    have j1 : (90 : Int) < (x : Int) := by omega
    have j2 : (65 : Int) ≤ (x : Int) := by omega
    have j3 : (x : Int) < 97 := by omega
    have d1 : decide ((x : Int) ≤ 90) = false := by simp; omega
    clear l1 l2 l3 l4 l5 h1 hx h2 h3
    go_enter Tryd.func77, Tryd.ntmps77
    go_wp2_with fail
    exact H.out
  by_cases h4 : c.toNat ≤ 122
  · rw [l1 ⟨by omega, h4⟩] at H
    generalize c.toNat = x at *
    have j1 : (97 : Int) ≤ (x : Int) := by omega
    have j2 : (x : Int) ≤ 122 := by omega
    clear l1 l2 l3 l4 l5 h1 hx h2 h3 h4
    go_enter Tryd.func77, Tryd.ntmps77
    go_wp2_with fail
    exact H.out
  · rw [l5 (by omega)] at H
    generalize c.toNat = x at *
    have j1 : (122 : Int) < (x : Int) := by omega
    have j2 : (97 : Int) ≤ (x : Int) := by omega
    have j3 : (90 : Int) < (x : Int) := by omega
    have j4 : (65 : Int) ≤ (x : Int) := by omega
    have d1 : decide ((x : Int) ≤ 90) = false := by simp; omega
    have d2 : decide ((x : Int) ≤ 122) = false := by simp; omega
    clear l1 l2 l3 l4 l5 h1 hx h2 h3 h4
    go_enter Tryd.func77, Tryd.ntmps77
    go_wp2_with fail
    exact H.out

theorem isD_of (c : UInt8) : (48 ≤ c.toNat ∧ c.toNat ≤ 57 → To.isD c = true) ∧ (c.toNat < 48 → To.isD c = false) ∧ (57 < c.toNat → To.isD c = false) := by
  unfold To.isD
  simp
  omega

set_option maxHeartbeats 1000000 in
theorem digit_t {w : World} (c : UInt8) {ci : Int} (hci : ci = (c.toNat : Int)) {Q : Ending → World → Prop} (h : Q (.returned (.bool (To.isD c))) w) : Calls Tryd.prog 78 #[.int .u8 ci] w Q := by
  subst hci
  have H := Lib.hid h
  obtain ⟨l1, l2, l3⟩ := isD_of c
  have hx := c.toNat_lt
  clear h
  by_cases h1 : c.toNat < 48
  · rw [l2 h1] at H
    generalize c.toNat = x at *
    have j1 : (x : Int) < 48 := by omega
    clear l1 l2 l3 h1 hx
    go_enter Tryd.func78, Tryd.ntmps78
    go_wp2_with fail
    exact H.out
  by_cases h2 : c.toNat ≤ 57
  · rw [l1 ⟨by omega, h2⟩] at H
    generalize c.toNat = x at *
    have j1 : (48 : Int) ≤ (x : Int) := by omega
    have j2 : (x : Int) ≤ 57 := by omega
    clear l1 l2 l3 h1 hx h2
    go_enter Tryd.func78, Tryd.ntmps78
    go_wp2_with fail
    exact H.out
  · rw [l3 (by omega)] at H
    generalize c.toNat = x at *
    have j1 : (48 : Int) ≤ (x : Int) := by omega
    have j2 : (57 : Int) < (x : Int) := by omega
    have d1 : decide ((x : Int) ≤ 57) = false := by simp; omega
    clear l1 l2 l3 h1 hx h2
    go_enter Tryd.func78, Tryd.ntmps78
    go_wp2_with fail
    exact H.out

def WordAt (w : World) (l : List UInt8) (gk : Nat) (vn : Value) (wr : World) : Prop :=
  ∃ n : Nat, n ≤ l.length ∧ gk = l.length - n ∧ vn = .int .i64 (n : Int) ∧ (n = 0 ∨ To.word l = n + To.run To.isW (l.drop n)) ∧ w = wr

theorem word_step {l : List UInt8} {n : Nat} {c : UInt8} {r : List UInt8} (h : n = 0 ∨ To.word l = n + To.run To.isW (l.drop n)) (hd : l.drop n = c :: r) (hc : To.isL c = true ∨ (0 < n ∧ To.isW c = true)) : To.word l = (n + 1) + To.run To.isW (l.drop (n + 1)) := by
  have hr : l.drop (n + 1) = r := by rw [← List.drop_drop, hd]; rfl
  rw [hr]
  rcases Nat.eq_zero_or_pos n with h0 | h0
  · subst h0
    rcases hc with hc | hc
    · rw [List.drop_zero] at hd; rw [hd, To.word_one c r hc]
    · omega
  · have hw : To.isW c = true := by
      rcases hc with hc | hc
      · unfold To.isW; rw [hc]; rfl
      · exact hc.2
    rcases h with h | h
    · omega
    · rw [h, hd, To.run_cons, if_pos hw]; omega
theorem word_done {l : List UInt8} {n : Nat} (h : n = 0 ∨ To.word l = n + To.run To.isW (l.drop n)) (hd : l.drop n = [] ∨ ∃ c r, l.drop n = c :: r ∧ To.isL c = false ∧ (n = 0 ∨ To.isW c = false)) : To.word l = n := by
  rcases Nat.eq_zero_or_pos n with h0 | h0
  · subst h0
    rw [List.drop_zero] at hd
    refine To.word_zero l ?_
    rcases hd with hd | ⟨c, r, h1, h2, _⟩
    · exact .inl hd
    · exact .inr ⟨c, r, h1, h2⟩
  · rcases h with h | h
    · omega
    · rw [h]
      rcases hd with hd | ⟨c, r, h1, h2, h3⟩
      · rw [hd]; rfl
      · rw [h1, To.run_cons, if_neg (by rcases h3 with h3 | h3; omega; simp [h3])]; rfl

set_option maxHeartbeats 4000000 in
theorem refword_t {w : World} (l : List UInt8) (hl : l.length ≤ 9223372036854775807) {Q : Ending → World → Prop} (h : Q (.returned (.int .i64 (To.word l : Nat))) w) :
    Calls Tryd.prog 57 #[.string (bs l)] w Q := by
  have H := Lib.hid h
  have hs0 := bs_size l
  have hl1 : (l.length : Int) ≤ 9223372036854775807 := by omega
  clear h
  go_enter Tryd.func57, Tryd.ntmps57
  go_wp2_with fail
  go_loopg [3] l.length (fun gk vn wr => WordAt w l gk vn wr)
  case atStart => exact ⟨0, Nat.zero_le _, rfl, rfl, .inl rfl, rfl⟩
  case round =>
    obtain ⟨n, hn, rfl, rfl, hw, rfl⟩ := hrel
    have HW := Lib.hid hw
    have n0 : (0 : Int) ≤ (n : Int) := by omega
    clear hw
    by_cases hlt : n < l.length
    · have hei : (n : Int) < (l.length : Int) := by omega
      have hix := ix_s l .i64 n (z := (n : Int)) rfl hlt
      have hd := List.drop_eq_getElem_cons hlt
      generalize l[n] = c at *
      have HD := Lib.hid hd
      clear hd
      cases hL : To.isL c with
      | true =>
        have X := Lib.hid (word_step HW.out HD.out (.inl hL))
        have HL := Lib.hid hL
        clear hL
        go_wp2_with fail
        refine letter_t c rfl ?_
        rw [HL.out]
        go_wp2_with fail
        go_roundg (l.length - (n + 1))
        case measure => omega
        case rel => exact ⟨n + 1, hlt, rfl, by go_num, .inr X.out, rfl⟩
      | false =>
        by_cases hz : n = 0
        · have X := Lib.hid (word_done HW.out (.inr ⟨c, _, HD.out, hL, .inl hz⟩))
          have HL := Lib.hid hL
          have hz1 : (n : Int) ≤ 0 := by omega
          clear hL hz
          go_wp2_with fail
          refine letter_t c rfl ?_
          rw [HL.out]
          have h2 := Lib.hid H.out
          rw [X.out] at h2
          go_wp2_with fail
          exact h2.out
        · have hz1 : (0 : Int) < (n : Int) := by omega
          have hz2 : 0 < n := by omega
          clear hz
          cases hD : To.isD c with
          | true =>
            have X := Lib.hid (word_step HW.out HD.out (.inr ⟨hz2, by unfold To.isW; rw [hL, hD]; rfl⟩))
            have HL := Lib.hid (And.intro hL hD)
            clear hL hD
            go_wp2_with fail
            refine letter_t c rfl ?_
            rw [HL.out.1]
            go_wp2_with fail
            refine digit_t c rfl ?_
            rw [HL.out.2]
            go_wp2_with fail
            go_roundg (l.length - (n + 1))
            case measure => omega
            case rel => exact ⟨n + 1, hlt, rfl, by go_num, .inr X.out, rfl⟩
          | false =>
            by_cases h95 : c.toNat = 95
            · have X := Lib.hid (word_step HW.out HD.out (.inr ⟨hz2, by unfold To.isW; rw [hL, hD, h95]; rfl⟩))
              have HL := Lib.hid (And.intro hL hD)
              have h951 : (c.toNat : Int) = 95 := by omega
              clear hL hD h95
              go_wp2_with fail
              refine letter_t c h951.symm ?_
              rw [HL.out.1]
              go_wp2_with fail
              refine digit_t c h951.symm ?_
              rw [HL.out.2]
              go_wp2_with fail
              go_roundg (l.length - (n + 1))
              case measure => omega
              case rel => exact ⟨n + 1, hlt, rfl, by go_num, .inr X.out, rfl⟩
            · have X := Lib.hid (word_done HW.out (.inr ⟨c, _, HD.out, hL, .inr (by unfold To.isW; rw [hL, hD]; simp [h95])⟩))
              have HL := Lib.hid (And.intro hL hD)
              have h951 : ((c.toNat : Int) == 95) = false := by simp; omega
              clear hL hD h95
              go_wp2_with fail
              refine letter_t c rfl ?_
              rw [HL.out.1]
              go_wp2_with fail
              refine digit_t c rfl ?_
              rw [HL.out.2]
              have h2 := Lib.hid H.out
              rw [X.out] at h2
              go_wp2_with fail
              exact h2.out
    · obtain rfl : n = l.length := by omega
      have X := Lib.hid (word_done HW.out (.inl (List.drop_length)))
      have h2 := Lib.hid H.out
      rw [X.out] at h2
      go_wp2_with fail
      exact h2.out
end Go.Proofs.YtobpnjnfpgcpaaaDoor

/- Trees: digits without a needless nought, as the document has it. -/
namespace Go.Proofs.YtobpnjnfpgcpaaaDoor
open Go.RowKit Go.My

theorem bs_tlp (l : List UInt8) : (bs l).toList = l := by rw [ByteArray.toList_eq, bs_list]

theorem plain_two (s : List UInt8) (hpos : 0 < s.length) (h1 : ¬ s.length = 1) (hall : s.all To.isD = true) : Nd.plain s = ((s[0]).toNat != 48) := by
  obtain ⟨c, d, r, rfl⟩ : ∃ c d r, s = c :: d :: r := by
    cases s with
    | nil => exact absurd hpos (Nat.lt_irrefl _)
    | cons c r =>
      cases r with
      | nil => exact absurd rfl h1
      | cons d r => exact ⟨c, d, r, rfl⟩
  unfold Nd.plain
  rw [hall, Bool.true_and, List.getElem_cons_zero]

def PlAt (s : List UInt8) (w : World) (gk : Nat) (v3 : Value) (wr : World) : Prop :=
  ∃ i : Nat, i ≤ s.length ∧ gk = s.length - i ∧ v3 = .int .i64 (i : Int) ∧ (s.drop i).all To.isD = s.all To.isD ∧ wr = w

set_option maxRecDepth 100000 in
set_option maxHeartbeats 4000000 in
theorem rplain_t {w : World} (s : List UInt8) (hs : s.length ≤ 9223372036854775807) {Q : Ending → World → Prop} (h : Q (.returned (.bool (Nd.plain s))) w) :
    Calls Tryd.prog 79 #[.string (bs s)] w Q := by
  have H := Lib.hid h
  have hs1 := bs_size s
  have s0 : (0 : Int) ≤ (s.length : Int) := by omega
  have s1 : (s.length : Int) ≤ 9223372036854775807 := by omega
  clear h
  go_enter Tryd.func79, Tryd.ntmps79
  go_wp2_with fail
  go_loopg [3] s.length (fun gk v3 wr => PlAt s w gk v3 wr)
  case atStart => exact ⟨0, Nat.zero_le _, rfl, rfl, rfl, rfl⟩
  case round =>
    obtain ⟨i, hi, rfl, rfl, hd, rfl⟩ := hrel
    have i0 : (0 : Int) ≤ (i : Int) := by omega
    by_cases hlt : i < s.length
    · have i1 : (i : Int) < (s.length : Int) := by omega
      have hix := ix_s s .i64 i (z := (i : Int)) rfl hlt
      have hdr := List.drop_eq_getElem_cons hlt
      generalize s[i] = c at *
      rw [hdr, List.all_cons] at hd
      have HD := Lib.hid hd
      clear hd hdr
      go_wp2_with fail
      refine digit_t c rfl ?_
      cases hc : To.isD c with
      | true =>
        have HC := Lib.hid hc
        clear hc
        go_wp2_with fail
        go_roundg (s.length - (i + 1))
        case measure => omega
        case rel => exact ⟨i + 1, hlt, rfl, by go_num, by have := HD.out; rw [HC.out, Bool.true_and] at this; exact this, rfl⟩
      | false =>
        have HC := Lib.hid hc
        clear hc
        have hp : Nd.plain s = false := by unfold Nd.plain; rw [← HD.out, HC.out]; rfl
        rw [hp] at H
        clear hp
        go_wp2_with fail
        exact H.out
    · obtain rfl : i = s.length := by omega
      have hall : s.all To.isD = true := by rw [← hd, List.drop_length]; rfl
      have e1 := bs_tlp s
      clear hlt hd hi
      by_cases hn : s = []
      · subst hn
        have hp : Nd.plain [] = false := rfl
        rw [hp] at H
        clear hp hall
        go_wp2_with fail
        exact H.out
      · have he : s.isEmpty = false := by cases s with | nil => exact absurd rfl hn | cons _ _ => rfl
        have hpos : 0 < s.length := List.length_pos_iff.2 hn
        have hpi : (0 : Int) < (s.length : Int) := by omega
        by_cases h1 : s.length = 1
        · have hp : Nd.plain s = true := by
            unfold Nd.plain; rw [hall]
            match s, h1 with
            | [_], _ => rfl
          rw [hp] at H
          obtain ⟨c, rfl⟩ : ∃ c, s = [c] := by match s, h1 with | [c], _ => exact ⟨c, rfl⟩
          have hl1 := Lib.hid h1
          clear hp hall h1 hn
          go_wp2_with fail
          exact H.out
        · have h1' : ((s.length : Int) == 1) = false := by simp; omega
          have hix := ix_s s .i64 0 (z := (0 : Int)) rfl hpos
          have hp : Nd.plain s = ((s[0]).toNat != 48) := plain_two s hpos h1 hall
          rw [hp] at H
          generalize s[0] = c at *
          by_cases hc : c.toNat = 48
          · have hcf : ((c.toNat : Int) != 48) = false := by simp [hc]
            have hcb : (c.toNat != 48) = false := by simp [hc]
            rw [hcb] at H
            clear hp hall h1 hn hc hcb
            go_wp2_with fail
            exact H.out
          · have hcf : ((c.toNat : Int) != 48) = true := by simp; omega
            have hcb : (c.toNat != 48) = true := by simp [hc]
            rw [hcb] at H
            clear hp hall h1 hn hc hcb
            go_wp2_with fail
            exact H.out
end Go.Proofs.YtobpnjnfpgcpaaaDoor

/- Trees: digits without a needless nought. -/
namespace Go.My
theorem mem_drop (p : UInt8 → Bool) (c : UInt8) (hp : p c = false) : ∀ l : List UInt8, c ∈ l → c ∈ l.dropWhile p := by
  intro l
  induction l with
  | nil => intro h; cases h
  | cons d l ih =>
    intro h
    rw [List.dropWhile_cons]
    by_cases hd : p d = true
    · rw [if_pos hd]
      rcases List.mem_cons.1 h with rfl | h
      · rw [hp] at hd; cases hd
      · exact ih h
    · rw [if_neg hd]; exact h
theorem drop_none (p : UInt8 → Bool) : ∀ l : List UInt8, (∀ c ∈ l, p c = true) → l.dropWhile p = [] := by
  intro l
  induction l with
  | nil => intro _; rfl
  | cons d l ih => intro h; rw [List.dropWhile_cons, if_pos (h d (List.mem_cons_self ..))]; exact ih fun c hc => h c (List.mem_cons_of_mem _ hc)
theorem trim_all (l cs : List UInt8) (h : ∀ c ∈ l, cs.contains c = true) : Lib.trimS l cs = [] := by
  unfold Lib.trimS Lib.trimLeftS Lib.trimRightS
  rw [drop_none (cs.contains ·) l.reverse (fun c hc => h c (List.mem_reverse.1 hc))]; rfl
theorem trim_not (l cs : List UInt8) {c : UInt8} (hc : c ∈ l) (hn : cs.contains c = false) : Lib.trimS l cs ≠ [] := by
  intro h
  have h1 := mem_drop (cs.contains ·) c hn l.reverse (List.mem_reverse.2 hc)
  have h2 := mem_drop (cs.contains ·) c hn _ (List.mem_reverse.2 h1)
  unfold Lib.trimS Lib.trimLeftS Lib.trimRightS at h
  rw [h] at h2; cases h2
end Go.My
namespace Go.Proofs.YtobpnjnfpgcpaaaDoor
open Go.RowKit Go.My

theorem trims_t {w : World} (l : List UInt8) (hl : l.length ≤ 9223372036854775807) {Q : Ending → World → Prop} (h : ∀ w', Below w.heap.size w w' → Q (.returned (.string (bs (Lib.trimS l digits)))) w') :
    Calls Tryd.prog 88 #[.string (bs l), .string (bs digits)] w Q := by
  have hcon := Any.strings_Trim_laid Tryd.lays160 (by kernel_rfl) (bs l) (bs digits) w (by rw [bs_size]; exact hl) (by rw [bs_size]; decide) (by rw [bs_list]; exact cutD.ascii)
  refine Calls.mono (P := Tryd.prog) (f := 88) hcon ?_
  rintro e w' ⟨rfl, hB⟩
  rw [bs_list, bs_list]
  exact h w' hB

theorem isD_in (c : UInt8) : digits.contains c = To.isD c := cutD.is c

theorem plain_zero : Nd.plain [48] = true := by decide
theorem plain_some (s : List UInt8) (hpos : 0 < s.length) (hz : s ≠ [48]) (hall : s.all To.isD = true) : Nd.plain s = ((s[0]).toNat != 48) := by
  by_cases h1 : s.length = 1
  · obtain ⟨c, rfl⟩ : ∃ c, s = [c] := by
      cases s with
      | nil => exact absurd hpos (Nat.lt_irrefl _)
      | cons c r => cases r with
        | nil => exact ⟨c, rfl⟩
        | cons d r => simp at h1
    have hc : c.toNat ≠ 48 := fun h => hz (by rw [show c = 48 from UInt8.toNat_inj.1 h])
    unfold Nd.plain
    rw [hall, Bool.true_and, List.getElem_cons_zero]
    simp [hc]
  · exact plain_two s hpos h1 hall

set_option maxRecDepth 100000 in
set_option maxHeartbeats 4000000 in
theorem plain_t {w : World} (s : List UInt8) (hs : s.length ≤ 9223372036854775807) {Q : Ending → World → Prop} (h : ∀ w', Below w.heap.size w w' → Q (.returned (.bool (Nd.plain s))) w') :
    Calls Tryd.prog 74 #[.string (bs s)] w Q := by
  have H := Lib.hid h
  have hs1 := bs_size s
  have e1 := bs_tlp s
  have e9 := bs_tlp []
  clear h
  by_cases hn : s = []
  · subst hn
    have hp : Nd.plain [] = false := rfl
    rw [hp] at H
    clear hp
    go_enter Tryd.func74, Tryd.ntmps74
    go_wp2_with fail
    exact H.out _ (Below.refl _ _)
  · have he : s.isEmpty = false := by cases s with | nil => exact absurd rfl hn | cons _ _ => rfl
    have hpos : 0 < s.length := List.length_pos_iff.2 hn
    have hpi : (0 : Int) < (s.length : Int) := by omega
    have HS := Lib.hid hs
    by_cases hall : s.all To.isD = true
    · have hr : Lib.trimS s digits = [] := trim_all s digits fun c hc => by rw [isD_in]; exact List.all_eq_true.1 hall c hc
      have HRR := Lib.hid hr
      clear hr
      by_cases hz : s = [48]
      · subst hz
        rw [plain_zero] at H
        clear hall hn
        go_enter Tryd.func74, Tryd.ntmps74
        go_wp2_with fail
        refine trims_t [48] HS.out fun w' hB => ?_
        rw [HRR.out]
        have HB := Lib.hid hB
        clear hB
        go_wp2_with fail
        exact H.out _ HB.out
      · have hix := ix_s s .i64 0 (z := (0 : Int)) rfl hpos
        have hp := plain_some s hpos hz hall
        rw [hp] at H
        have hzb : (s == [48]) = false := by simp [hz]
        generalize s[0] = c at *
        by_cases hc : c.toNat = 48
        · have hcf : ((c.toNat : Int) != 48) = false := by simp [hc]
          have hcb : (c.toNat != 48) = false := by simp [hc]
          rw [hcb] at H
          clear hp hall hn hc hcb hz
          go_enter Tryd.func74, Tryd.ntmps74
          go_wp2_with fail
          refine trims_t s HS.out fun w' hB => ?_
          rw [HRR.out]
          have HB := Lib.hid hB
          clear hB
          go_wp2_with fail
          exact H.out _ HB.out
        · have hcf : ((c.toNat : Int) != 48) = true := by simp; omega
          have hcb : (c.toNat != 48) = true := by simp [hc]
          rw [hcb] at H
          clear hp hall hn hc hcb hz
          go_enter Tryd.func74, Tryd.ntmps74
          go_wp2_with fail
          refine trims_t s HS.out fun w' hB => ?_
          rw [HRR.out]
          have HB := Lib.hid hB
          clear hB
          go_wp2_with fail
          exact H.out _ HB.out
    · have hf : s.all To.isD = false := by simpa using hall
      have hp : Nd.plain s = false := by unfold Nd.plain; rw [hf]; rfl
      rw [hp] at H
      obtain ⟨c, hc, hcn⟩ : ∃ c ∈ s, To.isD c = false := by
        have := List.all_eq_false.1 hf
        obtain ⟨c, h1, h2⟩ := this
        exact ⟨c, h1, by simpa using h2⟩
      have hr := trim_not s digits hc (by rw [isD_in]; exact hcn)
      obtain ⟨r, hrr⟩ : ∃ r, r = Lib.trimS s digits := ⟨_, rfl⟩
      rw [← hrr] at hr
      have e2 := bs_tlp r
      have he2 : r.isEmpty = false := by cases r with | nil => exact absurd rfl hr | cons _ _ => rfl
      have HRR := Lib.hid hrr
      clear hp hall hn hf hc hcn hr hrr
      go_enter Tryd.func74, Tryd.ntmps74
      go_wp2_with fail
      refine trims_t s HS.out fun w' hB => ?_
      rw [← HRR.out]
      have HB := Lib.hid hB
      clear hB
      go_wp2_with fail
      exact H.out _ HB.out
end Go.Proofs.YtobpnjnfpgcpaaaDoor

/- Tokens: the reference's Name; the walk of TokensNames. -/
namespace Go.Proofs.YtobpnjnfpgcpaaaDoor
open Go.RowKit Go.My

theorem bs_tl (l : List UInt8) : (bs l).toList = l := by rw [ByteArray.toList_eq, bs_list]

set_option maxHeartbeats 4000000 in
theorem refname_t {w : World} (l : List UInt8) (hl : l.length ≤ 9223372036854775807) {Q : Ending → World → Prop} (h : Q (.returned (.bool (To.name l))) w) :
    Calls Tryd.prog 29 #[.string (bs l)] w Q := by
  have H := Lib.hid h
  clear h
  by_cases h1 : l = []
  · subst h1
    have e : To.name [] = false := by decide
    rw [e] at H
    have hbl := bs_tl []
    clear e
    go_enter Tryd.func29, Tryd.ntmps29
    go_wp2_with fail
    exact H.out
  have g0 := h1
  clear h1
  by_cases h1 : l = [102, 110]
  · subst h1
    have e : To.name [102, 110] = false := by decide
    rw [e] at H
    have hbl := bs_tl [102, 110]
    clear e
    go_enter Tryd.func29, Tryd.ntmps29
    go_wp2_with fail
    exact H.out
  have g1 := h1
  clear h1
  by_cases h1 : l = [105, 102]
  · subst h1
    have e : To.name [105, 102] = false := by decide
    rw [e] at H
    have hbl := bs_tl [105, 102]
    clear e
    go_enter Tryd.func29, Tryd.ntmps29
    go_wp2_with fail
    exact H.out
  have g2 := h1
  clear h1
  by_cases h1 : l = [101, 108, 115, 101]
  · subst h1
    have e : To.name [101, 108, 115, 101] = false := by decide
    rw [e] at H
    have hbl := bs_tl [101, 108, 115, 101]
    clear e
    go_enter Tryd.func29, Tryd.ntmps29
    go_wp2_with fail
    exact H.out
  have g3 := h1
  clear h1
  by_cases h1 : l = [119, 104, 105, 108, 101]
  · subst h1
    have e : To.name [119, 104, 105, 108, 101] = false := by decide
    rw [e] at H
    have hbl := bs_tl [119, 104, 105, 108, 101]
    clear e
    go_enter Tryd.func29, Tryd.ntmps29
    go_wp2_with fail
    exact H.out
  have g4 := h1
  clear h1
  by_cases h1 : l = [114, 101, 116, 117, 114, 110]
  · subst h1
    have e : To.name [114, 101, 116, 117, 114, 110] = false := by decide
    rw [e] at H
    have hbl := bs_tl [114, 101, 116, 117, 114, 110]
    clear e
    go_enter Tryd.func29, Tryd.ntmps29
    go_wp2_with fail
    exact H.out
  have g5 := h1
  clear h1
  by_cases h1 : l = [116, 101, 108, 108]
  · subst h1
    have e : To.name [116, 101, 108, 108] = false := by decide
    rw [e] at H
    have hbl := bs_tl [116, 101, 108, 108]
    clear e
    go_enter Tryd.func29, Tryd.ntmps29
    go_wp2_with fail
    exact H.out
  have g6 := h1
  clear h1
  by_cases h1 : l = [110, 111, 116]
  · subst h1
    have e : To.name [110, 111, 116] = false := by decide
    rw [e] at H
    have hbl := bs_tl [110, 111, 116]
    clear e
    go_enter Tryd.func29, Tryd.ntmps29
    go_wp2_with fail
    exact H.out
  have g7 := h1
  clear h1
  obtain ⟨x, hx⟩ : ∃ x, x = To.word l := ⟨_, rfl⟩
  have hcon : To.own.contains l = false := by
    simp only [To.own, List.contains_cons, List.contains_nil, Bool.or_false, Bool.or_eq_false_iff, beq_eq_false_iff_ne]
    exact ⟨g1, g2, g3, g4, g5, g6, g7⟩
  have hemp : l.isEmpty = false := by cases l with | nil => exact absurd rfl g0 | cons _ _ => rfl
  have e : To.name l = decide ((x : Int) = (l.length : Int)) := by
    unfold To.name
    rw [hcon, hemp, ← hx, Bool.eq_iff_iff]; simp; omega
  rw [e] at H
  have b0 : (bs l).toList.isEmpty = false := by rw [bs_tl]; exact hemp
  have b1 : ((bs l).toList == [102, 110]) = false := by rw [bs_tl]; simpa using g1
  have b2 : ((bs l).toList == [105, 102]) = false := by rw [bs_tl]; simpa using g2
  have b3 : ((bs l).toList == [101, 108, 115, 101]) = false := by rw [bs_tl]; simpa using g3
  have b4 : ((bs l).toList == [119, 104, 105, 108, 101]) = false := by rw [bs_tl]; simpa using g4
  have b5 : ((bs l).toList == [114, 101, 116, 117, 114, 110]) = false := by rw [bs_tl]; simpa using g5
  have b6 : ((bs l).toList == [116, 101, 108, 108]) = false := by rw [bs_tl]; simpa using g6
  have b7 : ((bs l).toList == [110, 111, 116]) = false := by rw [bs_tl]; simpa using g7
  have hsz := bs_size l
  have HN := Lib.hid hx
  clear e hx hcon hemp g0 g1 g2 g3 g4 g5 g6 g7
  go_enter Tryd.func29, Tryd.ntmps29
  go_wp2_with fail
  refine refword_t l hl ?_
  rw [← HN.out]
  go_wp2_with fail
  exact H.out
end Go.Proofs.YtobpnjnfpgcpaaaDoor

/- Trees: may a node be an expression. -/
namespace Go.My
open Go.Nd
def isTwoNum : List Nd → Bool
  | [_, x] => x.kind == 1
  | _ => false
theorem raised_items (l : Ns) : Nd.raised l = isTwoNum l.items := rfl
theorem raised_two (l : Ns) (h : l.items.length = 2) : Nd.raised l = ((l.items[1]).kind == 1) := by
  have key : ∀ (L : List Nd) (h : L.length = 2), isTwoNum L = ((L[1]).kind == 1) := by
    intro L h
    match L, h with
    | [a, b], _ => rfl
  exact (raised_items l).trans (key l.items h)
theorem raised_not (l : Ns) (h : l.items.length ≠ 2) : Nd.raised l = false := by
  have key : ∀ (L : List Nd) (h : L.length ≠ 2), isTwoNum L = false := by
    intro L h
    match L, h with
    | [], _ => rfl
    | [_], _ => rfl
    | [_, _], h => exact absurd rfl h
    | _ :: _ :: _ :: _, _ => rfl
  exact (raised_items l).trans (key l.items h)
theorem head_other (k : Nat) (t : List UInt8) (l : Ns) (h1 : k ≠ 1) (h2 : k ≠ 2) (h3 : k ≠ 3) (h4 : k ≠ 4) (h5 : k ≠ 5) (h6 : k ≠ 6) (h7 : k ≠ 7) : head k t l = false := by
  unfold head
  rw [if_neg h1, if_neg h2, if_neg h3, if_neg h4, if_neg (by omega), if_neg h5]
end Go.My
namespace Go.Proofs.YtobpnjnfpgcpaaaDoor
open Go.RowKit Go.My Go.Nd

theorem contains_signs (l : List UInt8) : Lib.containsS (Nd.signs.map bs) (bs l) = Nd.signs.contains l := by
  rw [Bool.eq_iff_iff, Lib.containsS_iff]
  simp only [List.mem_map, List.contains_iff_mem]
  constructor
  · rintro ⟨x, hx, he⟩
    have := congrArg (fun s : ByteArray => s.data.toList) he
    simp only [bs_list] at this
    rw [← this]; exact hx
  · intro h; exact ⟨l, h, rfl⟩

theorem signs_t {w : World} (l : List UInt8) {Q : Ending → World → Prop} (h : Q (.returned (.bool (Nd.signs.contains l))) (w.alloc (.cells #[.string (bs [43]), .string (bs [45]), .string (bs [42]), .string (bs [47]), .string (bs [61, 61]), .string (bs [33, 61]), .string (bs [60]), .string (bs [60, 61])] 9))) :
    Calls Tryd.prog 40 #[.slice (some ⟨w.heap.size, 0, none⟩) 8 8, .string (bs l)] (w.alloc (.cells #[.string (bs [43]), .string (bs [45]), .string (bs [42]), .string (bs [47]), .string (bs [61, 61]), .string (bs [33, 61]), .string (bs [60]), .string (bs [60, 61])] 9)) Q := by
  refine Calls.mono (Tryd.slices_Contains_string w.heap.size 0 8 8 (Nd.signs.map bs) (bs l) _ (by decide) (by decide) (fun j hj => ?_)) ?_
  · rw [cell_of_row _ w.heap.size (0 + j) _ 9 (0, 0) (_root_.Go.heap_alloc_new w _)]
    have hj7 : j < 8 := hj
    match j, hj7 with
    | 0, _ => rfl
    | 1, _ => rfl
    | 2, _ => rfl
    | 3, _ => rfl
    | 4, _ => rfl
    | 5, _ => rfl
    | 6, _ => rfl
    | 7, _ => rfl
  · rintro e w' ⟨rfl, rfl⟩
    rw [show (Nd.signs.map bs).take 8 = Nd.signs.map bs from rfl, contains_signs]
    exact h

/-- What the answer is, once its parts are known. -/
theorem expr_no {kd : Nat} {tt : List UInt8} {xl xb xe : Ns} (h : xb.len ≠ 0 ∨ xe.len ≠ 0 ∨ exprs xl = false ∨ head kd tt xl = false) : exprOne ⟨kd, tt, xl, xb, xe⟩ = false := by
  unfold exprOne
  rcases h with h | h | h | h
  · simp [h]
  · simp [h]
  · simp [h]
  · simp [h]
theorem expr_is {kd : Nat} {tt : List UInt8} {xl xb xe : Ns} (h1 : xb.len = 0) (h2 : xe.len = 0) (h3 : exprs xl = true) : exprOne ⟨kd, tt, xl, xb, xe⟩ = head kd tt xl := by
  unfold exprOne
  simp [h1, h2, h3]

set_option maxRecDepth 100000 in
set_option maxHeartbeats 8000000 in
theorem expr_one {tw : Bool} {B : Nat} {x : Nd} (h : ∀ y ∈ x.l.items, Asked tw B 43 exprOne y) : Asked tw B 43 exprOne x := by
  intro w a1 a2 a3 c1 c2 c3 hB n1 n2 n3 hk ht
  have hA := Below.alloc (Below.refl w.heap.size w) (Nat.le_refl _) (.cells #[.int .u8 (x.kind : Int), .string (tx x.text), .slice a1 x.l.len c1, .slice a2 x.body.len c2, .slice a3 x.els.len c3] 25)
  have HC := Lib.hid (contains_said (Nat.le_trans hB hA.size) (n1.below (hA.mono hB)) (fn := 73) (p := fun x => !exprOne x) (fun y hy => expr1_one (h y hy)) (fun _ _ => by kernel_rfl))
  rw [not_exprs] at HC
  have Y := Lib.hid (And.intro hA (And.intro hB n1))
  obtain ⟨kd, tt, xl, xb, xe⟩ := x
  have etx : tx tt = bs tt := rfl
  simp only [etx] at *
  have hs := bs_tl tt
  have k0 : (0 : Int) ≤ (kd : Int) := by omega
  have k1 : (kd : Int) < 256 := by omega
  have l0 : (0 : Int) ≤ (xl.len : Int) := by omega
  have l1 : (xl.len : Int) ≤ 140737488351232 := by obtain ⟨_, _, _, hr, _⟩ := n1; have := hr.2.2.1; omega
  have b0 : (0 : Int) ≤ (xb.len : Int) := by omega
  have e0 : (0 : Int) ≤ (xe.len : Int) := by omega
  have HT := Lib.hid (show tt.length ≤ 9223372036854775807 by omega)
  clear h n1 n2 n3 hA hB etx ht hk
  by_cases hb : 0 < xb.len
  · have hbi : (0 : Int) < (xb.len : Int) := by omega
    have HN := Lib.hid (expr_no (kd := kd) (tt := tt) (xl := xl) (xb := xb) (xe := xe) (.inl (by omega)))
    clear hb
    go_enter Tryd.func43, Tryd.ntmps43
    go_wp2_with fail
    go_ret
    exact ⟨by rw [HN.out]; rfl, Y.out.1⟩
  have HB := Lib.hid (show xb.len = 0 by omega)
  rw [HB.out] at HC Y ⊢
  clear hb b0
  by_cases he : 0 < xe.len
  · have hei : (0 : Int) < (xe.len : Int) := by omega
    have HN := Lib.hid (expr_no (kd := kd) (tt := tt) (xl := xl) (xb := xb) (xe := xe) (.inr (.inl (by omega))))
    clear he
    go_enter Tryd.func43, Tryd.ntmps43
    go_wp2_with fail
    go_ret
    exact ⟨by rw [HN.out]; rfl, Y.out.1⟩
  have HE := Lib.hid (show xe.len = 0 by omega)
  rw [HE.out] at HC Y ⊢
  clear he e0
  go_enter Tryd.func43, Tryd.ntmps43
  go_wp2_with fail
  refine HC.out.mono ?_
  rintro e w1 ⟨rfl, hb1⟩
  have q0 := box_later hb1 0
  have q1 := box_later hb1 1
  have q2 := box_later hb1 2
  simp at q0 q1 q2
  have K1 := Lib.hid (And.intro hb1 (Y.out.1.trans (hb1.mono Y.out.1.size)))
  clear hb1
  cases hx : exprs xl with
  | false =>
    have HN := Lib.hid (expr_no (kd := kd) (tt := tt) (xl := xl) (xb := xb) (xe := xe) (.inr (.inr (.inl hx))))
    clear hx
    go_wp2_with fail
    go_ret
    exact ⟨by rw [HN.out]; rfl, K1.out.2⟩
  | true =>
    have HI := Lib.hid (expr_is (kd := kd) (tt := tt) HB.out HE.out hx)
    clear hx
    by_cases e1 : kd = 1
    · subst e1
      by_cases hz : xl.len = 0
      · have HH := Lib.hid (show head 1 tt xl = Nd.plain tt by unfold head; rw [if_pos rfl, hz]; rfl)
        have hzi : (xl.len : Int) = 0 := by omega
        clear hz
        go_wp2_with fail
        refine plain_t tt HT.out fun w2 hb2 => ?_
        have K2 := Lib.hid (K1.out.2.trans (hb2.mono K1.out.2.size))
        clear hb2
        go_wp2_with fail
        go_ret
        exact ⟨by rw [HI.out, HH.out]; rfl, K2.out⟩
      · have HH := Lib.hid (show head 1 tt xl = false by unfold head; rw [if_pos rfl]; simp [hz])
        have hzi : ((xl.len : Int) == 0) = false := by simp; omega
        clear hz
        go_wp2_with fail
        go_ret
        exact ⟨by rw [HI.out, HH.out]; rfl, K1.out.2⟩
    by_cases e2 : kd = 2
    · subst e2
      by_cases hz : xl.len = 0
      · have HH := Lib.hid (show head 2 tt xl = To.name tt by unfold head; rw [if_neg (by decide), if_pos rfl, hz]; rfl)
        have hzi : (xl.len : Int) = 0 := by omega
        clear hz
        go_wp2_with fail
        refine name_t tt HT.out fun w2 hb2 => ?_
        have K2 := Lib.hid (K1.out.2.trans (hb2.mono K1.out.2.size))
        clear hb2
        go_wp2_with fail
        go_ret
        exact ⟨by rw [HI.out, HH.out]; rfl, K2.out⟩
      · have HH := Lib.hid (show head 2 tt xl = false by unfold head; rw [if_neg (by decide), if_pos rfl]; simp [hz])
        have hzi : ((xl.len : Int) == 0) = false := by simp; omega
        clear hz
        go_wp2_with fail
        go_ret
        exact ⟨by rw [HI.out, HH.out]; rfl, K1.out.2⟩
    by_cases e3 : kd = 3
    · subst e3
      have HH := Lib.hid (show head 3 tt xl = tt.isEmpty by unfold head; rw [if_neg (by decide), if_neg (by decide), if_pos rfl])
      go_wp2_with fail
      go_ret
      exact ⟨by rw [HI.out, HH.out]; rfl, K1.out.2⟩
    by_cases e4 : kd = 4
    · subst e4
      have HH := Lib.hid (show head 4 tt xl = To.name tt by unfold head; rw [if_neg (by decide), if_neg (by decide), if_neg (by decide), if_pos rfl])
      go_wp2_with fail
      refine name_t tt HT.out fun w2 hb2 => ?_
      have K2 := Lib.hid (K1.out.2.trans (hb2.mono K1.out.2.size))
      clear hb2
      go_wp2_with fail
      go_ret
      exact ⟨by rw [HI.out, HH.out]; rfl, K2.out⟩
    by_cases e67 : kd = 6 ∨ kd = 7
    · by_cases hz : xl.len = 1
      · have HH := Lib.hid (show head kd tt xl = tt.isEmpty by unfold head; rw [if_neg (by omega), if_neg (by omega), if_neg (by omega), if_neg (by omega), if_pos e67, hz]; rfl)
        have hzi : (xl.len : Int) = 1 := by omega
        clear hz e1 e2 e3 e4
        rcases e67 with rfl | rfl
        all_goals
          go_wp2_with fail
          go_ret
          exact ⟨by rw [HI.out, HH.out]; rfl, K1.out.2⟩
      · have HH := Lib.hid (show head kd tt xl = false by unfold head; rw [if_neg (by omega), if_neg (by omega), if_neg (by omega), if_neg (by omega), if_pos e67]; simp [hz])
        have hzi : ((xl.len : Int) == 1) = false := by simp; omega
        clear hz e1 e2 e3 e4
        rcases e67 with rfl | rfl
        all_goals
          go_wp2_with fail
          go_ret
          exact ⟨by rw [HI.out, HH.out]; rfl, K1.out.2⟩
    by_cases e5 : kd = 5
    · subst e5
      clear e1 e2 e3 e4 e67
      by_cases ht : tt = [94]
      · subst ht
        by_cases hz : xl.len = 2
        · have hz2 : xl.items.length = 2 := hz
          obtain ⟨a, c, ev, _, hc⟩ := (Y.out.2.2.below (K1.out.2.mono Y.out.2.1)).open_
          obtain ⟨b, off, v1, v2, v3, ea, _, hN⟩ := hc 1 (by omega)
          cases ev
          subst ea
          have d0 := hN.d0
          obtain ⟨k2, hk2⟩ : ∃ k2, k2 = (xl.items[1]).kind := ⟨_, rfl⟩
          rw [← hk2, Nat.one_mul] at d0
          have HH := Lib.hid (show head 5 [94] xl = (k2 == 1) by unfold head; rw [if_neg (by decide), if_neg (by decide), if_neg (by decide), if_neg (by decide), if_neg (by decide), if_pos rfl, if_pos rfl, raised_two xl hz2, hk2])
          have hzi : (xl.len : Int) = 2 := by omega
          have k2n : (0 : Int) ≤ (k2 : Int) := by omega
          have he : ((k2 : Int) == 1) = (k2 == 1) := by rw [Bool.eq_iff_iff]; simp; omega
          clear hz hz2 hc hN hk2
          go_wp2_with fail
          go_ret
          exact ⟨by rw [HI.out, HH.out]; simp, K1.out.2⟩
        · have HH := Lib.hid (show head 5 [94] xl = false by unfold head; rw [if_neg (by decide), if_neg (by decide), if_neg (by decide), if_neg (by decide), if_neg (by decide), if_pos rfl, if_pos rfl, raised_not xl hz])
          have hzi : ((xl.len : Int) == 2) = false := by simp; omega
          clear hz
          go_wp2_with fail
          go_ret
          exact ⟨by rw [HI.out, HH.out]; rfl, K1.out.2⟩
      · have hte : (tt == [94]) = false := by simpa using ht
        by_cases hz : xl.len = 2
        · have HH := Lib.hid (show head 5 tt xl = decide (tt ∈ Nd.signs) by unfold head; rw [if_neg (by decide), if_neg (by decide), if_neg (by decide), if_neg (by decide), if_neg (by decide), if_pos rfl, if_neg ht, hz, List.contains_eq_mem]; rfl)
          have hzi : (xl.len : Int) = 2 := by omega
          clear hz ht
          have hA1 := Below.alloc (Below.refl w1.heap.size w1) (Nat.le_refl _) (.cells #[.string (bs [43]), .string (bs [45]), .string (bs [42]), .string (bs [47]), .string (bs [61, 61]), .string (bs [33, 61]), .string (bs [60]), .string (bs [60, 61])] 9)
          have HA1 := Lib.hid hA1
          have q1' := fun o => box_later (K1.out.1.alloc K1.out.1.size o) 1
          simp at q1'
          clear hA1
          go_wp2_with fail
          refine signs_t tt ?_
          go_wp2_with fail
          go_ret
          exact ⟨by rw [HI.out, HH.out]; rfl, K1.out.2.trans (HA1.out.mono K1.out.2.size)⟩
        · have HH := Lib.hid (show head 5 tt xl = false by unfold head; rw [if_neg (by decide), if_neg (by decide), if_neg (by decide), if_neg (by decide), if_neg (by decide), if_pos rfl, if_neg ht]; simp [hz])
          have hzi : ((xl.len : Int) == 2) = false := by simp; omega
          clear hz ht
          go_wp2_with fail
          go_ret
          exact ⟨by rw [HI.out, HH.out]; rfl, K1.out.2⟩
    · have HH := Lib.hid (head_other kd tt xl e1 e2 e3 e4 e5 (fun h => e67 (.inl h)) (fun h => e67 (.inr h)))
      have f1 : ((kd : Int) == 1) = false := by simp; omega
      have f2 : ((kd : Int) == 2) = false := by simp; omega
      have f3 : ((kd : Int) == 3) = false := by simp; omega
      have f4 : ((kd : Int) == 4) = false := by simp; omega
      have f5 : ((kd : Int) == 5) = false := by simp; omega
      have f6 : ((kd : Int) == 6) = false := by simp; omega
      have f7 : ((kd : Int) == 7) = false := by simp; omega
      clear e1 e2 e3 e4 e5 e67
      go_wp2_with fail
      go_ret
      exact ⟨by rw [HI.out, HH.out]; rfl, K1.out.2⟩

theorem expr_said (tw : Bool) (B : Nat) : ∀ xs : Ns, ∀ x ∈ xs.items, Asked tw B 43 exprOne x :=
  Ns.each fun _ ih x hx => expr_one (ih x hx).1
end Go.Proofs.YtobpnjnfpgcpaaaDoor

/- Trees: may a node be an expression, as the document has it. -/
namespace Go.Proofs.YtobpnjnfpgcpaaaDoor
open Go.RowKit Go.My Go.Nd

def RExprAt (w0 : World) (xl : Ns) (gk : Nat) (v3 : Value) (wr : World) : Prop :=
  ∃ i : Nat, i ≤ xl.items.length ∧ gk = xl.items.length - i ∧ v3 = .int .i64 (i : Int) ∧ (xl.items.drop i).all exprOne = exprs xl ∧ Below w0.heap.size w0 wr

set_option maxRecDepth 100000 in
set_option maxHeartbeats 8000000 in
theorem rexpr_one {tw : Bool} {B : Nat} {x : Nd} (h : ∀ y ∈ x.l.items, Asked tw B 58 exprOne y) : Asked tw B 58 exprOne x := by
  intro w a1 a2 a3 c1 c2 c3 hB n1 n2 n3 hk ht
  have hA := Below.alloc (Below.refl w.heap.size w) (Nat.le_refl _) (.cells #[.int .u8 (x.kind : Int), .string (tx x.text), .slice a1 x.l.len c1, .slice a2 x.body.len c2, .slice a3 x.els.len c3] 25)
  have HC := Lib.hid h
  have Y := Lib.hid (And.intro hA (And.intro hB n1))
  obtain ⟨kd, tt, xl, xb, xe⟩ := x
  have etx : tx tt = bs tt := rfl
  simp only [etx] at *
  have hs := bs_tl tt
  have k0 : (0 : Int) ≤ (kd : Int) := by omega
  have k1 : (kd : Int) < 256 := by omega
  have l0 : (0 : Int) ≤ (xl.len : Int) := by omega
  have l1 : (xl.len : Int) ≤ 140737488351232 := by obtain ⟨_, _, _, hr, _⟩ := n1; have := hr.2.2.1; omega
  have b0 : (0 : Int) ≤ (xb.len : Int) := by omega
  have e0 : (0 : Int) ≤ (xe.len : Int) := by omega
  have HT := Lib.hid (show tt.length ≤ 9223372036854775807 by omega)
  clear h n1 n2 n3 hA hB etx ht hk
  by_cases hb : 0 < xb.len
  · have hbi : (0 : Int) < (xb.len : Int) := by omega
    have HN := Lib.hid (expr_no (kd := kd) (tt := tt) (xl := xl) (xb := xb) (xe := xe) (.inl (by omega)))
    clear hb
    go_enter Tryd.func58, Tryd.ntmps58
    go_wp2_with fail
    go_ret
    exact ⟨by rw [HN.out]; rfl, Y.out.1⟩
  have HB := Lib.hid (show xb.len = 0 by omega)
  rw [HB.out] at Y ⊢
  clear hb b0
  by_cases he : 0 < xe.len
  · have hei : (0 : Int) < (xe.len : Int) := by omega
    have HN := Lib.hid (expr_no (kd := kd) (tt := tt) (xl := xl) (xb := xb) (xe := xe) (.inr (.inl (by omega))))
    clear he
    go_enter Tryd.func58, Tryd.ntmps58
    go_wp2_with fail
    go_ret
    exact ⟨by rw [HN.out]; rfl, Y.out.1⟩
  have HE := Lib.hid (show xe.len = 0 by omega)
  rw [HE.out] at Y ⊢
  clear he e0
  obtain ⟨bx, hbx⟩ : ∃ bx, bx = w.heap.size := ⟨_, rfl⟩
  obtain ⟨w0, hw0⟩ : ∃ w0, w0 = w.alloc (.cells #[.int .u8 (kd : Int), .string (bs tt), .slice a1 xl.len c1, .slice a2 0 c2, .slice a3 0 c3] 25) := ⟨_, rfl⟩
  have hbox : ∀ w1, Below w0.heap.size w0 w1 → w1.cell? ⟨bx, 0, none⟩ = some (.int .u8 (kd : Int)) ∧ w1.cell? ⟨bx, 1, none⟩ = some (.string (bs tt)) ∧ w1.cell? ⟨bx, 2, none⟩ = some (.slice a1 xl.len c1) := by
    intro w1 hb1
    rw [hw0] at hb1
    rw [hbx]
    have q0 := box_later hb1 0
    have q1 := box_later hb1 1
    have q2 := box_later hb1 2
    simp at q0 q1 q2
    exact ⟨q0, q1, q2⟩
  have HX := Lib.hid hbox
  have Y0 := Lib.hid (show Below w.heap.size w w0 from hw0 ▸ Y.out.1)
  have HN1 := Lib.hid (Y.out.2.2.below (Y0.out.mono Y.out.2.1))
  have HB0 := Lib.hid (Nat.le_trans Y.out.2.1 Y0.out.size)
  clear hbox Y
  go_enter Tryd.func58, Tryd.ntmps58
  go_wp2_with fail
  rw [← hbx, ← hw0]
  clear hbx hw0
  go_loopg [3] xl.items.length (fun gk v3 wr => RExprAt w0 xl gk v3 wr)
  case atStart => exact ⟨0, Nat.zero_le _, rfl, rfl, by rw [List.drop_zero, My.exprs_items], Below.refl _ _⟩
  case round =>
    obtain ⟨i, hi, rfl, rfl, hd, hbw⟩ := hrel
    have i0 : (0 : Int) ≤ (i : Int) := by omega
    obtain ⟨q0, q1, q2⟩ := HX.out wr hbw
    have hlen : xl.items.length = xl.len := rfl
    by_cases hlt : i < xl.items.length
    · have i1 : (i : Int) < (xl.len : Int) := by rw [← hlen]; omega
      obtain ⟨a, c, ev, _, hc⟩ := (HN1.out.below (hbw.mono HB0.out)).open_
      cases ev
      obtain ⟨b, off, v1, v2, v3, rfl, hS, hN⟩ := hc i hlt
      obtain ⟨y, hy⟩ : ∃ y, y = xl.items[i] := ⟨_, rfl⟩
      rw [← hy] at hN
      have hI := HC.out _ (List.getElem_mem hlt)
      rw [← hy] at hI
      have hdr := items_cons_drop xl i hlt
      rw [← hy] at hdr
      obtain ⟨kd2, tt2, yl, yb, ye⟩ := y
      have d0 := hN.d0
      have d1 := hN.d1
      have d2 := hN.d2
      have d3 := hN.d3
      have d4 := hN.d4
      obtain ⟨b1, g1, rfl, s1, m1⟩ := hN.l
      obtain ⟨b2, g2, rfl, s2, m2⟩ := hN.body
      obtain ⟨b3, g3, rfl, s3, m3⟩ := hN.els
      simp only at d0 d1 d2 d3 d4
      have Y := Lib.hid (And.intro hbw (And.intro hd (And.intro hdr (hI wr b1 b2 b3 g1 g2 g3 (Nat.le_trans HB0.out hbw.size) ⟨b1, g1, rfl, s1, m1⟩ ⟨b2, g2, rfl, s2, m2⟩ ⟨b3, g3, rfl, s3, m3⟩ hN.kind hN.text))))
      clear hN hc s1 s2 s3 m1 m2 m3 hbw hd hy hdr hI hS
      go_wp2_with fail
      refine Y.out.2.2.2.mono ?_
      rintro e w1 ⟨rfl, hk⟩
      have K := Lib.hid (Y.out.1.trans (hk.mono Y.out.1.size))
      clear hk
      cases hp : exprOne ⟨kd2, tt2, yl, yb, ye⟩ with
      | false =>
        have hf : exprs xl = false := by rw [← Y.out.2.1, Y.out.2.2.1, List.all_cons, hp]; rfl
        have HF := Lib.hid (expr_no (kd := kd) (tt := tt) (xl := xl) (xb := xb) (xe := xe) (.inr (.inr (.inl hf))))
        clear hp hf
        go_wp2_with fail
        go_ret
        exact ⟨by rw [HF.out]; rfl, Y0.out.trans (K.out.mono Y0.out.size)⟩
      | true =>
        have HP := Lib.hid hp
        clear hp
        go_wp2_with fail
        go_roundg (xl.items.length - (i + 1))
        case measure => omega
        case rel =>
          refine ⟨i + 1, hlt, rfl, by go_num, ?_, K.out⟩
          have hd := Y.out.2.1
          rw [Y.out.2.2.1, List.all_cons, HP.out, Bool.true_and] at hd
          exact hd
    · have hie : i = xl.items.length := by omega
      have hx : exprs xl = true := by rw [← hd, hie, List.drop_length]; rfl
      have i1 : (xl.len : Int) ≤ (i : Int) := by rw [← hlen]; omega
      have HI := Lib.hid (expr_is (kd := kd) (tt := tt) HB.out HE.out hx)
      have K1 := Lib.hid (Y0.out.trans (hbw.mono Y0.out.size))
      have KB := Lib.hid (HN1.out.below (hbw.mono HB0.out))
      clear hlt hi hie hd hbw hx hlen
      by_cases e1 : kd = 1
      · subst e1
        by_cases hz : xl.len = 0
        · have HH := Lib.hid (show head 1 tt xl = Nd.plain tt by unfold head; rw [if_pos rfl, hz]; rfl)
          have hzi : (xl.len : Int) = 0 := by omega
          clear hz
          go_wp2_with fail
          refine rplain_t tt HT.out ?_
          go_wp2_with fail
          go_ret
          exact ⟨by rw [HI.out, HH.out]; rfl, K1.out⟩
        · have HH := Lib.hid (show head 1 tt xl = false by unfold head; rw [if_pos rfl]; simp [hz])
          have hzi : ((xl.len : Int) == 0) = false := by simp; omega
          clear hz
          go_wp2_with fail
          go_ret
          exact ⟨by rw [HI.out, HH.out]; rfl, K1.out⟩
      by_cases e2 : kd = 2
      · subst e2
        by_cases hz : xl.len = 0
        · have HH := Lib.hid (show head 2 tt xl = To.name tt by unfold head; rw [if_neg (by decide), if_pos rfl, hz]; rfl)
          have hzi : (xl.len : Int) = 0 := by omega
          clear hz
          go_wp2_with fail
          refine refname_t tt HT.out ?_
          go_wp2_with fail
          go_ret
          exact ⟨by rw [HI.out, HH.out]; rfl, K1.out⟩
        · have HH := Lib.hid (show head 2 tt xl = false by unfold head; rw [if_neg (by decide), if_pos rfl]; simp [hz])
          have hzi : ((xl.len : Int) == 0) = false := by simp; omega
          clear hz
          go_wp2_with fail
          go_ret
          exact ⟨by rw [HI.out, HH.out]; rfl, K1.out⟩
      by_cases e3 : kd = 3
      · subst e3
        have HH := Lib.hid (show head 3 tt xl = tt.isEmpty by unfold head; rw [if_neg (by decide), if_neg (by decide), if_pos rfl])
        go_wp2_with fail
        go_ret
        exact ⟨by rw [HI.out, HH.out]; rfl, K1.out⟩
      by_cases e4 : kd = 4
      · subst e4
        have HH := Lib.hid (show head 4 tt xl = To.name tt by unfold head; rw [if_neg (by decide), if_neg (by decide), if_neg (by decide), if_pos rfl])
        go_wp2_with fail
        refine refname_t tt HT.out ?_
        go_wp2_with fail
        go_ret
        exact ⟨by rw [HI.out, HH.out]; rfl, K1.out⟩
      by_cases e67 : kd = 6 ∨ kd = 7
      · cases hte : tt.isEmpty with
        | true =>
          have hz : ((xl.len : Int) == 1) = (xl.len == 1) := by rw [Bool.eq_iff_iff]; simp; omega
          have HH := Lib.hid (show head kd tt xl = (xl.len == 1) by unfold head; rw [if_neg (by omega), if_neg (by omega), if_neg (by omega), if_neg (by omega), if_pos e67, hte, Bool.and_true])
          have HZ := Lib.hid hz
          clear hz e1 e2 e3 e4
          rcases e67 with rfl | rfl
          all_goals
            go_wp2_with fail
            go_ret
            exact ⟨by rw [HI.out, HH.out, ← HZ.out]; rfl, K1.out⟩
        | false =>
          have HH := Lib.hid (show head kd tt xl = false by unfold head; rw [if_neg (by omega), if_neg (by omega), if_neg (by omega), if_neg (by omega), if_pos e67, hte, Bool.and_false])
          clear e1 e2 e3 e4
          rcases e67 with rfl | rfl
          all_goals
            go_wp2_with fail
            go_ret
            exact ⟨by rw [HI.out, HH.out]; rfl, K1.out⟩
      by_cases e5 : kd = 5
      · subst e5
        clear e1 e2 e3 e4 e67
        by_cases ht : tt = [94]
        · subst ht
          by_cases hz : xl.len = 2
          · have hz2 : xl.items.length = 2 := hz
            obtain ⟨a, c, ev, _, hc⟩ := KB.out.open_
            obtain ⟨b, off, v1, v2, v3, ea, _, hN⟩ := hc 1 (by omega)
            cases ev
            subst ea
            have d0 := hN.d0
            obtain ⟨k2, hk2⟩ : ∃ k2, k2 = (xl.items[1]).kind := ⟨_, rfl⟩
            rw [← hk2, Nat.one_mul] at d0
            have HH := Lib.hid (show head 5 [94] xl = (k2 == 1) by unfold head; rw [if_neg (by decide), if_neg (by decide), if_neg (by decide), if_neg (by decide), if_neg (by decide), if_pos rfl, if_pos rfl, raised_two xl hz2, hk2])
            have hzi : (xl.len : Int) = 2 := by omega
            have k2n : (0 : Int) ≤ (k2 : Int) := by omega
            have he : ((k2 : Int) == 1) = (k2 == 1) := by rw [Bool.eq_iff_iff]; simp; omega
            clear hz hz2 hc hN hk2
            go_wp2_with fail
            go_ret
            exact ⟨by rw [HI.out, HH.out]; simp, K1.out⟩
          · have HH := Lib.hid (show head 5 [94] xl = false by unfold head; rw [if_neg (by decide), if_neg (by decide), if_neg (by decide), if_neg (by decide), if_neg (by decide), if_pos rfl, if_pos rfl, raised_not xl hz])
            have hzi : ((xl.len : Int) == 2) = false := by simp; omega
            clear hz
            go_wp2_with fail
            go_ret
            exact ⟨by rw [HI.out, HH.out]; rfl, K1.out⟩
        · have hz : ((xl.len : Int) == 2) = (xl.len == 2) := by rw [Bool.eq_iff_iff]; simp; omega
          have HZ := Lib.hid hz
          have HH := Lib.hid (show head 5 tt xl = ((xl.len == 2) && Nd.signs.contains tt) by unfold head; rw [if_neg (by decide), if_neg (by decide), if_neg (by decide), if_neg (by decide), if_neg (by decide), if_pos rfl, if_neg ht])
          clear hz
          by_cases hm : tt ∈ Nd.signs
          · have HM := Lib.hid (show Nd.signs.contains tt = true by simpa using hm)
            simp only [Nd.signs, List.mem_cons, List.not_mem_nil, or_false] at hm
            clear ht
            rcases hm with rfl | rfl | rfl | rfl | rfl | rfl | rfl | rfl
            all_goals
              go_wp2_with fail
              go_ret
              exact ⟨by rw [HI.out, HH.out, HM.out, ← HZ.out, Bool.and_true]; rfl, K1.out⟩
          · have HM := Lib.hid (show Nd.signs.contains tt = false by simpa using hm)
            simp only [Nd.signs, List.mem_cons, List.not_mem_nil, or_false, not_or] at hm
            obtain ⟨m1, m2, m3, m4, m5, m6, m7, m8⟩ := hm
            have f0 : (tt == [94]) = false := by simpa using ht
            have f1 : (tt == [43]) = false := by simpa using m1
            have f2 : (tt == [45]) = false := by simpa using m2
            have f3 : (tt == [42]) = false := by simpa using m3
            have f4 : (tt == [47]) = false := by simpa using m4
            have f5 : (tt == [61, 61]) = false := by simpa using m5
            have f6 : (tt == [33, 61]) = false := by simpa using m6
            have f7 : (tt == [60]) = false := by simpa using m7
            have f8 : (tt == [60, 61]) = false := by simpa using m8
            clear m1 m2 m3 m4 m5 m6 m7 m8 ht
            go_wp2_with fail
            go_ret
            exact ⟨by rw [HI.out, HH.out, HM.out, Bool.and_false]; rfl, K1.out⟩
      · have HH := Lib.hid (head_other kd tt xl e1 e2 e3 e4 e5 (fun h => e67 (.inl h)) (fun h => e67 (.inr h)))
        have f1 : ((kd : Int) == 1) = false := by simp; omega
        have f2 : ((kd : Int) == 2) = false := by simp; omega
        have f3 : ((kd : Int) == 3) = false := by simp; omega
        have f4 : ((kd : Int) == 4) = false := by simp; omega
        have f5 : ((kd : Int) == 5) = false := by simp; omega
        have f6 : ((kd : Int) == 6) = false := by simp; omega
        have f7 : ((kd : Int) == 7) = false := by simp; omega
        clear e1 e2 e3 e4 e5 e67
        go_wp2_with fail
        go_ret
        exact ⟨by rw [HI.out, HH.out]; rfl, K1.out⟩

theorem rexpr_said (tw : Bool) (B : Nat) : ∀ xs : Ns, ∀ x ∈ xs.items, Asked tw B 58 exprOne x :=
  Ns.each fun _ ih x hx => rexpr_one (ih x hx).1
end Go.Proofs.YtobpnjnfpgcpaaaDoor

/- Trees: may nodes be statements. -/
namespace Go.My
open Go.Nd
def stmtOne (inner : Bool) (x : Nd) : Bool := x.l.len == 1 && exprs x.l && stmts inner x.body && stmts inner x.els && form inner x.kind x.text x.body x.els
theorem stmts_items (inner : Bool) (xs : Ns) : stmts inner xs = xs.items.all (stmtOne inner) := by
  induction xs with
  | nil => rfl
  | cons k t l b e r _ _ _ ihr => rw [Ns.items_cons, List.all_cons, ← ihr]; rfl
theorem exprs_single (xl : Ns) (h : xl.items.length = 1) : exprs xl = exprOne (xl.items[0]) := by
  rw [exprs_items]
  have key : ∀ (L : List Nd) (h : L.length = 1), L.all exprOne = exprOne (L[0]) := by
    intro L h
    match L, h with
    | [a], _ => simp
  exact key xl.items h
end Go.My
namespace Go.Proofs.YtobpnjnfpgcpaaaDoor
open Go.RowKit Go.My Go.Nd

def StmtSaid (fn : FuncId) (tw inner : Bool) (x : Ns) : Prop := ∀ (w : World) (B : Nat) (v : Value), B ≤ w.heap.size → Nodes w (· < B) tw v x → Calls Tryd.prog fn #[v, .bool inner] w fun e w' => e = .returned (.bool (stmts inner x)) ∧ Below w.heap.size w w'

def StmtAt (w : World) (inner : Bool) (xs : Ns) (gk : Nat) (v : Value) (wr : World) : Prop :=
  ∃ i : Nat, i ≤ xs.items.length ∧ gk = xs.items.length - i ∧ v = .int .i64 (i : Int) ∧ (xs.items.drop i).all (stmtOne inner) = stmts inner xs ∧ Below w.heap.size w wr

theorem stmt_no {inner : Bool} {kd : Nat} {tt : List UInt8} {xl xb xe : Ns} {r : List Nd} {p : Bool} (h : (⟨kd, tt, xl, xb, xe⟩ :: r : List Nd).all (stmtOne inner) = p) (hn : (xl.len == 1 && exprs xl && stmts inner xb && stmts inner xe && form inner kd tt xb xe) = false) : p = false := by
  rw [← h, List.all_cons]; unfold stmtOne; simp only; rw [hn]; rfl

/-- The form, once it is known whether there is a body. -/
theorem form_bare {inner : Bool} {kd : Nat} {tt : List UInt8} {xb xe : Ns} {p bare : Bool} (hp : p = form inner kd tt xb xe) (hb : bare = (xb.len == 0 && xe.len == 0)) :
    (kd = 9 → p = tt.isEmpty) ∧ (kd = 10 → p = (tt.isEmpty && xe.len == 0)) ∧ (kd = 8 → p = (bare && To.name tt)) ∧ (kd = 11 → p = (tt.isEmpty && bare && inner)) ∧ (kd = 12 ∨ kd = 13 → p = (tt.isEmpty && bare)) ∧ (kd ≠ 9 ∧ kd ≠ 10 ∧ kd ≠ 8 ∧ kd ≠ 11 ∧ kd ≠ 12 ∧ kd ≠ 13 → p = false) := by
  subst hp hb
  unfold form
  refine ⟨fun h => ?_, fun h => ?_, fun h => ?_, fun h => ?_, fun h => ?_, fun h => ?_⟩
  · rw [if_pos h]
  · rw [if_neg (by omega), if_pos h]
  · rw [if_neg (by omega), if_neg (by omega), if_pos h]
  · rw [if_neg (by omega), if_neg (by omega), if_neg (by omega), if_pos h]; simp only [Bool.and_assoc]
  · rw [if_neg (by omega), if_neg (by omega), if_neg (by omega), if_neg (by omega), if_pos h]; simp only [Bool.and_assoc]
  · rw [if_neg h.1, if_neg h.2.1, if_neg h.2.2.1, if_neg h.2.2.2.1, if_neg (by omega)]



set_option maxRecDepth 100000 in
set_option maxHeartbeats 16000000 in
theorem stmt_said (tw inner : Bool) : ∀ xs, StmtSaid 26 tw inner xs := by
  refine Ns.each fun xs ih w B v hB hv => ?_
  obtain ⟨a, c, rfl, hr, hc⟩ := hv.open_
  have HI := Lib.hid ih
  have HC := Lib.hid hc
  have HBB := Lib.hid hB
  have l0 : (0 : Int) ≤ (xs.items.length : Int) := by omega
  have l1 : (xs.items.length : Int) ≤ 140737488351232 := by have := hr.2.2.1; omega
  clear ih hv hc hr hB
  go_enter Tryd.func26, Tryd.ntmps26
  go_wp2_with fail
  go_loopg [11] xs.items.length (fun gk v11 wr => StmtAt w inner xs gk v11 wr)
  case atStart => exact ⟨0, Nat.zero_le _, rfl, rfl, by rw [List.drop_zero, My.stmts_items], Below.refl _ _⟩
  case round =>
    obtain ⟨i, hi, rfl, rfl, hd, hb⟩ := hrel
    have i0 : (0 : Int) ≤ (i : Int) := by omega
    by_cases hlt : i < xs.items.length
    · have i1 : (i : Int) < (xs.items.length : Int) := by omega
      obtain ⟨b, off, v1, v2, v3, rfl, hS, hN⟩ := HC.out i hlt
      have hN' := hN.frame hS fun k hk _ => hb.block k (Nat.lt_of_lt_of_le hk HBB.out)
      obtain ⟨x, hx⟩ : ∃ x, x = xs.items[i] := ⟨_, rfl⟩
      rw [← hx] at hN'
      have hI := HI.out _ (List.getElem_mem hlt)
      rw [← hx] at hI
      have hdr := items_cons_drop xs i hlt
      rw [← hx] at hdr
      obtain ⟨kd, tt, xl, xb, xe⟩ := x
      have d0 := hN'.d0
      have d1 := hN'.d1
      have d2 := hN'.d2
      have d3 := hN'.d3
      have d4 := hN'.d4
      have ht := hN'.text
      have hk8 := hN'.kind
      obtain ⟨a1, c1, rfl, s1, m1⟩ := hN'.l
      obtain ⟨a2, c2, rfl, s2, m2⟩ := hN'.body
      obtain ⟨a3, c3, rfl, s3, m3⟩ := hN'.els
      simp only at d0 d1 d2 d3 d4 ht hk8
      have etx : tx tt = bs tt := rfl
      rw [etx] at d1
      have hs := bs_tl tt
      have hBr : B ≤ wr.heap.size := Nat.le_trans HBB.out hb.size
      have n1 : Nodes wr (· < B) tw (.slice a1 xl.len c1) xl := ⟨a1, c1, rfl, s1, m1⟩
      have n2 : Nodes wr (· < B) tw (.slice a2 xb.len c2) xb := ⟨a2, c2, rfl, s2, m2⟩
      have n3 : Nodes wr (· < B) tw (.slice a3 xe.len c3) xe := ⟨a3, c3, rfl, s3, m3⟩
      have hA := Below.alloc (Below.refl wr.heap.size wr) (Nat.le_refl _) (.cells #[.int .u8 (kd : Int), .string (bs tt), .slice a1 xl.len c1, .slice a2 xb.len c2, .slice a3 xe.len c3] 25)
      obtain ⟨bx, hbx⟩ : ∃ bx, bx = wr.heap.size := ⟨_, rfl⟩
      obtain ⟨w4, hw4⟩ : ∃ w4, w4 = wr.alloc (.cells #[.int .u8 (kd : Int), .string (bs tt), .slice a1 xl.len c1, .slice a2 xb.len c2, .slice a3 xe.len c3] 25) := ⟨_, rfl⟩
      have hbox : ∀ w1, Below w4.heap.size w4 w1 → w1.cell? ⟨bx, 0, none⟩ = some (.int .u8 (kd : Int)) ∧ w1.cell? ⟨bx, 1, none⟩ = some (.string (bs tt)) ∧ w1.cell? ⟨bx, 2, none⟩ = some (.slice a1 xl.len c1) ∧ w1.cell? ⟨bx, 3, none⟩ = some (.slice a2 xb.len c2) ∧ w1.cell? ⟨bx, 4, none⟩ = some (.slice a3 xe.len c3) := by
        intro w1 hb1
        rw [hw4] at hb1
        rw [hbx]
        have q0 := box_later hb1 0
        have q1 := box_later hb1 1
        have q2 := box_later hb1 2
        have q3 := box_later hb1 3
        have q4 := box_later hb1 4
        simp at q0 q1 q2 q3 q4
        exact ⟨q0, q1, q2, q3, q4⟩
      have hAB := hA.mono hBr
      rw [← hw4] at hA hAB
      have HX := Lib.hid hbox
      have K4 := Lib.hid (hb.trans (hA.mono hb.size))
      have N1 := Lib.hid (n1.below hAB)
      have N2 := Lib.hid (n2.below hAB)
      have N3 := Lib.hid (n3.below hAB)
      have HI2 := Lib.hid hI
      have HD := Lib.hid (hdr ▸ hd)
      have HBr := Lib.hid (Nat.le_trans hBr hA.size)
      have HT := Lib.hid (show tt.length ≤ 9223372036854775807 by omega)
      have k0 : (0 : Int) ≤ (kd : Int) := by omega
      have k1 : (kd : Int) < 256 := by omega
      have l0 : (0 : Int) ≤ (xl.len : Int) := by omega
      have b0 : (0 : Int) ≤ (xb.len : Int) := by omega
      have e0 : (0 : Int) ≤ (xe.len : Int) := by omega
      clear hN hN' s1 s2 s3 m1 m2 m3 n1 n2 n3 hA hAB hbox hb hd hx hdr hI hS ht hk8 etx hBr
      go_upto_region 4 with fail
      rw [← hbx, ← hw4]
      clear hbx hw4 d0 d1 d2 d3 d4
      obtain ⟨q0, q1, q2, q3, q4⟩ := HX.out w4 (Below.refl _ _)
      by_cases hl1 : xl.len = 1
      · have hl1i : (xl.len : Int) = 1 := by omega
        have hl2 : xl.items.length = 1 := hl1
        obtain ⟨a, c, ev, _, hc⟩ := N1.out.open_
        cases ev
        obtain ⟨b2, off2, v1, v2, v3, rfl, hS, hN⟩ := hc 0 (by omega)
        obtain ⟨y, hy⟩ : ∃ y, y = xl.items[0] := ⟨_, rfl⟩
        have hE1 := exprs_single xl hl2
        rw [← hy] at hN hE1
        have hA := expr_said tw B xl _ (List.getElem_mem (show 0 < xl.items.length by omega))
        rw [← hy] at hA
        obtain ⟨kd2, tt2, yl, yb, ye⟩ := y
        have d0 := hN.d0
        have d1 := hN.d1
        have d2 := hN.d2
        have d3 := hN.d3
        have d4 := hN.d4
        obtain ⟨b1, g1, rfl, s1, m1⟩ := hN.l
        obtain ⟨b3, g2, rfl, s2, m2⟩ := hN.body
        obtain ⟨b4, g3, rfl, s3, m3⟩ := hN.els
        simp only [Nat.zero_mul, Nat.add_zero] at d0 d1 d2 d3 d4
        have HA := Lib.hid (hA w4 b1 b3 b4 g1 g2 g3 HBr.out ⟨b1, g1, rfl, s1, m1⟩ ⟨b3, g2, rfl, s2, m2⟩ ⟨b4, g3, rfl, s3, m3⟩ hN.kind hN.text)
        have HE1 := Lib.hid hE1
        have HL1 := Lib.hid (show (xl.len == 1) = true by rw [hl1]; rfl)
        clear hN s1 s2 s3 m1 m2 m3 hy hA hE1 hc hS hl1 hl2
        go_wp2_with fail
        refine HA.out.mono ?_
        rintro e w5 ⟨rfl, hb5⟩
        rw [← HE1.out]
        obtain ⟨q0, q1, q2, q3, q4⟩ := HX.out w5 hb5
        have K5 := Lib.hid hb5
        clear hb5 d0 d1 d2 d3 d4
        cases he : exprs xl with
        | false =>
          have HN := Lib.hid (stmt_no HD.out (by rw [he, Bool.and_false]; rfl))
          clear he
          go_wp2_with fail
          go_ret
          exact ⟨by rw [HN.out]; rfl, K4.out.trans (K5.out.mono K4.out.size)⟩
        | true =>
          have HE := Lib.hid he
          clear he
          go_wp2_with fail
          refine (HI2.out.2.1 w5 B _ (Nat.le_trans HBr.out K5.out.size) (N2.out.below (K5.out.mono HBr.out))).mono ?_
          rintro e w6 ⟨rfl, hb6⟩
          have K6 := Lib.hid (K5.out.trans (hb6.mono K5.out.size))
          obtain ⟨q0, q1, q2, q3, q4⟩ := HX.out w6 K6.out
          clear hb6
          cases hsb : stmts inner xb with
          | false =>
            have HN := Lib.hid (stmt_no HD.out (by rw [hsb, Bool.and_false]; rfl))
            clear hsb
            go_wp2_with fail
            go_ret
            exact ⟨by rw [HN.out]; rfl, K4.out.trans (K6.out.mono K4.out.size)⟩
          | true =>
            have HSB := Lib.hid hsb
            clear hsb
            go_wp2_with fail
            refine (HI2.out.2.2 w6 B _ (Nat.le_trans HBr.out K6.out.size) (N3.out.below (K6.out.mono HBr.out))).mono ?_
            rintro e w7 ⟨rfl, hb7⟩
            have K7 := Lib.hid (K6.out.trans (hb7.mono K6.out.size))
            obtain ⟨q0, q1, q2, q3, q4⟩ := HX.out w7 K7.out
            clear hb7
            cases hse : stmts inner xe with
            | false =>
              have HN := Lib.hid (stmt_no HD.out (by rw [hse, Bool.and_false]; rfl))
              clear hse
              go_wp2_with fail
              go_ret
              exact ⟨by rw [HN.out]; rfl, K4.out.trans (K7.out.mono K4.out.size)⟩
            | true =>
              have HSE := Lib.hid hse
              clear hse
              obtain ⟨bare, hbare⟩ : ∃ bare, bare = (xb.len == 0 && xe.len == 0) := ⟨_, rfl⟩
              have HBARE := Lib.hid hbare
              obtain ⟨p, hp⟩ : ∃ p, p = form inner kd tt xb xe := ⟨_, rfl⟩
              have HP := Lib.hid (form_bare hp hbare)
              have HALL := Lib.hid (show (xl.len == 1 && exprs xl && stmts inner xb && stmts inner xe && form inner kd tt xb xe) = p by rw [HL1.out, HE.out, HSB.out, HSE.out, hp]; rfl)
              clear hbare hp
              go_upto_region 6 with fail
              go_cut [7, 11] from 11 to 93 (fun v7 v11 wx => v7 = .bool bare ∧ v11 = .int .i64 (i : Int) ∧ wx = w7)
              case first =>
                by_cases zb : xb.len = 0
                · have zbi : (xb.len : Int) = 0 := by omega
                  by_cases ze : xe.len = 0
                  · have zei : (xe.len : Int) = 0 := by omega
                    have HB := Lib.hid (show bare = true by rw [HBARE.out, zb, ze]; rfl)
                    clear zb ze
                    go_wp2_with fail
                    go_meet
                    case rel => exact ⟨by rw [HB.out], rfl, rfl⟩
                  · have zei : ((xe.len : Int) == 0) = false := by simp; omega
                    have HB := Lib.hid (show bare = false by rw [HBARE.out]; simp [ze])
                    clear zb ze
                    go_wp2_with fail
                    go_meet
                    case rel => exact ⟨by rw [HB.out], rfl, rfl⟩
                · have zbi : ((xb.len : Int) == 0) = false := by simp; omega
                  have HB := Lib.hid (show bare = false by rw [HBARE.out]; simp [zb])
                  clear zb
                  go_wp2_with fail
                  go_meet
                  case rel => exact ⟨by rw [HB.out], rfl, rfl⟩
              case rest =>
                obtain ⟨rfl, rfl, rfl⟩ := hcut
                go_upto_block 2 with fail
                go_cut [8, 11] from 11 to 93 (fun v8 v11 wx => v8 = .bool p ∧ v11 = .int .i64 (i : Int) ∧ Below w4.heap.size w4 wx)
                case first =>
                  by_cases e9 : kd = 9
                  · subst e9
                    go_wp2_with fail
                    go_meet
                    case rel => exact ⟨by rw [HP.out.1 (by first | trivial | simp)], rfl, K7.out⟩
                  by_cases e10 : kd = 10
                  · subst e10
                    clear e9
                    cases hte : tt.isEmpty with
                    | false =>
                      have HTE := Lib.hid hte
                      go_wp2_with fail
                      go_meet
                      case rel => exact ⟨by rw [HP.out.2.1 (by first | trivial | simp), HTE.out]; rfl, rfl, K7.out⟩
                    | true =>
                      have HTE := Lib.hid hte
                      by_cases ze : xe.len = 0
                      · have zei : (xe.len : Int) = 0 := by omega
                        have HZ := Lib.hid ze
                        clear ze
                        go_wp2_with fail
                        go_meet
                        case rel => exact ⟨by rw [HP.out.2.1 (by first | trivial | simp), HTE.out, HZ.out]; rfl, rfl, K7.out⟩
                      · have zei : ((xe.len : Int) == 0) = false := by simp; omega
                        have HZ := Lib.hid (show (xe.len == 0) = false by simpa using ze)
                        clear ze
                        go_wp2_with fail
                        go_meet
                        case rel => exact ⟨by rw [HP.out.2.1 (by first | trivial | simp), HTE.out, HZ.out]; rfl, rfl, K7.out⟩
                  by_cases e8 : kd = 8
                  · subst e8
                    clear e9 e10
                    cases bare with
                    | true =>
                      go_wp2_with fail
                      refine name_t tt HT.out fun w8 hb8 => ?_
                      have K8 := Lib.hid (K7.out.trans (hb8.mono K7.out.size))
                      clear hb8
                      go_wp2_with fail
                      go_meet
                      case rel => exact ⟨by rw [HP.out.2.2.1 (by first | trivial | simp)]; rfl, rfl, K8.out⟩
                    | false =>
                      go_wp2_with fail
                      go_meet
                      case rel => exact ⟨by rw [HP.out.2.2.1 (by first | trivial | simp)]; rfl, rfl, K7.out⟩
                  by_cases e11 : kd = 11
                  · subst e11
                    clear e9 e10 e8
                    cases hte : tt.isEmpty with
                    | false =>
                      have HTE := Lib.hid hte
                      go_wp2_with fail
                      go_meet
                      case rel => exact ⟨by rw [HP.out.2.2.2.1 (by first | trivial | simp), HTE.out]; rfl, rfl, K7.out⟩
                    | true =>
                      have HTE := Lib.hid hte
                      cases bare with
                      | true =>
                        go_wp2_with fail
                        go_meet
                        case rel => exact ⟨by rw [HP.out.2.2.2.1 (by first | trivial | simp), HTE.out]; rfl, rfl, K7.out⟩
                      | false =>
                        go_wp2_with fail
                        go_meet
                        case rel => exact ⟨by rw [HP.out.2.2.2.1 (by first | trivial | simp), HTE.out]; rfl, rfl, K7.out⟩
                  by_cases e12 : kd = 12 ∨ kd = 13
                  · clear e9 e10 e8 e11
                    have HK := Lib.hid e12
                    cases hte : tt.isEmpty with
                    | false =>
                      have HTE := Lib.hid hte
                      rcases e12 with rfl | rfl
                      all_goals
                        go_wp2_with fail
                        go_meet
                        case rel => exact ⟨by rw [HP.out.2.2.2.2.1 (by first | trivial | simp | exact HK.out), HTE.out]; rfl, rfl, K7.out⟩
                    | true =>
                      have HTE := Lib.hid hte
                      cases bare with
                      | true =>
                        rcases e12 with rfl | rfl
                        all_goals
                          go_wp2_with fail
                          go_meet
                          case rel => exact ⟨by rw [HP.out.2.2.2.2.1 (by first | trivial | simp | exact HK.out), HTE.out]; rfl, rfl, K7.out⟩
                      | false =>
                        rcases e12 with rfl | rfl
                        all_goals
                          go_wp2_with fail
                          go_meet
                          case rel => exact ⟨by rw [HP.out.2.2.2.2.1 (by first | trivial | simp | exact HK.out), HTE.out]; rfl, rfl, K7.out⟩
                  · have HO := Lib.hid (HP.out.2.2.2.2.2 ⟨e9, e10, e8, e11, fun h => e12 (.inl h), fun h => e12 (.inr h)⟩)
                    have f9 : ((kd : Int) == 9) = false := by simp; omega
                    have f10 : ((kd : Int) == 10) = false := by simp; omega
                    have f8 : ((kd : Int) == 8) = false := by simp; omega
                    have f11 : ((kd : Int) == 11) = false := by simp; omega
                    have f12 : ((kd : Int) == 12) = false := by simp; omega
                    have f13 : ((kd : Int) == 13) = false := by simp; omega
                    clear e9 e10 e8 e11 e12
                    go_wp2_with fail
                    go_meet
                    case rel => exact ⟨by rw [HO.out], rfl, K7.out⟩
                case rest =>
                  obtain ⟨rfl, rfl, hbc⟩ := hcut
                  have K9 := Lib.hid (K4.out.trans (hbc.mono K4.out.size))
                  clear hbc q0 q1 q2 q3 q4 HP
                  cases p with
                  | false =>
                    have HN := Lib.hid (stmt_no HD.out HALL.out)
                    go_wp2_with fail
                    go_ret
                    exact ⟨by rw [HN.out]; rfl, K9.out⟩
                  | true =>
                    go_wp2_with fail
                    go_roundg (xs.items.length - (i + 1))
                    case measure => omega
                    case rel =>
                      refine ⟨i + 1, hlt, rfl, by go_num, ?_, K9.out⟩
                      have hd := HD.out
                      rw [List.all_cons, show stmtOne inner ⟨kd, tt, xl, xb, xe⟩ = true from HALL.out, Bool.true_and] at hd
                      exact hd
      · have hl1i : ((xl.len : Int) == 1) = false := by simp; omega
        have hl1j : ((xl.len : Int) != 1) = true := by simp; omega
        have HN := Lib.hid (stmt_no HD.out (by rw [show (xl.len == 1) = false by simpa using hl1]; rfl))
        clear hl1
        go_wp2_with fail
        go_ret
        exact ⟨by rw [HN.out]; rfl, K4.out⟩
    · have hie : i = xs.items.length := by omega
      have i1 : (xs.items.length : Int) ≤ (i : Int) := by omega
      have HD := Lib.hid (show stmts inner xs = true by rw [← hd, hie, List.drop_length]; rfl)
      have HB := Lib.hid hb
      clear hlt hie hd hb hi
      go_wp2_with fail
      go_ret
      exact ⟨by rw [HD.out]; rfl, HB.out⟩
end Go.Proofs.YtobpnjnfpgcpaaaDoor

/- Trees: may nodes be statements, as the document has it. -/
namespace Go.Proofs.YtobpnjnfpgcpaaaDoor
open Go.RowKit Go.My Go.Nd

set_option maxRecDepth 100000 in
set_option maxHeartbeats 16000000 in
theorem rstmt_said (tw inner : Bool) : ∀ xs, StmtSaid 30 tw inner xs := by
  refine Ns.each fun xs ih w B v hB hv => ?_
  obtain ⟨a, c, rfl, hr, hc⟩ := hv.open_
  have HI := Lib.hid ih
  have HC := Lib.hid hc
  have HBB := Lib.hid hB
  have l0 : (0 : Int) ≤ (xs.items.length : Int) := by omega
  have l1 : (xs.items.length : Int) ≤ 140737488351232 := by have := hr.2.2.1; omega
  clear ih hv hc hr hB
  go_enter Tryd.func30, Tryd.ntmps30
  go_wp2_with fail
  go_loopg [5] xs.items.length (fun gk v5 wr => StmtAt w inner xs gk v5 wr)
  case atStart => exact ⟨0, Nat.zero_le _, rfl, rfl, by rw [List.drop_zero, My.stmts_items], Below.refl _ _⟩
  case round =>
    obtain ⟨i, hi, rfl, rfl, hd, hb⟩ := hrel
    have i0 : (0 : Int) ≤ (i : Int) := by omega
    by_cases hlt : i < xs.items.length
    · have i1 : (i : Int) < (xs.items.length : Int) := by omega
      obtain ⟨b, off, v1, v2, v3, rfl, hS, hN⟩ := HC.out i hlt
      have hN' := hN.frame hS fun k hk _ => hb.block k (Nat.lt_of_lt_of_le hk HBB.out)
      obtain ⟨x, hx⟩ : ∃ x, x = xs.items[i] := ⟨_, rfl⟩
      rw [← hx] at hN'
      have hI := HI.out _ (List.getElem_mem hlt)
      rw [← hx] at hI
      have hdr := items_cons_drop xs i hlt
      rw [← hx] at hdr
      obtain ⟨kd, tt, xl, xb, xe⟩ := x
      have d0 := hN'.d0
      have d1 := hN'.d1
      have d2 := hN'.d2
      have d3 := hN'.d3
      have d4 := hN'.d4
      have ht := hN'.text
      have hk8 := hN'.kind
      obtain ⟨a1, c1, rfl, s1, m1⟩ := hN'.l
      obtain ⟨a2, c2, rfl, s2, m2⟩ := hN'.body
      obtain ⟨a3, c3, rfl, s3, m3⟩ := hN'.els
      simp only at d0 d1 d2 d3 d4 ht hk8
      have etx : tx tt = bs tt := rfl
      rw [etx] at d1
      have hs := bs_tl tt
      have hBr : B ≤ wr.heap.size := Nat.le_trans HBB.out hb.size
      have n1 : Nodes wr (· < B) tw (.slice a1 xl.len c1) xl := ⟨a1, c1, rfl, s1, m1⟩
      have n2 : Nodes wr (· < B) tw (.slice a2 xb.len c2) xb := ⟨a2, c2, rfl, s2, m2⟩
      have n3 : Nodes wr (· < B) tw (.slice a3 xe.len c3) xe := ⟨a3, c3, rfl, s3, m3⟩
      have hA := Below.alloc (Below.refl wr.heap.size wr) (Nat.le_refl _) (.cells #[.int .u8 (kd : Int), .string (bs tt), .slice a1 xl.len c1, .slice a2 xb.len c2, .slice a3 xe.len c3] 25)
      obtain ⟨bx, hbx⟩ : ∃ bx, bx = wr.heap.size := ⟨_, rfl⟩
      obtain ⟨w4, hw4⟩ : ∃ w4, w4 = wr.alloc (.cells #[.int .u8 (kd : Int), .string (bs tt), .slice a1 xl.len c1, .slice a2 xb.len c2, .slice a3 xe.len c3] 25) := ⟨_, rfl⟩
      have hbox : ∀ w1, Below w4.heap.size w4 w1 → w1.cell? ⟨bx, 0, none⟩ = some (.int .u8 (kd : Int)) ∧ w1.cell? ⟨bx, 1, none⟩ = some (.string (bs tt)) ∧ w1.cell? ⟨bx, 2, none⟩ = some (.slice a1 xl.len c1) ∧ w1.cell? ⟨bx, 3, none⟩ = some (.slice a2 xb.len c2) ∧ w1.cell? ⟨bx, 4, none⟩ = some (.slice a3 xe.len c3) := by
        intro w1 hb1
        rw [hw4] at hb1
        rw [hbx]
        have q0 := box_later hb1 0
        have q1 := box_later hb1 1
        have q2 := box_later hb1 2
        have q3 := box_later hb1 3
        have q4 := box_later hb1 4
        simp at q0 q1 q2 q3 q4
        exact ⟨q0, q1, q2, q3, q4⟩
      have hAB := hA.mono hBr
      rw [← hw4] at hA hAB
      have HX := Lib.hid hbox
      have K4 := Lib.hid (hb.trans (hA.mono hb.size))
      have N1 := Lib.hid (n1.below hAB)
      have N2 := Lib.hid (n2.below hAB)
      have N3 := Lib.hid (n3.below hAB)
      have HI2 := Lib.hid hI
      have HD := Lib.hid (hdr ▸ hd)
      have HBr := Lib.hid (Nat.le_trans hBr hA.size)
      have HT := Lib.hid (show tt.length ≤ 9223372036854775807 by omega)
      have k0 : (0 : Int) ≤ (kd : Int) := by omega
      have k1 : (kd : Int) < 256 := by omega
      have l0 : (0 : Int) ≤ (xl.len : Int) := by omega
      have b0 : (0 : Int) ≤ (xb.len : Int) := by omega
      have e0 : (0 : Int) ≤ (xe.len : Int) := by omega
      clear hN hN' s1 s2 s3 m1 m2 m3 n1 n2 n3 hA hAB hbox hb hd hx hdr hI hS ht hk8 etx hBr
      go_upto_region 5 with fail
      rw [← hbx, ← hw4]
      clear hbx hw4 d0 d1 d2 d3 d4
      obtain ⟨q0, q1, q2, q3, q4⟩ := HX.out w4 (Below.refl _ _)
      by_cases hl1 : xl.len = 1
      · have hl1i : (xl.len : Int) = 1 := by omega
        have hl2 : xl.items.length = 1 := hl1
        obtain ⟨a, c, ev, _, hc⟩ := N1.out.open_
        cases ev
        obtain ⟨b2, off2, v1, v2, v3, rfl, hS, hN⟩ := hc 0 (by omega)
        obtain ⟨y, hy⟩ : ∃ y, y = xl.items[0] := ⟨_, rfl⟩
        have hE1 := exprs_single xl hl2
        rw [← hy] at hN hE1
        have hA := rexpr_said tw B xl _ (List.getElem_mem (show 0 < xl.items.length by omega))
        rw [← hy] at hA
        obtain ⟨kd2, tt2, yl, yb, ye⟩ := y
        have d0 := hN.d0
        have d1 := hN.d1
        have d2 := hN.d2
        have d3 := hN.d3
        have d4 := hN.d4
        obtain ⟨b1, g1, rfl, s1, m1⟩ := hN.l
        obtain ⟨b3, g2, rfl, s2, m2⟩ := hN.body
        obtain ⟨b4, g3, rfl, s3, m3⟩ := hN.els
        simp only [Nat.zero_mul, Nat.add_zero] at d0 d1 d2 d3 d4
        have HA := Lib.hid (hA w4 b1 b3 b4 g1 g2 g3 HBr.out ⟨b1, g1, rfl, s1, m1⟩ ⟨b3, g2, rfl, s2, m2⟩ ⟨b4, g3, rfl, s3, m3⟩ hN.kind hN.text)
        have HE1 := Lib.hid hE1
        have HL1 := Lib.hid (show (xl.len == 1) = true by rw [hl1]; rfl)
        clear hN s1 s2 s3 m1 m2 m3 hy hA hE1 hc hS hl1 hl2
        go_wp2_with fail
        refine HA.out.mono ?_
        rintro e w5 ⟨rfl, hb5⟩
        rw [← HE1.out]
        obtain ⟨q0, q1, q2, q3, q4⟩ := HX.out w5 hb5
        have K5 := Lib.hid hb5
        clear hb5 d0 d1 d2 d3 d4
        cases he : exprs xl with
        | false =>
          have HN := Lib.hid (stmt_no HD.out (by rw [he, Bool.and_false]; rfl))
          clear he
          go_wp2_with fail
          go_ret
          exact ⟨by rw [HN.out]; rfl, K4.out.trans (K5.out.mono K4.out.size)⟩
        | true =>
          have HE := Lib.hid he
          clear he
          go_wp2_with fail
          refine (HI2.out.2.1 w5 B _ (Nat.le_trans HBr.out K5.out.size) (N2.out.below (K5.out.mono HBr.out))).mono ?_
          rintro e w6 ⟨rfl, hb6⟩
          have K6 := Lib.hid (K5.out.trans (hb6.mono K5.out.size))
          obtain ⟨q0, q1, q2, q3, q4⟩ := HX.out w6 K6.out
          clear hb6
          cases hsb : stmts inner xb with
          | false =>
            have HN := Lib.hid (stmt_no HD.out (by rw [hsb, Bool.and_false]; rfl))
            clear hsb
            go_wp2_with fail
            go_ret
            exact ⟨by rw [HN.out]; rfl, K4.out.trans (K6.out.mono K4.out.size)⟩
          | true =>
            have HSB := Lib.hid hsb
            clear hsb
            go_wp2_with fail
            refine (HI2.out.2.2 w6 B _ (Nat.le_trans HBr.out K6.out.size) (N3.out.below (K6.out.mono HBr.out))).mono ?_
            rintro e w7 ⟨rfl, hb7⟩
            have K7 := Lib.hid (K6.out.trans (hb7.mono K6.out.size))
            obtain ⟨q0, q1, q2, q3, q4⟩ := HX.out w7 K7.out
            clear hb7
            cases hse : stmts inner xe with
            | false =>
              have HN := Lib.hid (stmt_no HD.out (by rw [hse, Bool.and_false]; rfl))
              clear hse
              go_wp2_with fail
              go_ret
              exact ⟨by rw [HN.out]; rfl, K4.out.trans (K7.out.mono K4.out.size)⟩
            | true =>
              have HSE := Lib.hid hse
              clear hse
              obtain ⟨bare, hbare⟩ : ∃ bare, bare = (xb.len == 0 && xe.len == 0) := ⟨_, rfl⟩
              have HBARE := Lib.hid hbare
              obtain ⟨p, hp⟩ : ∃ p, p = form inner kd tt xb xe := ⟨_, rfl⟩
              have HP := Lib.hid (form_bare hp hbare)
              have HALL := Lib.hid (show (xl.len == 1 && exprs xl && stmts inner xb && stmts inner xe && form inner kd tt xb xe) = p by rw [HL1.out, HE.out, HSB.out, HSE.out, hp]; rfl)
              clear hbare hp
              go_upto_block 2 with fail
              go_cut [7] from 8 to 112 (fun v7 wx => v7 = .bool p ∧ Below w4.heap.size w4 wx)
              case first =>
                by_cases zb : xb.len = 0
                · have zbi : (xb.len : Int) = 0 := by omega
                  by_cases ze : xe.len = 0
                  · have zei : (xe.len : Int) = 0 := by omega
                    have HB := Lib.hid (show bare = true by rw [HBARE.out]; simp [zb, ze])
                    have HE0 := Lib.hid (show (xe.len == 0) = true by simp [ze])
                    clear zb ze
                    by_cases e9 : kd = 9
                    · subst e9
                      go_wp2_with fail
                      go_meet
                      case rel => exact ⟨by rw [HP.out.1 (by first | trivial | simp)], K7.out⟩
                    by_cases e10 : kd = 10
                    · subst e10
                      clear e9
                      cases hte : tt.isEmpty with
                      | false =>
                        have HTE := Lib.hid hte
                        go_wp2_with fail
                        go_meet
                        case rel => exact ⟨by rw [HP.out.2.1 (by first | trivial | simp), HTE.out, HE0.out]; rfl, K7.out⟩
                      | true =>
                        have HTE := Lib.hid hte
                        go_wp2_with fail
                        go_meet
                        case rel => exact ⟨by rw [HP.out.2.1 (by first | trivial | simp), HTE.out, HE0.out]; rfl, K7.out⟩
                    by_cases e8 : kd = 8
                    · subst e8
                      clear e9 e10
                      go_wp2_with fail
                      refine refname_t tt HT.out ?_
                      cases hnm : To.name tt with
                      | false =>
                        have HNM := Lib.hid hnm
                        go_wp2_with fail
                        go_meet
                        case rel => exact ⟨by rw [HP.out.2.2.1 (by first | trivial | simp), HB.out, HNM.out]; rfl, K7.out⟩
                      | true =>
                        have HNM := Lib.hid hnm
                        go_wp2_with fail
                        go_meet
                        case rel => exact ⟨by rw [HP.out.2.2.1 (by first | trivial | simp), HB.out, HNM.out]; rfl, K7.out⟩
                    by_cases e11 : kd = 11
                    · subst e11
                      clear e9 e10 e8
                      cases hte : tt.isEmpty with
                      | false =>
                        have HTE := Lib.hid hte
                        go_wp2_with fail
                        go_meet
                        case rel => exact ⟨by rw [HP.out.2.2.2.1 (by first | trivial | simp), HTE.out]; rfl, K7.out⟩
                      | true =>
                        have HTE := Lib.hid hte
                        cases inner with
                        | false =>
                          go_wp2_with fail
                          go_meet
                          case rel => exact ⟨by rw [HP.out.2.2.2.1 (by first | trivial | simp), HTE.out, HB.out]; rfl, K7.out⟩
                        | true =>
                          go_wp2_with fail
                          go_meet
                          case rel => exact ⟨by rw [HP.out.2.2.2.1 (by first | trivial | simp), HTE.out, HB.out]; rfl, K7.out⟩
                    by_cases e12 : kd = 12 ∨ kd = 13
                    · clear e9 e10 e8 e11
                      have HK := Lib.hid e12
                      cases hte : tt.isEmpty with
                      | false =>
                        have HTE := Lib.hid hte
                        rcases e12 with rfl | rfl
                        all_goals
                          go_wp2_with fail
                          go_meet
                          case rel => exact ⟨by rw [HP.out.2.2.2.2.1 (by first | trivial | simp | exact HK.out), HTE.out, HB.out]; rfl, K7.out⟩
                      | true =>
                        have HTE := Lib.hid hte
                        rcases e12 with rfl | rfl
                        all_goals
                          go_wp2_with fail
                          go_meet
                          case rel => exact ⟨by rw [HP.out.2.2.2.2.1 (by first | trivial | simp | exact HK.out), HTE.out, HB.out]; rfl, K7.out⟩
                    · have HO := Lib.hid (HP.out.2.2.2.2.2 ⟨e9, e10, e8, e11, fun h => e12 (.inl h), fun h => e12 (.inr h)⟩)
                      have f9 : ((kd : Int) == 9) = false := by simp; omega
                      have f10 : ((kd : Int) == 10) = false := by simp; omega
                      have f8 : ((kd : Int) == 8) = false := by simp; omega
                      have f11 : ((kd : Int) == 11) = false := by simp; omega
                      have f12 : ((kd : Int) == 12) = false := by simp; omega
                      have f13 : ((kd : Int) == 13) = false := by simp; omega
                      clear e9 e10 e8 e11 e12
                      go_wp2_with fail
                      go_meet
                      case rel => exact ⟨by rw [HO.out], K7.out⟩
                  · have zei : ((xe.len : Int) == 0) = false := by simp; omega
                    have HB := Lib.hid (show bare = false by rw [HBARE.out]; simp [zb, ze])
                    have HE0 := Lib.hid (show (xe.len == 0) = false by simp [ze])
                    clear zb ze
                    by_cases e9 : kd = 9
                    · subst e9
                      go_wp2_with fail
                      go_meet
                      case rel => exact ⟨by rw [HP.out.1 (by first | trivial | simp)], K7.out⟩
                    by_cases e10 : kd = 10
                    · subst e10
                      clear e9
                      cases hte : tt.isEmpty with
                      | false =>
                        have HTE := Lib.hid hte
                        go_wp2_with fail
                        go_meet
                        case rel => exact ⟨by rw [HP.out.2.1 (by first | trivial | simp), HTE.out, HE0.out]; rfl, K7.out⟩
                      | true =>
                        have HTE := Lib.hid hte
                        go_wp2_with fail
                        go_meet
                        case rel => exact ⟨by rw [HP.out.2.1 (by first | trivial | simp), HTE.out, HE0.out]; rfl, K7.out⟩
                    by_cases e8 : kd = 8
                    · subst e8
                      clear e9 e10
                      go_wp2_with fail
                      refine refname_t tt HT.out ?_
                      cases hnm : To.name tt with
                      | false =>
                        have HNM := Lib.hid hnm
                        go_wp2_with fail
                        go_meet
                        case rel => exact ⟨by rw [HP.out.2.2.1 (by first | trivial | simp), HB.out, HNM.out]; rfl, K7.out⟩
                      | true =>
                        have HNM := Lib.hid hnm
                        go_wp2_with fail
                        go_meet
                        case rel => exact ⟨by rw [HP.out.2.2.1 (by first | trivial | simp), HB.out, HNM.out]; rfl, K7.out⟩
                    by_cases e11 : kd = 11
                    · subst e11
                      clear e9 e10 e8
                      cases hte : tt.isEmpty with
                      | false =>
                        have HTE := Lib.hid hte
                        go_wp2_with fail
                        go_meet
                        case rel => exact ⟨by rw [HP.out.2.2.2.1 (by first | trivial | simp), HTE.out]; rfl, K7.out⟩
                      | true =>
                        have HTE := Lib.hid hte
                        cases inner with
                        | false =>
                          go_wp2_with fail
                          go_meet
                          case rel => exact ⟨by rw [HP.out.2.2.2.1 (by first | trivial | simp), HTE.out, HB.out]; rfl, K7.out⟩
                        | true =>
                          go_wp2_with fail
                          go_meet
                          case rel => exact ⟨by rw [HP.out.2.2.2.1 (by first | trivial | simp), HTE.out, HB.out]; rfl, K7.out⟩
                    by_cases e12 : kd = 12 ∨ kd = 13
                    · clear e9 e10 e8 e11
                      have HK := Lib.hid e12
                      cases hte : tt.isEmpty with
                      | false =>
                        have HTE := Lib.hid hte
                        rcases e12 with rfl | rfl
                        all_goals
                          go_wp2_with fail
                          go_meet
                          case rel => exact ⟨by rw [HP.out.2.2.2.2.1 (by first | trivial | simp | exact HK.out), HTE.out, HB.out]; rfl, K7.out⟩
                      | true =>
                        have HTE := Lib.hid hte
                        rcases e12 with rfl | rfl
                        all_goals
                          go_wp2_with fail
                          go_meet
                          case rel => exact ⟨by rw [HP.out.2.2.2.2.1 (by first | trivial | simp | exact HK.out), HTE.out, HB.out]; rfl, K7.out⟩
                    · have HO := Lib.hid (HP.out.2.2.2.2.2 ⟨e9, e10, e8, e11, fun h => e12 (.inl h), fun h => e12 (.inr h)⟩)
                      have f9 : ((kd : Int) == 9) = false := by simp; omega
                      have f10 : ((kd : Int) == 10) = false := by simp; omega
                      have f8 : ((kd : Int) == 8) = false := by simp; omega
                      have f11 : ((kd : Int) == 11) = false := by simp; omega
                      have f12 : ((kd : Int) == 12) = false := by simp; omega
                      have f13 : ((kd : Int) == 13) = false := by simp; omega
                      clear e9 e10 e8 e11 e12
                      go_wp2_with fail
                      go_meet
                      case rel => exact ⟨by rw [HO.out], K7.out⟩
                · have zbi : ((xb.len : Int) == 0) = false := by simp; omega
                  by_cases ze : xe.len = 0
                  · have zei : (xe.len : Int) = 0 := by omega
                    have HB := Lib.hid (show bare = false by rw [HBARE.out]; simp [zb, ze])
                    have HE0 := Lib.hid (show (xe.len == 0) = true by simp [ze])
                    clear zb ze
                    by_cases e9 : kd = 9
                    · subst e9
                      go_wp2_with fail
                      go_meet
                      case rel => exact ⟨by rw [HP.out.1 (by first | trivial | simp)], K7.out⟩
                    by_cases e10 : kd = 10
                    · subst e10
                      clear e9
                      cases hte : tt.isEmpty with
                      | false =>
                        have HTE := Lib.hid hte
                        go_wp2_with fail
                        go_meet
                        case rel => exact ⟨by rw [HP.out.2.1 (by first | trivial | simp), HTE.out, HE0.out]; rfl, K7.out⟩
                      | true =>
                        have HTE := Lib.hid hte
                        go_wp2_with fail
                        go_meet
                        case rel => exact ⟨by rw [HP.out.2.1 (by first | trivial | simp), HTE.out, HE0.out]; rfl, K7.out⟩
                    by_cases e8 : kd = 8
                    · subst e8
                      clear e9 e10
                      go_wp2_with fail
                      refine refname_t tt HT.out ?_
                      cases hnm : To.name tt with
                      | false =>
                        have HNM := Lib.hid hnm
                        go_wp2_with fail
                        go_meet
                        case rel => exact ⟨by rw [HP.out.2.2.1 (by first | trivial | simp), HB.out, HNM.out]; rfl, K7.out⟩
                      | true =>
                        have HNM := Lib.hid hnm
                        go_wp2_with fail
                        go_meet
                        case rel => exact ⟨by rw [HP.out.2.2.1 (by first | trivial | simp), HB.out, HNM.out]; rfl, K7.out⟩
                    by_cases e11 : kd = 11
                    · subst e11
                      clear e9 e10 e8
                      cases hte : tt.isEmpty with
                      | false =>
                        have HTE := Lib.hid hte
                        go_wp2_with fail
                        go_meet
                        case rel => exact ⟨by rw [HP.out.2.2.2.1 (by first | trivial | simp), HTE.out]; rfl, K7.out⟩
                      | true =>
                        have HTE := Lib.hid hte
                        cases inner with
                        | false =>
                          go_wp2_with fail
                          go_meet
                          case rel => exact ⟨by rw [HP.out.2.2.2.1 (by first | trivial | simp), HTE.out, HB.out]; rfl, K7.out⟩
                        | true =>
                          go_wp2_with fail
                          go_meet
                          case rel => exact ⟨by rw [HP.out.2.2.2.1 (by first | trivial | simp), HTE.out, HB.out]; rfl, K7.out⟩
                    by_cases e12 : kd = 12 ∨ kd = 13
                    · clear e9 e10 e8 e11
                      have HK := Lib.hid e12
                      cases hte : tt.isEmpty with
                      | false =>
                        have HTE := Lib.hid hte
                        rcases e12 with rfl | rfl
                        all_goals
                          go_wp2_with fail
                          go_meet
                          case rel => exact ⟨by rw [HP.out.2.2.2.2.1 (by first | trivial | simp | exact HK.out), HTE.out, HB.out]; rfl, K7.out⟩
                      | true =>
                        have HTE := Lib.hid hte
                        rcases e12 with rfl | rfl
                        all_goals
                          go_wp2_with fail
                          go_meet
                          case rel => exact ⟨by rw [HP.out.2.2.2.2.1 (by first | trivial | simp | exact HK.out), HTE.out, HB.out]; rfl, K7.out⟩
                    · have HO := Lib.hid (HP.out.2.2.2.2.2 ⟨e9, e10, e8, e11, fun h => e12 (.inl h), fun h => e12 (.inr h)⟩)
                      have f9 : ((kd : Int) == 9) = false := by simp; omega
                      have f10 : ((kd : Int) == 10) = false := by simp; omega
                      have f8 : ((kd : Int) == 8) = false := by simp; omega
                      have f11 : ((kd : Int) == 11) = false := by simp; omega
                      have f12 : ((kd : Int) == 12) = false := by simp; omega
                      have f13 : ((kd : Int) == 13) = false := by simp; omega
                      clear e9 e10 e8 e11 e12
                      go_wp2_with fail
                      go_meet
                      case rel => exact ⟨by rw [HO.out], K7.out⟩
                  · have zei : ((xe.len : Int) == 0) = false := by simp; omega
                    have HB := Lib.hid (show bare = false by rw [HBARE.out]; simp [zb, ze])
                    have HE0 := Lib.hid (show (xe.len == 0) = false by simp [ze])
                    clear zb ze
                    by_cases e9 : kd = 9
                    · subst e9
                      go_wp2_with fail
                      go_meet
                      case rel => exact ⟨by rw [HP.out.1 (by first | trivial | simp)], K7.out⟩
                    by_cases e10 : kd = 10
                    · subst e10
                      clear e9
                      cases hte : tt.isEmpty with
                      | false =>
                        have HTE := Lib.hid hte
                        go_wp2_with fail
                        go_meet
                        case rel => exact ⟨by rw [HP.out.2.1 (by first | trivial | simp), HTE.out, HE0.out]; rfl, K7.out⟩
                      | true =>
                        have HTE := Lib.hid hte
                        go_wp2_with fail
                        go_meet
                        case rel => exact ⟨by rw [HP.out.2.1 (by first | trivial | simp), HTE.out, HE0.out]; rfl, K7.out⟩
                    by_cases e8 : kd = 8
                    · subst e8
                      clear e9 e10
                      go_wp2_with fail
                      refine refname_t tt HT.out ?_
                      cases hnm : To.name tt with
                      | false =>
                        have HNM := Lib.hid hnm
                        go_wp2_with fail
                        go_meet
                        case rel => exact ⟨by rw [HP.out.2.2.1 (by first | trivial | simp), HB.out, HNM.out]; rfl, K7.out⟩
                      | true =>
                        have HNM := Lib.hid hnm
                        go_wp2_with fail
                        go_meet
                        case rel => exact ⟨by rw [HP.out.2.2.1 (by first | trivial | simp), HB.out, HNM.out]; rfl, K7.out⟩
                    by_cases e11 : kd = 11
                    · subst e11
                      clear e9 e10 e8
                      cases hte : tt.isEmpty with
                      | false =>
                        have HTE := Lib.hid hte
                        go_wp2_with fail
                        go_meet
                        case rel => exact ⟨by rw [HP.out.2.2.2.1 (by first | trivial | simp), HTE.out]; rfl, K7.out⟩
                      | true =>
                        have HTE := Lib.hid hte
                        cases inner with
                        | false =>
                          go_wp2_with fail
                          go_meet
                          case rel => exact ⟨by rw [HP.out.2.2.2.1 (by first | trivial | simp), HTE.out, HB.out]; rfl, K7.out⟩
                        | true =>
                          go_wp2_with fail
                          go_meet
                          case rel => exact ⟨by rw [HP.out.2.2.2.1 (by first | trivial | simp), HTE.out, HB.out]; rfl, K7.out⟩
                    by_cases e12 : kd = 12 ∨ kd = 13
                    · clear e9 e10 e8 e11
                      have HK := Lib.hid e12
                      cases hte : tt.isEmpty with
                      | false =>
                        have HTE := Lib.hid hte
                        rcases e12 with rfl | rfl
                        all_goals
                          go_wp2_with fail
                          go_meet
                          case rel => exact ⟨by rw [HP.out.2.2.2.2.1 (by first | trivial | simp | exact HK.out), HTE.out, HB.out]; rfl, K7.out⟩
                      | true =>
                        have HTE := Lib.hid hte
                        rcases e12 with rfl | rfl
                        all_goals
                          go_wp2_with fail
                          go_meet
                          case rel => exact ⟨by rw [HP.out.2.2.2.2.1 (by first | trivial | simp | exact HK.out), HTE.out, HB.out]; rfl, K7.out⟩
                    · have HO := Lib.hid (HP.out.2.2.2.2.2 ⟨e9, e10, e8, e11, fun h => e12 (.inl h), fun h => e12 (.inr h)⟩)
                      have f9 : ((kd : Int) == 9) = false := by simp; omega
                      have f10 : ((kd : Int) == 10) = false := by simp; omega
                      have f8 : ((kd : Int) == 8) = false := by simp; omega
                      have f11 : ((kd : Int) == 11) = false := by simp; omega
                      have f12 : ((kd : Int) == 12) = false := by simp; omega
                      have f13 : ((kd : Int) == 13) = false := by simp; omega
                      clear e9 e10 e8 e11 e12
                      go_wp2_with fail
                      go_meet
                      case rel => exact ⟨by rw [HO.out], K7.out⟩
              case rest =>
                  obtain ⟨rfl, hbc⟩ := hcut
                  have K9 := Lib.hid (K4.out.trans (hbc.mono K4.out.size))
                  clear hbc q0 q1 q2 q3 q4 HP
                  cases p with
                  | false =>
                    have HN := Lib.hid (stmt_no HD.out HALL.out)
                    go_wp2_with fail
                    go_ret
                    exact ⟨by rw [HN.out]; rfl, K9.out⟩
                  | true =>
                    go_wp2_with fail
                    go_roundg (xs.items.length - (i + 1))
                    case measure => omega
                    case rel =>
                      refine ⟨i + 1, hlt, rfl, by go_num, ?_, K9.out⟩
                      have hd := HD.out
                      rw [List.all_cons, show stmtOne inner ⟨kd, tt, xl, xb, xe⟩ = true from HALL.out, Bool.true_and] at hd
                      exact hd
      · have hl1i : ((xl.len : Int) == 1) = false := by simp; omega
        have hl1j : ((xl.len : Int) != 1) = true := by simp; omega
        have HN := Lib.hid (stmt_no HD.out (by rw [show (xl.len == 1) = false by simpa using hl1]; rfl))
        clear hl1
        go_wp2_with fail
        go_ret
        exact ⟨by rw [HN.out]; rfl, K4.out⟩
    · have hie : i = xs.items.length := by omega
      have i1 : (xs.items.length : Int) ≤ (i : Int) := by omega
      have HD := Lib.hid (show stmts inner xs = true by rw [← hd, hie, List.drop_length]; rfl)
      have HB := Lib.hid hb
      clear hlt hie hd hb hi
      go_wp2_with fail
      go_ret
      exact ⟨by rw [HD.out]; rfl, HB.out⟩
end Go.Proofs.YtobpnjnfpgcpaaaDoor

/- Trees: is one of several texts none; is one of several lists too much; the bodies of a program. -/
namespace Go.Proofs.YtobpnjnfpgcpaaaDoor
open Go.RowKit Go.My Go.Nd

/-- A function of a text, asked at any later world. -/
def AskedT (B : Nat) (fn : FuncId) (p : List UInt8 → Bool) (x : List UInt8) : Prop :=
  ∀ (w' : World), B ≤ w'.heap.size → x.length ≤ 140737488351232 → Calls Tryd.prog fn #[.string (bs x)] w' fun e w'' => e = .returned (.bool (p x)) ∧ Below w'.heap.size w' w''

def IndexTAt (w : World) (xs : List (List UInt8)) (p : List UInt8 → Bool) (gk : Nat) (v8 : Value) (wr : World) : Prop :=
  ∃ i : Nat, i ≤ xs.length ∧ gk = xs.length - i ∧ v8 = .int .i64 (i : Int) ∧ (xs.drop i).any p = xs.any p ∧ Below w.heap.size w wr

set_option maxRecDepth 100000 in
set_option maxHeartbeats 4000000 in
theorem indexT_said {tw : Bool} {xs : List (List UInt8)} {fn : Nat} {p : List UInt8 → Bool} {w : World} {B : Nat} {v : Value} (hB : B ≤ w.heap.size) (hv : TextsIn w (· < B) tw v xs) (hf : ∀ x ∈ xs, AskedT B fn p x) (hcf : ∀ (args : Array Value) (wx : World), (callFunc fn args).run Tryd.prog wx = .ok (.enter fn args) wx) :
    Calls Tryd.prog 42 #[v, .func (.func fn) #[] #[]] w (IndexSaid w (xs.any p)) := by
  obtain ⟨a, c, rfl, _, _, hr, _, hc⟩ := hv
  have HF := Lib.hid hf
  have HC := Lib.hid hc
  have l0 : (0 : Int) ≤ (xs.length : Int) := by omega
  have l1 : (xs.length : Int) ≤ 140737488351232 := by omega
  clear hc hr hf
  go_enter Tryd.func42, Tryd.ntmps42
  go_wp2_with fail
  go_loopg [8] xs.length (fun gk v8 wr => IndexTAt w xs p gk v8 wr)
  case atStart => exact ⟨0, Nat.zero_le _, rfl, rfl, rfl, Below.refl _ _⟩
  case round =>
    obtain ⟨i, hi, rfl, rfl, hd, hb⟩ := hrel
    have i0 : (0 : Int) ≤ (i : Int) := by omega
    by_cases hlt : i < xs.length
    · have i1 : (i : Int) < (xs.length : Int) := by omega
      obtain ⟨b, off, rfl, hS, hN, hl⟩ := HC.out i hlt
      have d0 := (World.cell?_of_block (hb.block b (Nat.lt_of_lt_of_le hS hB))).trans hN
      obtain ⟨x, hx⟩ : ∃ x, x = xs[i] := ⟨_, rfl⟩
      rw [← hx] at d0 hl
      have etx : tx x = bs x := rfl
      rw [etx] at d0
      have hA := HF.out _ (List.getElem_mem hlt)
      rw [← hx] at hA
      have hdr := List.drop_eq_getElem_cons hlt
      rw [← hx] at hdr
      have Y := Lib.hid (And.intro hb (And.intro hd (And.intro hdr (hA wr (Nat.le_trans hB hb.size) hl))))
      clear hN hb hd hx hdr hA hS hl etx
      go_wp2_with fail
      refine Y.out.2.2.2.mono ?_
      rintro e w' ⟨rfl, hk⟩
      have K := Lib.hid (Y.out.1.trans (hk.mono Y.out.1.size))
      clear hk
      cases hp : p x with
      | true =>
        have HP := Lib.hid hp
        clear hp
        go_wp2_with fail
        go_ret
        refine ⟨(i : Int), rfl, ?_, K.out⟩
        have hd := Y.out.2.1
        rw [Y.out.2.2.1, List.any_cons, HP.out] at hd
        rw [← hd]; simp
      | false =>
        have HP := Lib.hid hp
        clear hp
        go_wp2_with fail
        go_roundg (xs.length - (i + 1))
        case measure => omega
        case rel =>
          refine ⟨i + 1, hlt, rfl, by go_num, ?_, K.out⟩
          have hd := Y.out.2.1
          rw [Y.out.2.2.1, List.any_cons, HP.out, Bool.false_or] at hd
          exact hd
    · obtain rfl : i = xs.length := by omega
      clear hlt
      go_wp2_with fail
      go_ret
      exact ⟨-1, rfl, by rw [← hd, List.drop_length]; rfl, hb⟩

set_option maxRecDepth 100000 in
set_option maxHeartbeats 4000000 in
theorem containsT_said {tw : Bool} {xs : List (List UInt8)} {fn : Nat} {p : List UInt8 → Bool} {w : World} {B : Nat} {v : Value} (hB : B ≤ w.heap.size) (hv : TextsIn w (· < B) tw v xs) (hf : ∀ x ∈ xs, AskedT B fn p x) (hcf : ∀ (args : Array Value) (wx : World), (callFunc fn args).run Tryd.prog wx = .ok (.enter fn args) wx) :
    Calls Tryd.prog 24 #[v, .func (.func fn) #[] #[]] w fun e w' => e = .returned (.bool (xs.any p)) ∧ Below w.heap.size w w' := by
  have H := Lib.hid (indexT_said hB hv hf hcf)
  clear hv hf hcf
  go_enter Tryd.func24, Tryd.ntmps24
  go_wp2_with fail
  refine H.out.mono ?_
  rintro e w' ⟨n, rfl, hn, hb⟩
  have K := Lib.hid (And.intro hn hb)
  clear hn hb
  go_wp2_with fail
  go_ret
  refine ⟨?_, K.out.2⟩
  rw [← K.out.1]; rfl

theorem check1_one {B : Nat} (x : List UInt8) : AskedT B 25 (fun x => !To.name x) x := by
  intro w hB hx
  go_enter Tryd.func25, Tryd.ntmps25
  go_wp2_with fail
  refine name_t x (by omega) fun w1 hb => ?_
  have K := Lib.hid hb
  clear hb
  cases hp : To.name x with
  | true =>
    have HP := Lib.hid hp
    clear hp
    go_wp2_with fail
    go_ret
    exact ⟨by simp [HP.out], K.out⟩
  | false =>
    have HP := Lib.hid hp
    clear hp
    go_wp2_with fail
    go_ret
    exact ⟨by simp [HP.out], K.out⟩
end Go.Proofs.YtobpnjnfpgcpaaaDoor

/- Trees: may a program be: the package's own Check. -/
namespace Go.My
open Go.Nd
def bodiesOf (p : Pr) : List Ns := p.body :: p.funcs.map (·.body)
def greatP (wrap : Int → Int) (p : Pr) : Bool := (bodiesOf p).any (Nd.great wrap)
def fnOne (f : Nd.Fn) : Bool := To.name f.name && f.args.all To.name && stmts true f.body
theorem check_is (wrap : Int → Int) (p : Pr) : check wrap p = (p.funcs.all fnOne && stmts false p.body && !greatP wrap p) := by
  unfold check greatP bodiesOf
  rw [List.any_cons, List.any_map]; rfl
theorem not_names (l : List (List UInt8)) : l.any (fun x => !To.name x) = !l.all To.name := by
  induction l with
  | nil => rfl
  | cons x l ih => rw [List.any_cons, List.all_cons, ih]; cases To.name x <;> rfl
end Go.My
namespace Go.Proofs.YtobpnjnfpgcpaaaDoor
open Go.RowKit Go.My Go.Nd

/-- A function of a list of nodes, asked at any later world. -/
def AskedN (tw : Bool) (B : Nat) (fn : FuncId) (p : Ns → Bool) (x : Ns) : Prop :=
  ∀ (w' : World) (v : Value), B ≤ w'.heap.size → Nodes w' (· < B) tw v x → Calls Tryd.prog fn #[v] w' fun e w'' => e = .returned (.bool (p x)) ∧ Below w'.heap.size w' w''

theorem great1_one (tw : Bool) (B : Nat) (x : Ns) : AskedN tw B 46 (Nd.great wrapI) x := by
  intro w v hB hv
  have HD := Lib.hid (deep_said tw x w B v hB hv)
  have HL := Lib.hid (fun w1 (hb : Below w.heap.size w w1) => long_said tw x w1 B v (Nat.le_trans hB hb.size) (hv.below (hb.mono hB)))
  have hn := deep_nonneg wrapI x
  have hm := deep_le wrapI 9223372036854775807 (by decide) (fun x => by unfold wrapI; rw [IntKind.wrap_i64]; omega) x
  obtain ⟨a, c, rfl, _⟩ := hv
  obtain ⟨d, hd⟩ : ∃ d, d = deep wrapI x := ⟨_, rfl⟩
  rw [← hd] at HD hn hm
  have HDD := Lib.hid hd
  clear hd
  go_enter Tryd.func46, Tryd.ntmps46
  go_wp2_with fail
  refine HD.out.mono ?_
  rintro e w1 ⟨rfl, hb⟩
  have K := Lib.hid hb
  clear hb
  by_cases hg : 64 < d
  · have HG := Lib.hid (show Nd.great wrapI x = true by unfold Nd.great; rw [← HDD.out]; simp [hg])
    go_wp2_with fail
    go_ret
    exact ⟨by rw [HG.out]; rfl, K.out⟩
  · have hg1 : d ≤ 64 := by omega
    have HG := Lib.hid (show Nd.great wrapI x = (decide (64 < d) || long x) by unfold Nd.great; rw [← HDD.out])
    clear hg
    go_wp2_with fail
    refine (HL.out w1 K.out).mono ?_
    rintro e w2 ⟨rfl, hb⟩
    have K2 := Lib.hid (K.out.trans (hb.mono K.out.size))
    clear hb
    go_wp2_with fail
    go_ret
    exact ⟨by rw [HG.out]; rfl, K2.out⟩

def IndexNAt (w : World) (xs : List Ns) (p : Ns → Bool) (gk : Nat) (v8 : Value) (wr : World) : Prop :=
  ∃ i : Nat, i ≤ xs.length ∧ gk = xs.length - i ∧ v8 = .int .i64 (i : Int) ∧ (xs.drop i).any p = xs.any p ∧ Below w.heap.size w wr

/-- v reads as these lists of nodes: the row itself anywhere, the nodes below B. -/
def ListsOf (w : World) (B : Nat) (tw : Bool) (v : Value) (xs : List Ns) : Prop :=
  ∃ vs, RowIn w (fun b => b < w.heap.size) v vs ∧ vs.length = xs.length ∧ ∀ j (h : j < vs.length) (h' : j < xs.length), Nodes w (· < B) tw vs[j] xs[j]

set_option maxRecDepth 100000 in
set_option maxHeartbeats 4000000 in
theorem indexN_said {tw : Bool} {xs : List Ns} {fn : Nat} {p : Ns → Bool} {w : World} {B : Nat} {v : Value} (hB : B ≤ w.heap.size) (hv : ListsOf w B tw v xs) (hx : xs.length ≤ 140737488351232) (hf : ∀ x ∈ xs, AskedN tw B fn p x) (hcf : ∀ (args : Array Value) (wx : World), (callFunc fn args).run Tryd.prog wx = .ok (.enter fn args) wx) :
    Calls Tryd.prog 75 #[v, .func (.func fn) #[] #[]] w (IndexSaid w (xs.any p)) := by
  obtain ⟨vs, ⟨a, c, rfl, hc1, hc2, _, hcell⟩, hlen, hn⟩ := hv
  rw [hlen]
  have HF := Lib.hid hf
  have HN := Lib.hid hn
  have HC := Lib.hid hcell
  have HL := Lib.hid hlen
  have l0 : (0 : Int) ≤ (xs.length : Int) := by omega
  have l1 : (xs.length : Int) ≤ 140737488351232 := by omega
  clear hn hcell hlen hf hc1 hc2
  go_enter Tryd.func75, Tryd.ntmps75
  go_wp2_with fail
  go_loopg [8] xs.length (fun gk v8 wr => IndexNAt w xs p gk v8 wr)
  case atStart => exact ⟨0, Nat.zero_le _, rfl, rfl, rfl, Below.refl _ _⟩
  case round =>
    obtain ⟨i, hi, rfl, rfl, hd, hb⟩ := hrel
    have i0 : (0 : Int) ≤ (i : Int) := by omega
    by_cases hlt : i < xs.length
    · have i1 : (i : Int) < (xs.length : Int) := by omega
      have hiv : i < vs.length := by rw [HL.out]; exact hlt
      obtain ⟨b, off, rfl, hS, hcc⟩ := HC.out (by intro e; rw [e] at hiv; exact absurd hiv (Nat.not_lt_zero _))
      have d0 := (World.cell?_of_block (hb.block b hS)).trans (hcc i vs[i] (by rw [List.getElem?_eq_getElem hiv]))
      have hnx := (HN.out i hiv hlt).below (hb.mono hB)
      obtain ⟨y, hy⟩ : ∃ y, y = vs[i] := ⟨_, rfl⟩
      rw [← hy] at d0 hnx
      obtain ⟨x, hx⟩ : ∃ x, x = xs[i] := ⟨_, rfl⟩
      rw [← hx] at hnx
      have hA := HF.out _ (List.getElem_mem hlt)
      rw [← hx] at hA
      have hdr := List.drop_eq_getElem_cons hlt
      rw [← hx] at hdr
      have Y := Lib.hid (And.intro hb (And.intro hd (And.intro hdr (hA wr y (Nat.le_trans hB hb.size) hnx))))
      obtain ⟨ya, yc, rfl, _⟩ := hnx
      clear hb hd hx hdr hA hS hy hcc hiv
      go_wp2_with fail
      refine Y.out.2.2.2.mono ?_
      rintro e w' ⟨rfl, hk⟩
      have K := Lib.hid (Y.out.1.trans (hk.mono Y.out.1.size))
      clear hk
      cases hp : p x with
      | true =>
        have HP := Lib.hid hp
        clear hp
        go_wp2_with fail
        go_ret
        refine ⟨(i : Int), rfl, ?_, K.out⟩
        have hd := Y.out.2.1
        rw [Y.out.2.2.1, List.any_cons, HP.out] at hd
        rw [← hd]; simp
      | false =>
        have HP := Lib.hid hp
        clear hp
        go_wp2_with fail
        go_roundg (xs.length - (i + 1))
        case measure => omega
        case rel =>
          refine ⟨i + 1, hlt, rfl, by go_num, ?_, K.out⟩
          have hd := Y.out.2.1
          rw [Y.out.2.2.1, List.any_cons, HP.out, Bool.false_or] at hd
          exact hd
    · obtain rfl : i = xs.length := by omega
      clear hlt
      go_wp2_with fail
      go_ret
      exact ⟨-1, rfl, by rw [← hd, List.drop_length]; rfl, hb⟩

set_option maxRecDepth 100000 in
set_option maxHeartbeats 4000000 in
theorem containsN_said {tw : Bool} {xs : List Ns} {fn : Nat} {p : Ns → Bool} {w : World} {B : Nat} {v : Value} (hB : B ≤ w.heap.size) (hv : ListsOf w B tw v xs) (hx : xs.length ≤ 140737488351232) (hf : ∀ x ∈ xs, AskedN tw B fn p x) (hcf : ∀ (args : Array Value) (wx : World), (callFunc fn args).run Tryd.prog wx = .ok (.enter fn args) wx) :
    Calls Tryd.prog 44 #[v, .func (.func fn) #[] #[]] w fun e w' => e = .returned (.bool (xs.any p)) ∧ Below w.heap.size w w' := by
  have H := Lib.hid (indexN_said hB hv hx hf hcf)
  clear hv hf hcf
  go_enter Tryd.func44, Tryd.ntmps44
  go_wp2_with fail
  refine H.out.mono ?_
  rintro e w' ⟨n, rfl, hn, hb⟩
  have K := Lib.hid (And.intro hn hb)
  clear hn hb
  go_wp2_with fail
  go_ret
  refine ⟨?_, K.out.2⟩
  rw [← K.out.1]; rfl
end Go.Proofs.YtobpnjnfpgcpaaaDoor

/- Trees: the bodies of a program; is it too great; may it be. -/
namespace Go.My
open Go.RowKit Go.Nd
theorem Since.nodes {w0 w : World} {g : Tags} (h : Since w0 w g) {B : Nat} (hB : B ≤ w0.heap.size) {tw : Bool} {v : Value} {x : Ns} (hv : Nodes w0 (· < B) tw v x) : Nodes w (· < B) tw v x := hv.below (h.below.mono hB)

end Go.My
namespace Go.Proofs.YtobpnjnfpgcpaaaDoor
open Go.RowKit Go.My Go.Nd

theorem nodesElem : Elem Tryd.prog 77 23 1 24 (.slice none 0 0) := Elem.mk' Tryd.underlying77 (by kernel_rfl) rfl (by decide)

structure BodAt (w : World) (B : Nat) (tw : Bool) (p : Pr) (i : Nat) (bx : Nat) (ty : TypeId) (cs : Array Value) (v : Value) (wr : World) (g : Tags) (vs : List Value) : Prop where
  since : Since w wr g
  box : w.heap.size ≤ bx ∧ wr.heap[bx]? = some (.cells cs ty (0, 0)) ∧ g bx = 900
  own : Owns wr g 5 23 1 v (i + 1) vs
  len : vs.length = i + 1
  each : ∀ j (h : j < vs.length) (h' : j < (bodiesOf p).length), Nodes wr (· < B) tw vs[j] (bodiesOf p)[j]

def BodLoop (w : World) (B : Nat) (tw : Bool) (p : Pr) (bx : Nat) (ty : TypeId) (cs : Array Value) (gk : Nat) (v3 v12 : Value) (wr : World) : Prop :=
  ∃ (i : Nat) (ao : Option Addr) (cap : Nat) (g : Tags) (vs : List Value), i ≤ p.funcs.length ∧ gk = p.funcs.length - i ∧ v12 = .int .i64 (i : Int) ∧ v3 = .slice ao (i + 1) cap ∧ BodAt w B tw p i bx ty cs v3 wr g vs

theorem bodiesOf_length (p : Pr) : (bodiesOf p).length = p.funcs.length + 1 := by simp [bodiesOf]
theorem bodiesOf_succ (p : Pr) (i : Nat) (hi : i < p.funcs.length) : (bodiesOf p)[i + 1]'(by rw [bodiesOf_length]; omega) = (p.funcs[i]).body := by simp [bodiesOf]

theorem bod_snoc {w wr w2 : World} {B : Nat} {tw : Bool} {p : Pr} {i bx : Nat} {ty : TypeId} {cs : Array Value} {v v2 u : Value} {g g2 : Tags} {vs : List Value} (hB : B ≤ w.heap.size) (h : BodAt w B tw p i bx ty cs v wr g vs) (hi : i < p.funcs.length) {o1 o2 : Obj}
    (hT : Turn ((wr.alloc o1).alloc o2) ((g.ext wr.heap.size 900).ext (wr.heap.size + 1) 901) w2 g2 [5]) (hO : Owns w2 g2 5 23 1 v2 (i + 1 + 1) (vs ++ [u])) (hu : Nodes wr (· < B) tw u (p.funcs[i]).body) : BodAt w B tw p (i + 1) bx ty cs v2 w2 g2 (vs ++ [u]) := by
  have e2 : (wr.alloc o1).heap.size = wr.heap.size + 1 := by simp
  have Ta := Turn.alloc wr g 900 o1
  have Tb := Turn.alloc (wr.alloc o1) (g.ext wr.heap.size 900) 901 o2
  rw [e2] at Tb
  have T : Turn wr g w2 g2 [5] := (Ta.trans Tb (V := []) (by simp) (by simp)).trans hT (by simp) (by simp)
  have hs := h.since.turn T (by decide)
  have hblk : bx < wr.heap.size := (Array.getElem?_eq_some_iff.1 h.box.2.1).1
  have nd : ∀ v x, Nodes wr (· < B) tw v x → Nodes w2 (· < B) tw v x := fun v x hv => hv.frame fun b hb _ => T.block b (Nat.lt_of_lt_of_le hb (Nat.le_trans hB h.since.below.size)) (by rw [h.since.zero b (Nat.lt_of_lt_of_le hb hB)]; decide)
  refine ⟨hs, ⟨h.box.1, (T.block bx hblk (by rw [h.box.2.2]; decide)).trans h.box.2.1, (T.old bx hblk).trans h.box.2.2⟩, hO, by simp [h.len], fun j hj hj' => ?_⟩
  rcases Nat.lt_or_ge j vs.length with hlt | hge
  · rw [List.getElem_append_left hlt]
    exact nd _ _ (h.each j hlt hj')
  · have : j = i + 1 := by have h2 := h.len; simp at hj; omega
    subst this
    rw [List.getElem_append_right hge, bodiesOf_succ p i hi]
    simp only [h.len, Nat.sub_self, List.getElem_singleton]
    exact nd _ _ hu

set_option maxRecDepth 100000 in
set_option maxHeartbeats 4000000 in
theorem bodies_t {w : World} {B : Nat} {tw : Bool} {p : Pr} {v1 v2 : Value} (hB : B ≤ w.heap.size) (h1 : FuncsIn w (· < B) tw v1 p.funcs) (h2 : Nodes w (· < B) tw v2 p.body) {Q : Ending → World → Prop}
    (h : ∀ v w', Below w.heap.size w w' → ListsOf w' B tw v (bodiesOf p) → Q (.returned v) w') : Calls Tryd.prog 45 #[.agg #[v1, v2]] w Q := by
  obtain ⟨a1, c1, rfl, _, _, hr, _, hc⟩ := h1
  obtain ⟨a2, c2, rfl, hr2, hn⟩ := id h2
  have H := Lib.hid h
  have HC := Lib.hid hc
  have HB2 := Lib.hid h2
  have l0 : (0 : Int) ≤ (p.funcs.length : Int) := by omega
  have l1 : (p.funcs.length : Int) ≤ 140737488351232 := by omega
  have hl9 : p.funcs.length ≤ 2199023255552 := by omega
  have Tb := Turn.alloc w (fun _ => 0) 900 (.cells #[.slice a1 p.funcs.length c1, .slice a2 p.body.len c2] 37)
  have Tc := Turn.alloc (w.alloc (.cells #[.slice a1 p.funcs.length c1, .slice a2 p.body.len c2] 37)) (Tags.ext (fun _ => 0) w.heap.size 900) 5 (.cells #[.slice a2 p.body.len c2] 23)
  have hbx : (w.alloc (.cells #[.slice a1 p.funcs.length c1, .slice a2 p.body.len c2] 37)).heap[w.heap.size]? = _ := _root_.Go.heap_alloc_new w _
  have e2 : (w.alloc (.cells #[.slice a1 p.funcs.length c1, .slice a2 p.body.len c2] 37)).heap.size = w.heap.size + 1 := by simp
  have S2 := ((Since.start w).turn Tb (by simp)).turn Tc (by simp)
  have Y0 := Lib.hid (show BodAt w B tw p 0 w.heap.size 37 #[.slice a1 p.funcs.length c1, .slice a2 p.body.len c2] (.slice (some ⟨w.heap.size + 1, 0, none⟩) 1 1) _ _ [.slice a2 p.body.len c2] from
    ⟨S2, ⟨Nat.le_refl _, (Tc.block w.heap.size (by rw [e2]; omega) (by simp)).trans hbx, by rw [Tc.old _ (by rw [e2]; omega), Tags.ext_new _ _ _ _ (Nat.le_refl _)]⟩,
      ⟨some (w.heap.size + 1), ⟨rfl, .inr ⟨w.heap.size + 1, 0, 1, _, rfl, rfl, by rw [← e2]; exact _root_.Go.heap_alloc_new _ _, Nat.le_refl _, by decide, by simp, by simp⟩⟩, fun b hb => by cases hb; rw [← e2]; exact Tags.ext_new _ _ _ _ (Nat.le_refl _)⟩, rfl, fun j hj hj' => by
        have : j = 0 := by simpa using hj
        subst this
        exact S2.nodes hB h2⟩)
  clear h hc h2 hr hr2 hn Tb Tc hbx S2
  go_enter Tryd.func45, Tryd.ntmps45
  go_upto_region 2 with fail
  obtain ⟨bx, hbx⟩ : ∃ bx, bx = w.heap.size := ⟨_, rfl⟩
  generalize hg2 : (Tags.ext (Tags.ext (fun _ => 0) w.heap.size 900) (w.alloc (.cells #[.slice a1 p.funcs.length c1, .slice a2 p.body.len c2] 37)).heap.size 5) = g2 at Y0
  generalize hw2 : (w.alloc (.cells #[.slice a1 p.funcs.length c1, .slice a2 p.body.len c2] 37)).alloc (.cells #[.slice a2 p.body.len c2] 23) = w2 at Y0 ⊢
  rw [← hbx] at Y0 ⊢
  have q0 : w2.cell? ⟨bx, 0, none⟩ = some (.slice a1 p.funcs.length c1) := cell_of_row w2 bx 0 _ _ _ Y0.out.box.2.1
  clear hg2 hw2 hbx e2
  go_wp2_with fail
  go_loopg [3, 12] p.funcs.length (fun gk v3 v12 wr => BodLoop w B tw p bx 37 #[.slice a1 p.funcs.length c1, .slice a2 p.body.len c2] gk v3 v12 wr)
  case atStart => exact ⟨0, _, _, g2, _, Nat.zero_le _, rfl, rfl, rfl, Y0.out⟩
  case round =>
    obtain ⟨i, ao, cap, g, vs, hi, rfl, rfl, rfl, hA⟩ := hrel
    have i0 : (0 : Int) ≤ (i : Int) := by omega
    have X := Lib.hid hA
    clear hA Y0 q0
    by_cases hlt : i < p.funcs.length
    · have i1 : (i : Int) < (p.funcs.length : Int) := by omega
      obtain ⟨b, off, v1, v2, rfl, hS, hN⟩ := HC.out i hlt
      have hblk := X.out.since.below.block b (Nat.lt_of_lt_of_le hS hB)
      have d0 := (World.cell?_of_block hblk).trans hN.d0
      have d1 := (World.cell?_of_block hblk).trans hN.d1
      have d2 := (World.cell?_of_block hblk).trans hN.d2
      have hb1 := X.out.since.nodes hB hN.body
      obtain ⟨y1, z1, e1⟩ := hN.args.form
      obtain ⟨y2, z2, e2⟩ := hN.body.form
      subst e1
      subst e2
      generalize hfi : (p.funcs[i]).args.length = na at *
      generalize hfn : tx (p.funcs[i]).name = nm at *
      have HNB := Lib.hid hb1
      have hown := X.out.own
      obtain ⟨bx2, hbx2⟩ : ∃ bx2, bx2 = wr.heap.size := ⟨_, rfl⟩
      have e3 : (wr.alloc (.cells #[.string nm, .slice y1 na z1, .slice y2 (p.funcs[i]).body.len z2] 47)).heap.size = wr.heap.size + 1 := by simp
      have OW := Lib.hid ((X.out.own.turn (Turn.alloc wr g 900 (.cells #[.string nm, .slice y1 na z1, .slice y2 (p.funcs[i]).body.len z2] 47)) (by simp)).turn (Turn.alloc (wr.alloc (.cells #[.string nm, .slice y1 na z1, .slice y2 (p.funcs[i]).body.len z2] 47)) (g.ext wr.heap.size 900) 901 (.cells #[.slice y2 (p.funcs[i]).body.len z2] 23)) (by simp))
      rw [e3] at OW
      have hi2 : i + 1 + 1 ≤ 2199023255553 := by omega
      clear hN hb1 hown hS hblk hfi hfn hbx2
      go_wp2_with (at_builtin; go_loud (refine wpList_append_t _ rfl (.tmp 16) (.tmp 19) rfl nodesElem (g := (g.ext wr.heap.size 900).ext (wr.heap.size + 1) 901) (tg := 5) rfl OW.out rfl (Src.lit #[.slice y2 (p.funcs[i]).body.len z2] 23 (by simp) rfl) (by simp [Value.oneCell']) (by unfold maxLen; omega) (by omega) ?_); intro a5 c5 w5 g5 O5 T5; have X5 := Lib.hid (bod_snoc hB X.out hlt T5 O5 HNB.out); clear O5 T5)
      go_roundg (p.funcs.length - (i + 1))
      case measure => omega
      case rel => exact ⟨i + 1, _, _, g5, _, hlt, rfl, by go_num, rfl, X5.out⟩
    · have hie : i = p.funcs.length := by omega
      have i1 : (p.funcs.length : Int) ≤ (i : Int) := by omega
      have hL : ListsOf wr B tw (.slice ao (i + 1) cap) (bodiesOf p) := ⟨vs, RowIn.mono X.out.own.row (fun b hb _ => hb), by rw [X.out.len, bodiesOf_length, hie], X.out.each⟩
      have HL := Lib.hid hL
      clear hlt hie hi hL
      go_wp2_with fail
      exact H.out _ _ X.out.since.below HL.out

set_option maxRecDepth 100000 in
set_option maxHeartbeats 2000000 in
theorem great_t {w : World} {B : Nat} {tw : Bool} {p : Pr} {v1 v2 : Value} (hB : B ≤ w.heap.size) (h1 : FuncsIn w (· < B) tw v1 p.funcs) (h2 : Nodes w (· < B) tw v2 p.body) :
    Calls Tryd.prog 27 #[.agg #[v1, v2]] w fun e w' => e = .returned (.bool (greatP wrapI p)) ∧ Below w.heap.size w w' := by
  have hA := Below.alloc (Below.refl w.heap.size w) (Nat.le_refl _) (.cells #[v1, v2] 37)
  have hx : (bodiesOf p).length ≤ 140737488351232 := by obtain ⟨_, _, _, _, _, hr, _⟩ := h1; rw [bodiesOf_length]; omega
  have C := Lib.hid (fun (Q : Ending → World → Prop) (h : ∀ v w', Below (w.alloc (.cells #[v1, v2] 37)).heap.size (w.alloc (.cells #[v1, v2] 37)) w' → ListsOf w' B tw v (bodiesOf p) → Q (.returned v) w') => bodies_t (Nat.le_trans hB hA.size) (h1.below (hA.mono hB)) (h2.below (hA.mono hB)) h)
  obtain ⟨a1, c1, rfl, _⟩ := h1
  obtain ⟨a2, c2, rfl, _⟩ := h2
  have Y := Lib.hid (And.intro hA (And.intro hB hx))
  clear hA hx hB
  go_enter Tryd.func27, Tryd.ntmps27
  go_wp2_with fail
  refine C.out _ fun v w' hb hL => ?_
  have K := Lib.hid (Y.out.1.trans (hb.mono Y.out.1.size))
  have HL := Lib.hid (containsN_said (fn := 46) (p := Nd.great wrapI) (Nat.le_trans Y.out.2.1 K.out.size) hL Y.out.2.2 (fun x _ => great1_one tw B x) (fun _ _ => by kernel_rfl))
  obtain ⟨vs, ⟨va, vc, ev, hx1⟩, hl, hx2⟩ := hL
  subst ev
  clear hb hx1 hl hx2
  go_wp2_with fail
  refine HL.out.mono ?_
  rintro e w2 ⟨rfl, hb⟩
  have K2 := Lib.hid (K.out.trans (hb.mono K.out.size))
  clear hb
  go_wp2_with fail
  go_ret
  exact ⟨rfl, K2.out⟩
end Go.Proofs.YtobpnjnfpgcpaaaDoor

/- Trees: may a program be: Check. -/
namespace Go.Proofs.YtobpnjnfpgcpaaaDoor
open Go.RowKit Go.My Go.Nd

def CheckAt (w : World) (fs : List Nd.Fn) (gk : Nat) (v8 : Value) (wr : World) : Prop :=
  ∃ i : Nat, i ≤ fs.length ∧ gk = fs.length - i ∧ v8 = .int .i64 (i : Int) ∧ (fs.drop i).all fnOne = fs.all fnOne ∧ Below w.heap.size w wr

theorem check_no {fs r : List Nd.Fn} {i : Nat} {f : Nd.Fn} {p : Pr} (hp : p.funcs = fs) (hd : (fs.drop i).all fnOne = fs.all fnOne) (hdr : fs.drop i = f :: r) (hf : fnOne f = false) : check wrapI p = false := by
  rw [check_is, hp, ← hd, hdr, List.all_cons, hf]; rfl

set_option maxRecDepth 100000 in
set_option maxHeartbeats 8000000 in
theorem check_t {w : World} {B : Nat} {tw : Bool} {p : Pr} {v1 v2 : Value} (hB : B ≤ w.heap.size) (h1 : FuncsIn w (· < B) tw v1 p.funcs) (h2 : Nodes w (· < B) tw v2 p.body) :
    Calls Tryd.prog 14 #[.agg #[v1, v2]] w fun e w' => e = .returned (.bool (check wrapI p)) ∧ Below w.heap.size w w' := by
  have hA0 := Below.alloc (Below.refl w.heap.size w) (Nat.le_refl _) (.cells #[v1, v2] 37)
  obtain ⟨fs, hfs⟩ : ∃ fs, fs = p.funcs := ⟨_, rfl⟩
  rw [← hfs] at h1
  have HF := Lib.hid hfs.symm
  have H1 := Lib.hid (h1.below (hA0.mono hB))
  have H2 := Lib.hid (h2.below (hA0.mono hB))
  obtain ⟨a0, c0, rfl⟩ := h1.form
  obtain ⟨a9, c9, rfl⟩ := h2.form
  obtain ⟨_, _, ev, _, _, hr, _, hc⟩ := h1.below (hA0.mono hB)
  cases ev
  have HC := Lib.hid hc
  have l0 : (0 : Int) ≤ (fs.length : Int) := by omega
  have l1 : (fs.length : Int) ≤ 140737488351232 := by omega
  obtain ⟨bp, hbp⟩ : ∃ bp, bp = w.heap.size := ⟨_, rfl⟩
  obtain ⟨w0, hw0⟩ : ∃ w0, w0 = w.alloc (.cells #[.slice a0 fs.length c0, .slice a9 p.body.len c9] 37) := ⟨_, rfl⟩
  have hboxp : ∀ w1, Below w0.heap.size w0 w1 → w1.cell? ⟨bp, 0, none⟩ = some (.slice a0 fs.length c0) ∧ w1.cell? ⟨bp, 1, none⟩ = some (.slice a9 p.body.len c9) := by
    intro w1 hb1
    rw [hw0] at hb1
    rw [hbp]
    have q0 := box_later hb1 0
    have q1 := box_later hb1 1
    simp at q0 q1
    exact ⟨q0, q1⟩
  have HXP := Lib.hid hboxp
  rw [← hw0] at H1 H2 HC hA0
  have Y0 := Lib.hid hA0
  have HBB := Lib.hid (Nat.le_trans hB hA0.size)
  clear hboxp hA0 hc hr h1 h2 hfs hB
  go_enter Tryd.func14, Tryd.ntmps14
  go_upto_region 1 with fail
  rw [← hbp, ← hw0]
  clear hbp hw0
  obtain ⟨q0, _⟩ := HXP.out w0 (Below.refl _ _)
  go_wp2_with fail
  go_loopg [8] fs.length (fun gk v8 wr => CheckAt w0 fs gk v8 wr)
  case atStart => exact ⟨0, Nat.zero_le _, rfl, rfl, rfl, Below.refl _ _⟩
  case round =>
    obtain ⟨i, hi, rfl, rfl, hd, hb⟩ := hrel
    have i0 : (0 : Int) ≤ (i : Int) := by omega
    clear q0
    by_cases hlt : i < fs.length
    · have i1 : (i : Int) < (fs.length : Int) := by omega
      obtain ⟨b, off, v1, v2, rfl, hS, hN⟩ := HC.out i hlt
      have hN' := hN.frame hS fun k hk _ => hb.block k (Nat.lt_of_lt_of_le hk HBB.out)
      obtain ⟨f, hx⟩ : ∃ f, f = fs[i] := ⟨_, rfl⟩
      rw [← hx] at hN'
      have hdr := List.drop_eq_getElem_cons hlt
      rw [← hx] at hdr
      obtain ⟨fname, fargs, fbody⟩ := f
      have d0 := hN'.d0
      have d1 := hN'.d1
      have d2 := hN'.d2
      have ht := hN'.name
      have hA1 := hN'.args
      have hB1 := hN'.body
      obtain ⟨a1, c1, e1⟩ := hA1.form
      obtain ⟨a2, c2, e2⟩ := hB1.form
      subst e1
      subst e2
      simp only at d0 d1 d2 ht hA1 hB1
      have etx : tx fname = bs fname := rfl
      rw [etx] at d0
      have hBr : B ≤ wr.heap.size := Nat.le_trans HBB.out hb.size
      have hA := Below.alloc (Below.refl wr.heap.size wr) (Nat.le_refl _) (.cells #[.string (bs fname), .slice a1 fargs.length c1, .slice a2 fbody.len c2] 47)
      obtain ⟨bx, hbx⟩ : ∃ bx, bx = wr.heap.size := ⟨_, rfl⟩
      obtain ⟨w4, hw4⟩ : ∃ w4, w4 = wr.alloc (.cells #[.string (bs fname), .slice a1 fargs.length c1, .slice a2 fbody.len c2] 47) := ⟨_, rfl⟩
      have hbox : ∀ w1, Below w4.heap.size w4 w1 → w1.cell? ⟨bx, 0, none⟩ = some (.string (bs fname)) ∧ w1.cell? ⟨bx, 1, none⟩ = some (.slice a1 fargs.length c1) ∧ w1.cell? ⟨bx, 2, none⟩ = some (.slice a2 fbody.len c2) := by
        intro w1 hb1
        rw [hw4] at hb1
        rw [hbx]
        have q0 := box_later hb1 0
        have q1 := box_later hb1 1
        have q2 := box_later hb1 2
        simp at q0 q1 q2
        exact ⟨q0, q1, q2⟩
      have hAB := hA.mono hBr
      rw [← hw4] at hA hAB
      have HX := Lib.hid hbox
      have K4 := Lib.hid (hb.trans (hA.mono hb.size))
      have N1 := Lib.hid (hA1.below hAB)
      have N2 := Lib.hid (hB1.below hAB)
      have HDR := Lib.hid hdr
      have HD := Lib.hid hd
      have HBr := Lib.hid (Nat.le_trans hBr hA.size)
      have HT := Lib.hid (show fname.length ≤ 9223372036854775807 by omega)
      clear hN hN' hA hAB hbox hb hd hx hdr hS ht etx hBr hA1 hB1
      go_upto_region 4 with fail
      rw [← hbx, ← hw4]
      clear hbx hw4 d0 d1 d2
      obtain ⟨q0, q1, q2⟩ := HX.out w4 (Below.refl _ _)
      go_wp2_with fail
      refine name_t fname HT.out fun w5 hb5 => ?_
      have K5 := Lib.hid hb5
      obtain ⟨q0, q1, q2⟩ := HX.out w5 K5.out
      clear hb5
      cases hnm : To.name fname with
      | false =>
        have HN := Lib.hid (check_no HF.out HD.out HDR.out (by unfold fnOne; simp only; rw [hnm]; rfl))
        clear hnm
        go_wp2_with fail
        go_ret
        exact ⟨by rw [HN.out]; rfl, Y0.out.trans ((K4.out.trans (K5.out.mono K4.out.size)).mono Y0.out.size)⟩
      | true =>
        have HNM := Lib.hid hnm
        clear hnm
        go_wp2_with fail
        refine (containsT_said (fn := 25) (p := fun x => !To.name x) (Nat.le_trans HBr.out K5.out.size) (N1.out.below (K5.out.mono HBr.out)) (fun x _ => check1_one x) (fun _ _ => by kernel_rfl)).mono ?_
        rintro e w6 ⟨rfl, hb6⟩
        rw [not_names]
        have K6 := Lib.hid (K5.out.trans (hb6.mono K5.out.size))
        obtain ⟨q0, q1, q2⟩ := HX.out w6 K6.out
        clear hb6
        cases hna : fargs.all To.name with
        | false =>
          have HN := Lib.hid (check_no HF.out HD.out HDR.out (by unfold fnOne; simp only; rw [hna, Bool.and_false]; rfl))
          clear hna
          go_wp2_with fail
          go_ret
          exact ⟨by rw [HN.out]; rfl, Y0.out.trans ((K4.out.trans (K6.out.mono K4.out.size)).mono Y0.out.size)⟩
        | true =>
          have HNA := Lib.hid hna
          clear hna
          go_wp2_with fail
          refine (stmt_said tw true fbody w6 B _ (Nat.le_trans HBr.out K6.out.size) (N2.out.below (K6.out.mono HBr.out))).mono ?_
          rintro e w7 ⟨rfl, hb7⟩
          have K7 := Lib.hid (K4.out.trans ((K6.out.trans (hb7.mono K6.out.size)).mono K4.out.size))
          clear hb7
          cases hst : stmts true fbody with
          | false =>
            have HN := Lib.hid (check_no HF.out HD.out HDR.out (by unfold fnOne; simp only; rw [hst, Bool.and_false]))
            clear hst
            go_wp2_with fail
            go_ret
            exact ⟨by rw [HN.out]; rfl, Y0.out.trans (K7.out.mono Y0.out.size)⟩
          | true =>
            have HST := Lib.hid hst
            clear hst
            go_wp2_with fail
            go_roundg (fs.length - (i + 1))
            case measure => omega
            case rel =>
              refine ⟨i + 1, hlt, rfl, by go_num, ?_, K7.out⟩
              have hd := HD.out
              rw [HDR.out, List.all_cons, show fnOne ⟨fname, fargs, fbody⟩ = true by unfold fnOne; simp only; rw [HNM.out, HNA.out, HST.out]; rfl, Bool.true_and] at hd
              exact hd
    · have hie : i = fs.length := by omega
      have i1 : (fs.length : Int) ≤ (i : Int) := by omega
      have HALL := Lib.hid (show p.funcs.all fnOne = true by rw [HF.out, ← hd, hie, List.drop_length]; rfl)
      have K := Lib.hid hb
      obtain ⟨q0, q1⟩ := HXP.out wr hb
      clear hlt hie hd hb hi
      go_wp2_with fail
      refine (stmt_said tw false p.body wr B _ (Nat.le_trans HBB.out K.out.size) (H2.out.below (K.out.mono HBB.out))).mono ?_
      rintro e w7 ⟨rfl, hb7⟩
      have K7 := Lib.hid (K.out.trans (hb7.mono K.out.size))
      clear hb7
      obtain ⟨q0, q1⟩ := HXP.out w7 K7.out
      cases hst : stmts false p.body with
      | false =>
        have HN := Lib.hid (show check wrapI p = false by rw [check_is, hst, Bool.and_false]; rfl)
        clear hst
        go_wp2_with fail
        go_ret
        exact ⟨by rw [HN.out]; rfl, Y0.out.trans (K7.out.mono Y0.out.size)⟩
      | true =>
        have HN := Lib.hid (show check wrapI p = !greatP wrapI p by rw [check_is, hst, HALL.out]; rfl)
        have h1' := H1.out.below (K7.out.mono HBB.out)
        rw [← HF.out] at h1'
        have G := Lib.hid (great_t (p := p) (Nat.le_trans HBB.out K7.out.size) h1' (H2.out.below (K7.out.mono HBB.out)))
        rw [show p.funcs.length = fs.length by rw [HF.out]] at *
        clear hst h1'
        go_wp2_with fail
        refine G.out.mono ?_
        rintro e w8 ⟨rfl, hb8⟩
        have K8 := Lib.hid (K7.out.trans (hb8.mono K7.out.size))
        clear hb8
        go_wp2_with fail
        go_ret
        exact ⟨by rw [HN.out]; rfl, Y0.out.trans (K8.out.mono Y0.out.size)⟩
end Go.Proofs.YtobpnjnfpgcpaaaDoor

/- Shows: the text of a program. -/
namespace Go.Proofs.YtobpnjnfpgcpaaaDoor
open Go.RowKit Go.My Go.Nd

/-- strings.Join over texts as they come. -/
theorem joinA_t {tw : Bool} {w : World} {B : Nat} {v : Value} {ts : List Tx} {sep : Tx} (hB : B ≤ w.heap.size) (h : TextsIn w (· < B) tw v ts) (hlen : (sepx sep ts).length ≤ 140737488355328) :
    Calls Tryd.prog 20 #[v, .string (bs sep)] w fun e w' => e = .returned (.string (bs (sepx sep ts))) ∧ Below w.heap.size w w' := by
  obtain ⟨a, c, rfl, h1, h2, h3, _, h4⟩ := h
  by_cases h0 : ts = []
  · subst h0
    exact (Tryd.strings_Join_none a c (bs sep) w).mono fun e w' ⟨he, hw⟩ => ⟨he, hw ▸ Below.refl _ _⟩
  · have hpos : 0 < ts.length := List.length_pos_iff.2 h0
    obtain ⟨b, off, rfl, hb, _, _⟩ := h4 0 hpos
    refine joinO_t ts sep (fun j hj => ?_) (Nat.lt_of_lt_of_le hb hB) (by omega) h1 hlen
    obtain ⟨b', off', e, _, hc, _⟩ := h4 j hj
    cases e
    exact hc

/-- The functions' texts so far. -/
def upF (fs : List Nd.Fn) (i : Nat) : Tx := ((fs.take i).map fnText).flatten
theorem upF_step (fs : List Nd.Fn) (i : Nat) (h : i < fs.length) : upF fs (i + 1) = upF fs i ++ fnText fs[i] := by
  unfold upF
  rw [List.take_succ_eq_append_getElem h, List.map_append, List.flatten_append]
  simp
theorem upF_all (fs : List Nd.Fn) : upF fs fs.length = (fs.map fnText).flatten := by unfold upF; rw [List.take_length]
theorem upF_le (p : Pr) (i : Nat) : (upF p.funcs i).length ≤ (progText p).length := by
  unfold upF progText
  have : p.funcs = p.funcs.take i ++ p.funcs.drop i := (List.take_append_drop i _).symm
  conv => rhs; rw [this]
  rw [List.map_append, List.flatten_append, List.length_append, List.length_append]
  omega
theorem fsz_mem {fs : List Nd.Fn} : ∀ f ∈ fs, fsz f ≤ (fs.map fsz).sum := by
  induction fs with
  | nil => intro f hf; cases hf
  | cons g fs ih =>
    intro f hf
    rw [List.map_cons, List.sum_cons]
    rcases List.mem_cons.1 hf with rfl | hf
    · omega
    · have := ih f hf; omega

theorem joinSS {tw : Bool} {w w' : World} {B : Nat} {v : Value} {ts : List Tx} (hB : B ≤ w.heap.size) (h : TextsIn w (· < B) tw v ts) (hlen : (sepx [44, 32] ts).length ≤ 140737488355328) {X : Prop} (hS : X ∧ Below w.heap.size w w') :
    Calls Tryd.prog 20 #[v, .string ⟨#[44, 32]⟩] w' fun e w'' => e = .returned (.string (bs (sepx [44, 32] ts))) ∧ Below w'.heap.size w' w'' := joinA_t (Nat.le_trans hB hS.2.size) (h.below (hS.2.mono hB)) hlen
theorem linesSS {tw : Bool} {w w' : World} {B : Nat} {v : Value} {xs : Ns} (hB : B ≤ w.heap.size) (h : Nodes w (· < B) tw v xs) (hL : LinesOk tw xs) (hs : xs.sz ≤ 1048576) {X : Prop} (hS : X ∧ Below w.heap.size w w') :
    Calls Tryd.prog 21 #[v, .int .i64 1] w' fun e w'' => e = .returned (.string (bs (xs.lines 1))) ∧ Below w'.heap.size w' w'' := hL w' B v 1 1 rfl (Nat.le_trans hB hS.2.size) (h.below (hS.2.mono hB)) (by omega)

def TxAt (w : World) (fs : List Nd.Fn) (gk : Nat) (v4 v13 : Value) (wr : World) : Prop :=
  ∃ i : Nat, i ≤ fs.length ∧ gk = fs.length - i ∧ v4 = .string (bs (upF fs i)) ∧ v13 = .int .i64 (i : Int) ∧ Below w.heap.size w wr

set_option maxRecDepth 100000 in
set_option maxHeartbeats 8000000 in
theorem text_t {w : World} {B : Nat} {tw : Bool} {p : Pr} {v1 v2 : Value} (hB : B ≤ w.heap.size) (h1 : FuncsIn w (· < B) tw v1 p.funcs) (h2 : Nodes w (· < B) tw v2 p.body) (hs : psz p ≤ 1048576) :
    Calls Tryd.prog 10 #[.agg #[v1, v2]] w fun e w' => e = .returned (.tuple #[.string (bs (showP wrapI p).1), .int .i64 ((showP wrapI p).2 : Int)]) ∧ Below w.heap.size w w' := by
  have hA0 := Below.alloc (Below.refl w.heap.size w) (Nat.le_refl _) (.cells #[v1, v2] 37)
  have hsh := prog_short p hs
  have hup := upF_le p
  have hfz : ∀ f ∈ p.funcs, fsz f ≤ 1048576 := fun f hf => by have := fsz_mem f hf; unfold psz at hs; omega
  have hbz : p.body.sz ≤ 1048576 := by unfold psz at hs; omega
  obtain ⟨fs, hfs⟩ : ∃ fs, fs = p.funcs := ⟨_, rfl⟩
  rw [← hfs] at h1 hup hfz
  have HF := Lib.hid hfs.symm
  have HP := Lib.hid (And.intro hsh (And.intro hup (And.intro hfz hbz)))
  have H1 := Lib.hid (h1.below (hA0.mono hB))
  have H2 := Lib.hid (h2.below (hA0.mono hB))
  obtain ⟨a0, c0, rfl⟩ := h1.form
  obtain ⟨a9, c9, rfl⟩ := h2.form
  obtain ⟨_, _, ev, _, _, hr, _, hc⟩ := h1.below (hA0.mono hB)
  cases ev
  have HC := Lib.hid hc
  have l0 : (0 : Int) ≤ (fs.length : Int) := by omega
  have l1 : (fs.length : Int) ≤ 140737488351232 := by omega
  obtain ⟨bp, hbp⟩ : ∃ bp, bp = w.heap.size := ⟨_, rfl⟩
  obtain ⟨w0, hw0⟩ : ∃ w0, w0 = w.alloc (.cells #[.slice a0 fs.length c0, .slice a9 p.body.len c9] 37) := ⟨_, rfl⟩
  have hboxp : ∀ w1, Below w0.heap.size w0 w1 → w1.cell? ⟨bp, 0, none⟩ = some (.slice a0 fs.length c0) ∧ w1.cell? ⟨bp, 1, none⟩ = some (.slice a9 p.body.len c9) := by
    intro w1 hb1
    rw [hw0] at hb1
    rw [hbp]
    have q0 := box_later hb1 0
    have q1 := box_later hb1 1
    simp at q0 q1
    exact ⟨q0, q1⟩
  have HXP := Lib.hid hboxp
  rw [← hw0] at H1 H2 HC hA0
  have Y0 := Lib.hid hA0
  have HBB := Lib.hid (Nat.le_trans hB hA0.size)
  clear hboxp hA0 hc hr h1 h2 hfs hB hsh hup hfz hbz hs
  go_enter Tryd.func10, Tryd.ntmps10
  go_upto_region 1 with fail
  rw [← hbp, ← hw0]
  clear hbp hw0
  obtain ⟨q0, q1⟩ := HXP.out w0 (Below.refl _ _)
  go_wp2_with fail
  have h1' := H1.out
  rw [← HF.out] at h1'
  have hck := check_t (p := p) HBB.out h1' H2.out
  rw [HF.out] at hck
  refine hck.mono ?_
  clear hck h1' q0 q1
  rintro e w1 ⟨rfl, hb⟩
  have K1 := Lib.hid hb
  clear hb
  obtain ⟨cc, hcc⟩ : ∃ cc, cc = check wrapI p := ⟨_, rfl⟩
  rw [← hcc]
  have HCC := Lib.hid hcc.symm
  clear hcc
  obtain ⟨q0, q1⟩ := HXP.out w1 K1.out
  cases cc with
  | false =>
    have HR := Lib.hid (show showP wrapI p = ([], 1) by unfold showP; rw [HCC.out]; rfl)
    go_wp2_with fail
    go_ret2
    exact ⟨by rw [HR.out]; rfl, Y0.out.trans (K1.out.mono Y0.out.size)⟩
  | true =>
    have HOK := Lib.hid (check_parts HCC.out)
    go_wp2_with fail
    go_loopg [4, 13] fs.length (fun gk v4 v13 wr => TxAt w0 fs gk v4 v13 wr)
    case atStart => exact ⟨0, Nat.zero_le _, rfl, rfl, rfl, K1.out⟩
    case round =>
      obtain ⟨i, hi, rfl, rfl, rfl, hb⟩ := hrel
      have i0 : (0 : Int) ≤ (i : Int) := by omega
      have hd := True.intro
      clear q0 q1
      by_cases hlt : i < fs.length
      · have i1 : (i : Int) < (fs.length : Int) := by omega
        have hst := (HOK.out.1 _ (by rw [HF.out]; exact List.getElem_mem hlt) : okf fs[i] = true)
        have hfz := HP.out.2.2.1 _ (List.getElem_mem hlt)
        have hstep := upF_step fs i hlt
        have hle := HP.out.2.1 (i + 1)
        rw [hstep, List.length_append] at hle
        have hpl := HP.out.1
        obtain ⟨g, hg⟩ : ∃ g, g = fs[i] := ⟨_, rfl⟩
        rw [← hg] at hst hfz hstep hle
        obtain ⟨b, off, v1, v2, rfl, hS, hN⟩ := HC.out i hlt
        have hN' := hN.frame hS fun k hk _ => hb.block k (Nat.lt_of_lt_of_le hk HBB.out)
        obtain ⟨f, hx⟩ : ∃ f, f = fs[i] := ⟨_, rfl⟩
        rw [← hx] at hN'
        have hdr := List.drop_eq_getElem_cons hlt
        rw [← hx] at hdr
        obtain ⟨fname, fargs, fbody⟩ := f
        have d0 := hN'.d0
        have d1 := hN'.d1
        have d2 := hN'.d2
        have ht := hN'.name
        have hA1 := hN'.args
        have hB1 := hN'.body
        obtain ⟨a1, c1, e1⟩ := hA1.form
        obtain ⟨a2, c2, e2⟩ := hB1.form
        subst e1
        subst e2
        simp only at d0 d1 d2 ht hA1 hB1
        have etx : tx fname = bs fname := rfl
        rw [etx] at d0
        have hBr : B ≤ wr.heap.size := Nat.le_trans HBB.out hb.size
        have hA := Below.alloc (Below.refl wr.heap.size wr) (Nat.le_refl _) (.cells #[.string (bs fname), .slice a1 fargs.length c1, .slice a2 fbody.len c2] 47)
        obtain ⟨bx, hbx⟩ : ∃ bx, bx = wr.heap.size := ⟨_, rfl⟩
        obtain ⟨w4, hw4⟩ : ∃ w4, w4 = wr.alloc (.cells #[.string (bs fname), .slice a1 fargs.length c1, .slice a2 fbody.len c2] 47) := ⟨_, rfl⟩
        have hbox : ∀ w1, Below w4.heap.size w4 w1 → w1.cell? ⟨bx, 0, none⟩ = some (.string (bs fname)) ∧ w1.cell? ⟨bx, 1, none⟩ = some (.slice a1 fargs.length c1) ∧ w1.cell? ⟨bx, 2, none⟩ = some (.slice a2 fbody.len c2) := by
          intro w1 hb1
          rw [hw4] at hb1
          rw [hbx]
          have q0 := box_later hb1 0
          have q1 := box_later hb1 1
          have q2 := box_later hb1 2
          simp at q0 q1 q2
          exact ⟨q0, q1, q2⟩
        have hAB := hA.mono hBr
        rw [← hw4] at hA hAB
        have HX := Lib.hid hbox
        have K4 := Lib.hid (hb.trans (hA.mono hb.size))
        have N1 := Lib.hid (hA1.below hAB)
        have N2 := Lib.hid (hB1.below hAB)
        have HDR := Lib.hid hdr
        have HD := Lib.hid hd
        have HBr := Lib.hid (Nat.le_trans hBr hA.size)
        have HT := Lib.hid (show fname.length ≤ 9223372036854775807 by omega)
        clear hN hN' hA hAB hbox hb hd hx hdr hS ht etx hBr hA1 hB1
        have hfe : g = ⟨fname, fargs, fbody⟩ := by
          rw [hg]
          have h := (List.drop_eq_getElem_cons hlt).symm.trans HDR.out
          exact (List.cons.inj h).1
        subst hfe
        clear hg HDR HD
        obtain ⟨u, hu⟩ : ∃ u, u = upF fs i := ⟨_, rfl⟩
        rw [← hu] at hstep hle ⊢
        obtain ⟨r, hr⟩ : ∃ r, r = fnText ⟨fname, fargs, fbody⟩ := ⟨_, rfl⟩
        rw [← hr] at hstep hle
        have hadd : ∀ wx, (Op.stringOp .add (bs u) (bs r)).run Tryd.prog wx = .ok (.string (bs (u ++ r))) wx := add_any u r (by omega)
        have hbo : stmts true fbody = true := by
          unfold okf at hst
          simp only [Bool.and_eq_true] at hst
          exact hst.2
        have hLB : LinesOk tw fbody := lines_ok fbody (by unfold fsz at hfz; simp only at hfz; omega) hbo
        have hbz : fbody.sz ≤ 1048576 := by unfold fsz at hfz; simp only at hfz; omega
        have hrl := congrArg List.length hr
        unfold fnText at hrl
        simp only [List.length_append, List.length_cons, List.length_nil] at hrl
        have hr' : r = [102, 110, 32] ++ fname ++ [40] ++ sepx [44, 32] fargs ++ [41, 32, 123, 10] ++ fbody.lines 1 ++ [125, 10] := hr
        have HL := Lib.hid (And.intro hLB (And.intro hbz (And.intro hrl (And.intro hr' (And.intro hle hpl)))))
        have HST := Lib.hid (And.intro hstep hlt)
        have HJ := Lib.hid (show (sepx [44, 32] fargs).length ≤ 140737488355328 by omega)
        clear hLB hbz hrl hr' hr hbo hst hfz hstep hle hpl hu hlt
        go_upto_region 7 with fail
        rw [← hbx, ← hw4]
        clear hbx hw4 d0 d1 d2
        have KS := Lib.hid (fun (w' : World) (hb : Below w4.heap.size w4 w') => HX.out w' hb)
        go_region_held3 (fun w' => (w'.cell? ⟨bx, 0, none⟩ = some (.string (bs fname)) ∧ w'.cell? ⟨bx, 1, none⟩ = some (.slice a1 fargs.length c1) ∧ w'.cell? ⟨bx, 2, none⟩ = some (.slice a2 fbody.len c2)) ∧ Below w4.heap.size w4 w')
          (first | assumption | exact ⟨KS.out _ (Below.refl _ _).drew, (Below.refl _ _).drew⟩ | exact ⟨KS.out _ (keepW (by assumption) (by assumption)), keepW (by assumption) (by assumption)⟩ | exact ⟨KS.out _ (keepO _ (by assumption)), keepO _ (by assumption)⟩)
          (first
            | (go_at_call 20; refine (joinSS HBr.out N1.out HJ.out (by assumption)).mono ?_; rintro e w'' ⟨rfl, hk⟩)
            | (go_at_call 21; refine (linesSS HBr.out N2.out HL.out.1 HL.out.2.1 (by assumption)).mono ?_; rintro e w'' ⟨rfl, hk⟩)
            | (go_at_call 19; refine (joined_t (T := 9) [[102, 110, 32], fname, [40], sepx [44, 32] fargs, [41, 32, 123, 10], fbody.lines 1, [125, 10]] (heap_alloc_new _ _) (by simp) (n := 7) rfl (by have := HL.out.2.2; simp only [List.flatten_cons, List.flatten_nil, List.length_append, List.length_cons, List.length_nil]; omega) (r := r) (by rw [HL.out.2.2.2.1]; simp)).mono ?_; rintro e w'' ⟨rfl, hk⟩))
        rename_i hH
        have K5 := Lib.hid (K4.out.trans (hH.2.mono K4.out.size))
        clear hH
        go_wp2_with fail
        go_roundg (fs.length - (i + 1))
        case measure => have := HST.out.2; omega
        case rel => exact ⟨i + 1, HST.out.2, rfl, by rw [HST.out.1], by go_num, K5.out⟩
      · obtain rfl : i = fs.length := by omega
        have HU := Lib.hid (upF_all fs)
        have K := Lib.hid hb
        obtain ⟨q0, q1⟩ := HXP.out wr hb
        clear hlt hb hi hd
        have HPT := Lib.hid (show progText p = upF fs fs.length ++ p.body.lines 0 by rw [HU.out, ← HF.out]; rfl)
        generalize upF fs fs.length = u at *
        have hpl := HP.out.1
        rw [HPT.out, List.length_append] at hpl
        obtain ⟨r, hr⟩ : ∃ r, r = p.body.lines 0 := ⟨_, rfl⟩
        have HR := Lib.hid hr
        rw [← hr] at hpl
        have hadd : ∀ wx, (Op.stringOp .add (bs u) (bs r)).run Tryd.prog wx = .ok (.string (bs (u ++ r))) wx := add_any u r (by omega)
        have hsz : (bs (u ++ r)).size = (u ++ r).length := bs_size _
        clear hr
        go_wp2_with fail
        refine (lines_ok p.body HP.out.2.2.2 HOK.out.2.1 wr B _ 0 _ rfl (Nat.le_trans HBB.out K.out.size) (H2.out.below (K.out.mono HBB.out)) (by have := HP.out.2.2.2; omega)).mono ?_
        rintro e w7 ⟨rfl, hb7⟩
        rw [← HR.out]
        have K7 := Lib.hid (Y0.out.trans ((K.out.trans (hb7.mono K.out.size)).mono Y0.out.size))
        clear hb7 q0 q1
        have HT := Lib.hid (show progText p = u ++ r by rw [HPT.out, HR.out])
        by_cases hl : 65536 < (u ++ r).length
        · have hl' : (65536 : Int) < ((bs (u ++ r)).size : Int) := by rw [hsz]; omega
          have HRR := Lib.hid (show showP wrapI p = ([], 3) by unfold showP; rw [HCC.out, HT.out, if_pos hl]; rfl)
          clear hsz hl
          go_wp2_with fail
          go_ret2
          exact ⟨by rw [HRR.out]; rfl, K7.out⟩
        · have hl' : ((bs (u ++ r)).size : Int) ≤ 65536 := by rw [hsz]; omega
          have HRR := Lib.hid (show showP wrapI p = (u ++ r, 0) by unfold showP; rw [HCC.out, HT.out, if_neg hl]; rfl)
          clear hsz hl
          go_wp2_with fail
          go_ret2
          exact ⟨by rw [HRR.out]; rfl, K7.out⟩
end Go.Proofs.YtobpnjnfpgcpaaaDoor

/- Arguments, opened: slices of slices of bytes, with the reach. No program in sight. -/
namespace Go.My
open Go.RowKit

/-- What a datum weighs, each part by itself, is within the reach. -/
def Light {H : Type} (P : Program) (t : TypeId) (d : DataW H) : Prop := ∀ n ∈ d.weights P t, n ≤ reachBytes

theorem light_of_all {H : Type} {P : Program} : ∀ (ts us : List TypeId) (ds es : List (DataW H)), ts.length = ds.length → (DataW.weightsEach P (ts ++ us) (ds ++ es)).all (· ≤ reachBytes) = true →
    ∀ (j : Nat) (t : TypeId) (d : DataW H), ts[j]? = some t → ds[j]? = some d → Light P t d := by
  intro ts
  induction ts with
  | nil => intro us ds es _ _ j t d h; simp at h
  | cons t0 ts ih =>
    intro us ds es hl h j t d ht hd
    cases ds with
    | nil => simp at hl
    | cons d0 ds =>
      simp only [List.cons_append, DataW.weightsEach, List.all_append, Bool.and_eq_true] at h
      cases j with
      | zero =>
        simp at ht hd
        subst ht; subst hd
        intro n hn
        have := List.all_eq_true.1 h.1 n hn
        simpa using this
      | succ j =>
        simp only [List.getElem?_cons_succ] at ht hd
        exact ih us ds es (by simpa using hl) h.2 j t d ht hd

theorem light_all {H : Type} {P : Program} {e : TypeId} : ∀ {l : List (DataW H)}, (∀ n ∈ DataW.weightsAll P e l, n ≤ reachBytes) → ∀ d ∈ l, Light P e d := by
  intro l
  induction l with
  | nil => intro _ d h; cases h
  | cons x l ih =>
    intro h d hd
    simp only [DataW.weightsAll, List.mem_append] at h
    rcases List.mem_cons.1 hd with rfl | hd
    · exact fun n hn => h n (.inl hn)
    · exact ih (fun n hn => h n (.inr hn)) d hd

theorem Light.slice {H : Type} {P : Program} {t e : TypeId} {xs ys : List (DataW H)} (h : Light P t (.slice xs ys)) (ht : P.underlying t = some (.slice e)) :
    (xs.length + ys.length) * P.bytesOf e ≤ reachBytes ∧ ∀ d ∈ xs, Light P e d := by
  unfold Light at h
  simp only [DataW.weights, ht, List.mem_cons, List.mem_append] at h
  exact ⟨h _ (.inl rfl), light_all fun n hn => h n (.inr (.inl hn))⟩

open Go.ChangeShapes Go.WideShapes Go.ChangeAt Go.Deep in
theorem frames_of_trod {H : Type} {enc : TypeId × Value → H} {P : Program} {W : World} {base : Nat} {t e q : TypeId} {v : Value} {d : DataW H} {p : List MemPlace}
    (ht : P.underlying t = some (.slice e)) (he : P.underlying e = some (.slice q)) (hq : P.underlying q = some (.int .u8)) (ce : P.cellsOf e = 1) (cq : P.cellsOf q = 1) (bq : P.bytesOf q = 1)
    (hok : Value.okWide P W .any base t v) (h : DataW.Trod enc P W 0 (fun _ => true) true t v d p) (hw : Light P t d) : ∃ ls : List (List UInt8), FramesIn W (fun b => b < W.heap.size) v ls ∧ ∀ l ∈ ls, l.length ≤ 140737488351232 := by
  obtain ⟨a, len, cap, rfl⟩ := okWide_slice ht hok
  obtain ⟨fuel, hf⟩ := h
  rcases open_int_rows ht he hq ce cq hf with ⟨hcs, _⟩ | ⟨x, l, c, A, L, C, Z, hcs, _, hl, hm, hx, hr⟩
  · simp [Value.cells] at hcs
    obtain ⟨rfl, rfl, rfl⟩ := hcs
    exact ⟨[], FramesIn.nil _ _, fun l h => by cases h⟩
  · simp [Value.cells] at hcs
    obtain ⟨rfl, rfl, rfl⟩ := hcs
    simp only [Prod.mk.injEq] at hx
    rw [hx.1] at hw
    have hd := (hw.slice ht).2
    -- each row
    have each : ∀ r, r < len → ∃ b : List UInt8, BytesIn W (fun b => b < W.heap.size) (.slice (A r) (L r) (C r)) b ∧ b.length ≤ 140737488351232 := by
      intro r hlt
      obtain ⟨hcell, h1, h2, h3, h4, h5, h6⟩ := hr r (by omega)
      obtain ⟨bs, hbs⟩ := bytes_of_ints h4
      have hzl : bs.length = C r := by rw [← h3, hbs, List.length_map]
      have hlight := hd _ (List.mem_map.2 ⟨r, List.mem_range.2 hlt, rfl⟩)
      cases hA : A r with
      | none =>
        have hC := h5 hA
        have hL : L r = 0 := by omega
        rw [hC, hL]
        exact ⟨[], BytesIn.nil _ _, by simp⟩
      | some a' =>
        have hb := (Light.slice (by rw [hA] at hlight; exact hlight) he).1
        rw [bq] at hb
        have hlen : (bs.take (L r)).length = L r := by rw [List.length_take]; omega
        refine ⟨bs.take (L r), ⟨some a', C r, by rw [List.length_map, hlen], by rw [List.length_map, hlen]; exact h1, h2, (fun e => by cases e), fun hne => ?_⟩, ?_⟩
        · have hpos : 0 < L r := by
            rcases Nat.eq_zero_or_pos (L r) with h0 | h0
            · rw [h0] at hne; simp at hne
            · exact h0
          obtain ⟨_, hcl⟩ := h6 a' hA
          have h0 := hcl 0 (by omega)
          obtain ⟨b, off, spot⟩ := a'
          have hspot : spot = none := by simpa [Addr.add] using World.cell?_spot h0
          subst hspot
          refine ⟨b, off, rfl, by simpa [add_none] using World.block_lt_of_cell? W _ h0, fun j u hu => ?_⟩
          have hj : j < L r := by have := (List.getElem?_eq_some_iff.1 hu).1; rw [List.length_map, hlen] at this; exact this
          have := hcl j (by omega)
          rw [add_none] at this
          rw [this, ← hu, List.getElem?_map, List.getElem?_take, if_pos hj, hbs]
          rw [List.getD_eq_getElem?_getD, List.getElem?_map]
          have hjb : j < bs.length := by omega
          simp [hjb, byteCell]
        · rw [hlen]
          simp [lits, hbs, hzl, reachBytes] at hb
          omega
    obtain ⟨y, hy⟩ := choose_lt each
    refine ⟨(List.range len).map y, ⟨(List.range len).map fun r => .slice (A r) (L r) (C r), ⟨some x, cap, by simp, by simp; exact hl, hm, (fun e => by cases e), fun hne => ?_⟩, by simp, fun j hj hj' => ?_⟩, fun l hl => ?_⟩
    · have hpos : 0 < len := by
        rcases Nat.eq_zero_or_pos len with h0 | h0
        · subst h0; simp at hne
        · exact h0
      have h0 := (hr 0 (by omega)).1
      obtain ⟨b, off, spot⟩ := x
      have hspot : spot = none := by simpa [Addr.add] using World.cell?_spot h0
      subst hspot
      refine ⟨b, off, rfl, by simpa [add_none] using World.block_lt_of_cell? W _ h0, fun j u hu => ?_⟩
      have hj : j < len := by have := (List.getElem?_eq_some_iff.1 hu).1; simpa using this
      have := (hr j (by omega)).1
      rw [add_none] at this
      rw [this, ← hu]
      simp [hj]
    · have hj2 : j < len := by simpa using hj
      simp only [List.getElem_map, List.getElem_range]
      exact (hy j hj2).1
    · obtain ⟨r, hr, rfl⟩ := List.mem_map.1 hl
      exact (hy r (List.mem_range.1 hr)).2
end Go.My

/- Arguments, opened: the fields of a struct that is handed in by value. No program in sight. -/
namespace Go.My
open Go.RowKit

open Go.ChangeShapes Go.WideShapes Go.ChangeAt in
theorem bytes_of_cell {H : Type} {enc : TypeId × Value → H} {P : Program} {W : World} {n0 : Nat} {t e : TypeId} {v : Value} {y0 : DataW H × List MemPlace} (ht : P.underlying t = some (.slice e)) (he : P.underlying e = some (.int .u8)) (ce : P.cellsOf e = 1)
    (hf : DataW.trod enc P W 0 (fun _ => true) true n0 t [v] = some y0) : ∃ l : List UInt8, BytesIn W (fun b => b < W.heap.size) v l := by
  obtain ⟨a, len, cap, ev⟩ := Go.Joins.slice_form ht hf
  obtain rfl : v = .slice a len cap := by simpa using ev
  rcases open_ints ht he ce hf with ⟨hcs, _⟩ | ⟨x, l, c, zs, hcs, _, hl, hm, hz, _, hcell, hwz⟩
  · simp at hcs
    obtain ⟨rfl, rfl, rfl⟩ := hcs
    exact ⟨[], BytesIn.nil _ _⟩
  · simp at hcs
    obtain ⟨rfl, rfl, rfl⟩ := hcs
    simp only [if_true] at hz
    obtain ⟨bs, rfl⟩ := bytes_of_ints hwz
    rw [List.length_map] at hz
    refine ⟨bs.take len, some x, cap, by simp; omega, by simp; omega, hm, (fun e => by cases e), fun hne => ?_⟩
    have hlen : 0 < len := by
      rcases Nat.eq_zero_or_pos len with h0 | h0
      · subst h0; simp at hne
      · exact h0
    have h0 := hcell 0 (by simp; omega)
    obtain ⟨b, off, spot⟩ := x
    have hspot : spot = none := by simpa [Addr.add] using World.cell?_spot h0
    subst hspot
    refine ⟨b, off, rfl, by simpa [add_none] using World.block_lt_of_cell? W _ h0, fun j u hu => ?_⟩
    have hj : j < bs.length := by have := (List.getElem?_eq_some_iff.1 hu).1; simp at this; omega
    have := hcell j (by simpa using hj)
    rw [add_none] at this
    rw [this, ← hu, List.getElem?_map, List.getElem?_take]
    rw [if_pos (by have := (List.getElem?_eq_some_iff.1 hu).1; simp at this; omega)]
    simp [hj, byteCell]

open Go.ChangeShapes Go.WideShapes Go.ChangeAt Go.Deep in
theorem frames_of_cell {H : Type} {enc : TypeId × Value → H} {P : Program} {W : World} {n0 : Nat} {t e q : TypeId} {v : Value} {y0 : DataW H × List MemPlace}
    (ht : P.underlying t = some (.slice e)) (he : P.underlying e = some (.slice q)) (hq : P.underlying q = some (.int .u8)) (ce : P.cellsOf e = 1) (cq : P.cellsOf q = 1) (bq : P.bytesOf q = 1)
    (hf : DataW.trod enc P W 0 (fun _ => true) true n0 t [v] = some y0) (hw : Light P t y0.1) : ∃ ls : List (List UInt8), FramesIn W (fun b => b < W.heap.size) v ls ∧ ∀ l ∈ ls, l.length ≤ 140737488351232 := by
  obtain ⟨a, len, cap, ev⟩ := Go.Joins.slice_form ht hf
  obtain rfl : v = .slice a len cap := by simpa using ev
  rcases open_int_rows ht he hq ce cq hf with ⟨hcs, _⟩ | ⟨x, l, c, A, L, C, Z, hcs, _, hl, hm, hx, hr⟩
  · simp at hcs
    obtain ⟨rfl, rfl, rfl⟩ := hcs
    exact ⟨[], FramesIn.nil _ _, fun l h => by cases h⟩
  · simp at hcs
    obtain ⟨rfl, rfl, rfl⟩ := hcs
    subst hx
    simp only at hw
    have hd := (hw.slice ht).2
    -- each row
    have each : ∀ r, r < len → ∃ b : List UInt8, BytesIn W (fun b => b < W.heap.size) (.slice (A r) (L r) (C r)) b ∧ b.length ≤ 140737488351232 := by
      intro r hlt
      obtain ⟨hcell, h1, h2, h3, h4, h5, h6⟩ := hr r (by omega)
      obtain ⟨bs, hbs⟩ := bytes_of_ints h4
      have hzl : bs.length = C r := by rw [← h3, hbs, List.length_map]
      have hlight := hd _ (List.mem_map.2 ⟨r, List.mem_range.2 hlt, rfl⟩)
      cases hA : A r with
      | none =>
        have hC := h5 hA
        have hL : L r = 0 := by omega
        rw [hC, hL]
        exact ⟨[], BytesIn.nil _ _, by simp⟩
      | some a' =>
        have hb := (Light.slice (by rw [hA] at hlight; exact hlight) he).1
        rw [bq] at hb
        have hlen : (bs.take (L r)).length = L r := by rw [List.length_take]; omega
        refine ⟨bs.take (L r), ⟨some a', C r, by rw [List.length_map, hlen], by rw [List.length_map, hlen]; exact h1, h2, (fun e => by cases e), fun hne => ?_⟩, ?_⟩
        · have hpos : 0 < L r := by
            rcases Nat.eq_zero_or_pos (L r) with h0 | h0
            · rw [h0] at hne; simp at hne
            · exact h0
          obtain ⟨_, hcl⟩ := h6 a' hA
          have h0 := hcl 0 (by omega)
          obtain ⟨b, off, spot⟩ := a'
          have hspot : spot = none := by simpa [Addr.add] using World.cell?_spot h0
          subst hspot
          refine ⟨b, off, rfl, by simpa [add_none] using World.block_lt_of_cell? W _ h0, fun j u hu => ?_⟩
          have hj : j < L r := by have := (List.getElem?_eq_some_iff.1 hu).1; rw [List.length_map, hlen] at this; exact this
          have := hcl j (by omega)
          rw [add_none] at this
          rw [this, ← hu, List.getElem?_map, List.getElem?_take, if_pos hj, hbs]
          rw [List.getD_eq_getElem?_getD, List.getElem?_map]
          have hjb : j < bs.length := by omega
          simp [hjb, byteCell]
        · rw [hlen]
          simp [lits, hbs, hzl, reachBytes] at hb
          omega
    obtain ⟨y, hy⟩ := choose_lt each
    refine ⟨(List.range len).map y, ⟨(List.range len).map fun r => .slice (A r) (L r) (C r), ⟨some x, cap, by simp, by simp; exact hl, hm, (fun e => by cases e), fun hne => ?_⟩, by simp, fun j hj hj' => ?_⟩, fun l hl => ?_⟩
    · have hpos : 0 < len := by
        rcases Nat.eq_zero_or_pos len with h0 | h0
        · subst h0; simp at hne
        · exact h0
      have h0 := (hr 0 (by omega)).1
      obtain ⟨b, off, spot⟩ := x
      have hspot : spot = none := by simpa [Addr.add] using World.cell?_spot h0
      subst hspot
      refine ⟨b, off, rfl, by simpa [add_none] using World.block_lt_of_cell? W _ h0, fun j u hu => ?_⟩
      have hj : j < len := by have := (List.getElem?_eq_some_iff.1 hu).1; simpa using this
      have := (hr j (by omega)).1
      rw [add_none] at this
      rw [this, ← hu]
      simp [hj]
    · have hj2 : j < len := by simpa using hj
      simp only [List.getElem_map, List.getElem_range]
      exact (hy j hj2).1
    · obtain ⟨r, hr, rfl⟩ := List.mem_map.1 hl
      exact (hy r (List.mem_range.1 hr)).2

theorem light_each {H : Type} {P : Program} : ∀ (ts : List TypeId) (ds : List (DataW H)), (∀ n ∈ DataW.weightsEach P ts ds, n ≤ reachBytes) → ∀ (j : Nat) (t : TypeId) (d : DataW H), ts[j]? = some t → ds[j]? = some d → Light P t d := by
  intro ts
  induction ts with
  | nil => intro ds _ j t d h; simp at h
  | cons t0 ts ih =>
    intro ds h j t d ht hd
    cases ds with
    | nil => simp at hd
    | cons d0 ds =>
      simp only [DataW.weightsEach, List.mem_append] at h
      cases j with
      | zero => simp at ht hd; subst ht; subst hd; exact fun n hn => h n (.inl hn)
      | succ j => simp only [List.getElem?_cons_succ] at ht hd; exact ih ds (fun n hn => h n (.inr hn)) j t d ht hd

theorem Light.fields {H : Type} {P : Program} {t : TypeId} {fs : Array Field} {ds : List (DataW H)} (h : Light P t (.agg ds)) (ht : P.underlying t = some (.struct fs)) : ∀ (j : Nat) (u : TypeId) (d : DataW H), (fs.toList.map (·.type))[j]? = some u → ds[j]? = some d → Light P u d := by
  unfold Light at h
  simp only [DataW.weights, ht] at h
  exact light_each _ _ h
end Go.My

/- Arguments, opened: programs as trees. No program in sight. -/
namespace Go.My
open Go.RowKit Go.Nd

/-- The types of a node, as the program numbers them: a list of nodes, a node, its kind, a string. -/
structure NodeTypes (P : Program) (tl tn tk ts : TypeId) : Prop where
  l : P.underlying tl = some (.slice tn)
  n : ∃ f0 f1 f2 f3 f4, P.underlying tn = some (.struct #[f0, f1, f2, f3, f4]) ∧ f0.type = tk ∧ f0.offset = 0 ∧ f1.type = ts ∧ f1.offset = 1 ∧ f2.type = tl ∧ f2.offset = 2 ∧ f3.type = tl ∧ f3.offset = 3 ∧ f4.type = tl ∧ f4.offset = 4
  k : P.underlying tk = some (.int .u8)
  s : P.underlying ts = some .string
  cn : P.cellsOf tn = 5
  ck : P.cellsOf tk = 1
  cs : P.cellsOf ts = 1
  cl : P.cellsOf tl = 1
  bn : P.bytesOf tn = 96

theorem list5 {cs : List Value} (h : cs.length = 5) : ∃ c0 c1 c2 c3 c4, cs = [c0, c1, c2, c3, c4] := by
  match cs, h with
  | [c0, c1, c2, c3, c4], _ => exact ⟨c0, c1, c2, c3, c4, rfl⟩
theorem list5' {α : Type} {cs : List α} (h : cs.length = 5) : ∃ c0 c1 c2 c3 c4, cs = [c0, c1, c2, c3, c4] := by
  match cs, h with
  | [c0, c1, c2, c3, c4], _ => exact ⟨c0, c1, c2, c3, c4, rfl⟩

/-- The five cells of one node, read. -/
theorem node_cells {H : Type} {enc : TypeId × Value → H} {P : Program} {W : World} {tl tn tk ts : TypeId} (T : NodeTypes P tl tn tk ts) {n : Nat} {cs : List Value} {y : DataW H × List MemPlace}
    (h : DataW.trod enc P W 0 (fun _ => true) true n tn cs = some y) (hw : Light P tn y.1) :
    ∃ (m k : Nat) (t : List UInt8) (v1 v2 v3 : Value) (y1 y2 y3 : DataW H × List MemPlace), n = m + 1 ∧ cs = [.int .u8 (k : Int), .string (tx t), v1, v2, v3] ∧ k < 256 ∧ t.length ≤ 140737488351232 ∧
      DataW.trod enc P W 0 (fun _ => true) true m tl [v1] = some y1 ∧ DataW.trod enc P W 0 (fun _ => true) true m tl [v2] = some y2 ∧ DataW.trod enc P W 0 (fun _ => true) true m tl [v3] = some y3 ∧
      Light P tl y1.1 ∧ Light P tl y2.1 ∧ Light P tl y3.1 := by
  obtain ⟨f0, f1, f2, f3, f4, hn, e0, o0, e1, o1, e2, o2, e3, o3, e4, o4⟩ := T.n
  obtain ⟨xs, m, rfl, rfl, hc, hx, hf⟩ := DataW.trod_struct hn h
  rw [T.cn] at hc
  obtain ⟨c0, c1, c2, c3, c4, rfl⟩ := list5 hc
  obtain ⟨y0, y1, y2, y3, y4, rfl⟩ := list5' (show xs.length = 5 from hx)
  have g0 := hf 0 f0 rfl
  have g1 := hf 1 f1 rfl
  have g2 := hf 2 f2 rfl
  have g3 := hf 3 f3 rfl
  have g4 := hf 4 f4 rfl
  rw [e0, o0, T.ck] at g0
  rw [e1, o1, T.cs] at g1
  rw [e2, o2, T.cl] at g2
  rw [e3, o3, T.cl] at g3
  rw [e4, o4, T.cl] at g4
  obtain ⟨z, hz, hy0, hwf⟩ := DataW.trod_int T.k (show DataW.trod enc P W 0 (fun _ => true) true m tk [c0] = some y0 from g0)
  obtain ⟨s, hs, hy1, _⟩ := DataW.trod_string T.s (show DataW.trod enc P W 0 (fun _ => true) true m ts [c1] = some y1 from g1)
  have hl := hw.fields hn
  have l1 := hl 1 ts y1.1 (by simp [e1]) rfl
  have l2 := hl 2 tl y2.1 (by simp [e2]) rfl
  have l3 := hl 3 tl y3.1 (by simp [e3]) rfl
  have l4 := hl 4 tl y4.1 (by simp [e4]) rfl
  have hz' : c0 = .int .u8 z := by simpa using hz
  have hs' : c1 = .string s := by simpa using hs
  simp [Lit.wf, IntKind.min, IntKind.max, IntKind.signed, IntKind.bits] at hwf
  refine ⟨m, z.toNat, s.data.toList, c2, c3, c4, y2, y3, y4, rfl, ?_, by omega, ?_, g2, g3, g4, l2, l3, l4⟩
  · have : ((z.toNat : Nat) : Int) = z := by omega
    rw [hz', hs', this]; rfl
  · have := l1 s.data.toList.length (by rw [hy1]; simp [DataW.weights])
    simpa [reachBytes] using this

/-- A list of nodes that comes in. -/
theorem nodes_of_trod {H : Type} {enc : TypeId × Value → H} {P : Program} {W : World} {tl tn tk ts : TypeId} (T : NodeTypes P tl tn tk ts) :
    ∀ (n : Nat) (v : Value) (y : DataW H × List MemPlace), DataW.trod enc P W 0 (fun _ => true) true n tl [v] = some y → Light P tl y.1 → ∃ xs : Ns, Nodes W (fun b => b < W.heap.size) false v xs := by
  intro n
  induction n using Nat.strongRecOn with
  | _ n ih =>
    intro v y h hw
    rcases DataW.trod_slice T.l h with ⟨hv, hy⟩ | ⟨a, len, cap, elems, rest, n', rfl, hv, hy, _, hlc, hcm, hel, helem, hrest, _⟩
    · obtain rfl : v = .slice none 0 0 := by simpa using hv
      exact ⟨.nil, none, 0, rfl, ⟨Nat.le_refl _, Nat.zero_le _, by decide, fun e => by cases e⟩, .nil none (fun e => by cases e)⟩
    · obtain rfl : v = .slice (some a) len cap := by simpa using hv
      rw [hy] at hw
      obtain ⟨hb, hd⟩ := hw.slice T.l
      rw [T.bn] at hb
      obtain ⟨hrl, _⟩ := hrest rfl
      have hlen : len * 96 ≤ 140737488351232 := by
        have h1 : (elems.map (·.1)).length = len := by simpa using hel
        rw [h1] at hb
        have h2 : len * 96 ≤ (len + (rest.map (·.1)).length) * 96 := Nat.mul_le_mul_right _ (Nat.le_add_right _ _)
        exact Nat.le_trans h2 hb
      rw [T.cn] at helem
      -- each node
      have each : ∀ i, i < len → ∃ (k : Nat) (t : List UInt8) (l body els : Ns) (a1 a2 a3 : Option Addr) (c1 c2 c3 : Nat), k < 256 ∧ t.length ≤ 140737488351232 ∧ (∀ j, j < 5 → W.cell? ((a.add (i * 5)).add j) = [Value.int .u8 (k : Int), .string (tx t), .slice a1 l.len c1, .slice a2 body.len c2, .slice a3 els.len c3][j]?) ∧
          Room false l.len c1 ∧ Room false body.len c2 ∧ Room false els.len c3 ∧ NodesAt W (fun b => b < W.heap.size) false a1 l ∧ NodesAt W (fun b => b < W.heap.size) false a2 body ∧ NodesAt W (fun b => b < W.heap.size) false a3 els := by
        intro i hi
        have h1 := helem i hi
        have hie : i < elems.length := by omega
        rw [List.getElem?_eq_getElem hie] at h1
        cases hc : W.cells? 0 (a.add (i * 5)) 5 with
        | none => rw [hc] at h1; cases h1
        | some cs =>
          rw [hc] at h1
          have h1' : DataW.trod enc P W 0 (fun _ => true) true n' tn cs = some elems[i] := h1
          obtain ⟨m, k, t, v1, v2, v3, y1, y2, y3, rfl, rfl, hk, ht, q1, q2, q3, l1, l2, l3⟩ := node_cells T h1' (hd _ (List.mem_map.2 ⟨_, List.getElem_mem hie, rfl⟩))
          obtain ⟨x1, a1, c1, e1, r1, n1⟩ := ih m (by omega) v1 y1 q1 l1
          obtain ⟨x2, a2, c2, e2, r2, n2⟩ := ih m (by omega) v2 y2 q2 l2
          obtain ⟨x3, a3, c3, e3, r3, n3⟩ := ih m (by omega) v3 y3 q3 l3
          subst e1 e2 e3
          exact ⟨k, t, x1, x2, x3, a1, a2, a3, c1, c2, c3, hk, ht, (World.cells?_some hc).2.2, r1, r2, r3, n1, n2, n3⟩
      by_cases h0 : len = 0
      · subst h0
        exact ⟨.nil, some a, cap, rfl, ⟨Nat.zero_le _, hcm, by decide, fun e => by cases e⟩, .nil _ (fun e => by cases e)⟩
      · obtain ⟨b, off, spot⟩ := a
        have hspot : spot = none := by
          obtain ⟨_, _, _, _, _, _, _, _, _, _, _, _, _, hcell, _⟩ := each 0 (by omega)
          simpa [Addr.add] using World.cell?_spot (hcell 0 (by decide))
        subst hspot
        have all : ∀ j, j ≤ len → ∃ xs : Ns, xs.len = j ∧ NodesAt W (fun b => b < W.heap.size) false (some ⟨b, off + (len - j) * 5, none⟩) xs := by
          intro j
          induction j with
          | zero => intro _; exact ⟨.nil, rfl, .nil _ (fun e => by cases e)⟩
          | succ j ihj =>
            intro hj
            obtain ⟨xs, hx, hN⟩ := ihj (by omega)
            obtain ⟨k, t, l, body, els, a1, a2, a3, c1, c2, c3, hk, ht, hcell, r1, r2, r3, n1, n2, n3⟩ := each (len - (j + 1)) (by omega)
            have e5 : off + (len - j) * 5 = off + (len - (j + 1)) * 5 + 5 := by
              have : len - j = len - (j + 1) + 1 := by omega
              rw [this, Nat.succ_mul]; omega
            rw [e5] at hN
            have q : ∀ o, o < 5 → W.cell? ⟨b, off + (len - (j + 1)) * 5 + o, none⟩ = [Value.int .u8 (k : Int), .string (tx t), .slice a1 l.len c1, .slice a2 body.len c2, .slice a3 els.len c3][o]? := by
              intro o ho
              have := hcell o ho
              rw [add_none, add_none] at this
              exact this
            have d0 := q 0 (by decide)
            rw [Nat.add_zero] at d0
            exact ⟨.cons k t l body els xs, by show (Ns.items _).length = _; rw [Ns.items_cons, List.length_cons]; exact congrArg (· + 1) hx,
              .cons (World.block_lt_of_cell? W _ d0) hk ht d0 (q 1 (by decide)) (q 2 (by decide)) (q 3 (by decide)) (q 4 (by decide)) r1 r2 r3 n1 n2 n3 hN⟩
        obtain ⟨xs, hx, hN⟩ := all len (Nat.le_refl _)
        rw [Nat.sub_self, Nat.zero_mul, Nat.add_zero] at hN
        subst hx
        exact ⟨xs, _, cap, rfl, ⟨hlc, hcm, hlen, fun e => by cases e⟩, hN⟩
end Go.My

/- Arguments, opened: texts, functions, a program. No program in sight. -/
namespace Go.My
open Go.RowKit Go.Nd

structure TextTypes (P : Program) (ta ts : TypeId) : Prop where
  a : P.underlying ta = some (.slice ts)
  s : P.underlying ts = some .string
  cs : P.cellsOf ts = 1
  bs : P.bytesOf ts = 16

theorem text_of_trod {H : Type} {enc : TypeId × Value → H} {P : Program} {W : World} {ts : TypeId} (hts : P.underlying ts = some .string) {n : Nat} {cs : List Value} {y : DataW H × List MemPlace}
    (h : DataW.trod enc P W 0 (fun _ => true) true n ts cs = some y) (hw : Light P ts y.1) : ∃ t : List UInt8, cs = [.string (tx t)] ∧ t.length ≤ 140737488351232 := by
  obtain ⟨s, hs, hy, _⟩ := DataW.trod_string hts h
  refine ⟨s.data.toList, by rw [hs]; rfl, ?_⟩
  have := hw s.data.toList.length (by rw [hy]; simp [DataW.weights])
  simpa [reachBytes] using this

open Go.ChangeShapes Go.WideShapes Go.ChangeAt Go.Deep in
theorem texts_of_trod {H : Type} {enc : TypeId × Value → H} {P : Program} {W : World} {ta ts : TypeId} (T : TextTypes P ta ts) {n : Nat} {v : Value} {y : DataW H × List MemPlace}
    (hf : DataW.trod enc P W 0 (fun _ => true) true n ta [v] = some y) (hw : Light P ta y.1) : ∃ l : List (List UInt8), TextsIn W (fun b => b < W.heap.size) false v l := by
  rcases DataW.trod_slice T.a hf with ⟨hvv, hy⟩ | ⟨a, len, cap, elems, rest, n', rfl, hvv, hy, _, hlc, hcm, hel, helem, hrest, _⟩
  · obtain rfl : v = .slice none 0 0 := by simpa using hvv
    exact ⟨[], none, 0, rfl, Nat.le_refl _, Nat.zero_le _, by decide, (fun e => by cases e), fun i hi => absurd hi (Nat.not_lt_zero _)⟩
  · obtain rfl : v = .slice (some a) len cap := by simpa using hvv
    rw [hy] at hw
    obtain ⟨hb, hd⟩ := hw.slice T.a
    rw [T.bs] at hb
    obtain ⟨hrl, _⟩ := hrest rfl
    have hlen : len * 16 ≤ 140737488351232 := by
      have h1 : (elems.map (·.1)).length = len := by simpa using hel
      rw [h1] at hb
      have h2 : len * 16 ≤ (len + (rest.map (·.1)).length) * 16 := Nat.mul_le_mul_right _ (Nat.le_add_right _ _)
      first | exact Nat.le_trans h2 hb | (unfold reachBytes at hb; omega)
    rw [T.cs] at helem
    have each : ∀ i, i < len → ∃ x : List UInt8, x.length ≤ 140737488351232 ∧ (∀ j, j < 1 → W.cell? ((a.add (i * 1)).add j) = [Value.string (tx x)][j]?) := by
      intro i hi
      have h1 := helem i hi
      have hie : i < elems.length := by omega
      rw [List.getElem?_eq_getElem hie] at h1
      cases hc : W.cells? 0 (a.add (i * 1)) 1 with
      | none => rw [hc] at h1; cases h1
      | some cs =>
        rw [hc] at h1
        have h1' : DataW.trod enc P W 0 (fun _ => true) true n' ts cs = some elems[i] := h1
        obtain ⟨t, rfl, ht⟩ := text_of_trod T.s h1' (hd _ (List.mem_map.2 ⟨_, List.getElem_mem hie, rfl⟩))
        exact ⟨t, ht, (World.cells?_some hc).2.2⟩
    obtain ⟨y, hy⟩ := choose_lt each
    refine ⟨(List.range len).map y, some a, cap, by simp, by simp; exact hlc, hcm, by simpa using hlen, (fun e => by cases e), fun i hi => ?_⟩
    have hi2 : i < len := by simpa using hi
    simp only [List.getElem_map, List.getElem_range]
    obtain ⟨h1, h4⟩ := hy i hi2
    obtain ⟨b, off, spot⟩ := a
    have c0 := h4 0 (by decide)
    have hspot : spot = none := by
      obtain ⟨_, h5⟩ := hy 0 (by omega)
      simpa [Addr.add] using World.cell?_spot (h5 0 (by decide))
    subst hspot
    rw [add_none, add_none] at c0
    rw [Nat.add_zero, Nat.mul_one] at c0
    exact ⟨b, off, rfl, World.block_lt_of_cell? W _ c0, c0, h1⟩

/-- The types of a function: a list of them, one, its arguments. -/
structure FnTypes (P : Program) (tF tf ta tl tn tk ts : TypeId) : Prop where
  node : NodeTypes P tl tn tk ts
  text : TextTypes P ta ts
  l : P.underlying tF = some (.slice tf)
  f : ∃ f0 f1 f2, P.underlying tf = some (.struct #[f0, f1, f2]) ∧ f0.type = ts ∧ f0.offset = 0 ∧ f1.type = ta ∧ f1.offset = 1 ∧ f2.type = tl ∧ f2.offset = 2
  cf : P.cellsOf tf = 3
  ca : P.cellsOf ta = 1
  bf : P.bytesOf tf = 64

theorem list3 {cs : List Value} (h : cs.length = 3) : ∃ c0 c1 c2, cs = [c0, c1, c2] := by
  match cs, h with
  | [c0, c1, c2], _ => exact ⟨c0, c1, c2, rfl⟩
theorem list3' {α : Type} {cs : List α} (h : cs.length = 3) : ∃ c0 c1 c2, cs = [c0, c1, c2] := by
  match cs, h with
  | [c0, c1, c2], _ => exact ⟨c0, c1, c2, rfl⟩

theorem fn_cells {H : Type} {enc : TypeId × Value → H} {P : Program} {W : World} {tF tf ta tl tn tk ts : TypeId} (T : FnTypes P tF tf ta tl tn tk ts) {n : Nat} {cs : List Value} {y : DataW H × List MemPlace}
    (h : DataW.trod enc P W 0 (fun _ => true) true n tf cs = some y) (hw : Light P tf y.1) :
    ∃ (f : Nd.Fn) (v1 v2 : Value), cs = [.string (tx f.name), v1, v2] ∧ f.name.length ≤ 140737488351232 ∧ TextsIn W (fun b => b < W.heap.size) false v1 f.args ∧ Nodes W (fun b => b < W.heap.size) false v2 f.body := by
  obtain ⟨f0, f1, f2, hn, e0, o0, e1, o1, e2, o2⟩ := T.f
  obtain ⟨xs, m, rfl, rfl, hc, hx, hf⟩ := DataW.trod_struct hn h
  rw [T.cf] at hc
  obtain ⟨c0, c1, c2, rfl⟩ := list3 hc
  obtain ⟨y0, y1, y2, rfl⟩ := list3' (show xs.length = 3 from hx)
  have g0 := hf 0 f0 rfl
  have g1 := hf 1 f1 rfl
  have g2 := hf 2 f2 rfl
  rw [e0, o0, T.node.cs] at g0
  rw [e1, o1, T.ca] at g1
  rw [e2, o2, T.node.cl] at g2
  have hl := hw.fields hn
  have l0 := hl 0 ts y0.1 (by simp [e0]) rfl
  have l1 := hl 1 ta y1.1 (by simp [e1]) rfl
  have l2 := hl 2 tl y2.1 (by simp [e2]) rfl
  obtain ⟨t, ht, htl⟩ := text_of_trod T.node.s (show DataW.trod enc P W 0 (fun _ => true) true m ts [c0] = some y0 from g0) l0
  obtain ⟨ars, has⟩ := texts_of_trod T.text (show DataW.trod enc P W 0 (fun _ => true) true m ta [c1] = some y1 from g1) l1
  obtain ⟨bd, hbd⟩ := nodes_of_trod T.node m c2 y2 (show DataW.trod enc P W 0 (fun _ => true) true m tl [c2] = some y2 from g2) l2
  have ht' : c0 = .string (tx t) := by simpa using ht
  exact ⟨⟨t, ars, bd⟩, c1, c2, by rw [ht'], htl, has, hbd⟩

open Go.ChangeShapes Go.WideShapes Go.ChangeAt Go.Deep in
theorem funcs_of_trod {H : Type} {enc : TypeId × Value → H} {P : Program} {W : World} {tF tf ta tl tn tk ts : TypeId} (T : FnTypes P tF tf ta tl tn tk ts) {n : Nat} {v : Value} {y : DataW H × List MemPlace}
    (hf : DataW.trod enc P W 0 (fun _ => true) true n tF [v] = some y) (hw : Light P tF y.1) : ∃ l : List Nd.Fn, FuncsIn W (fun b => b < W.heap.size) false v l := by
  rcases DataW.trod_slice T.l hf with ⟨hvv, hy⟩ | ⟨a, len, cap, elems, rest, n', rfl, hvv, hy, _, hlc, hcm, hel, helem, hrest, _⟩
  · obtain rfl : v = .slice none 0 0 := by simpa using hvv
    exact ⟨[], none, 0, rfl, Nat.le_refl _, Nat.zero_le _, by decide, (fun e => by cases e), fun i hi => absurd hi (Nat.not_lt_zero _)⟩
  · obtain rfl : v = .slice (some a) len cap := by simpa using hvv
    rw [hy] at hw
    obtain ⟨hb, hd⟩ := hw.slice T.l
    rw [T.bf] at hb
    obtain ⟨hrl, _⟩ := hrest rfl
    have hlen : len * 64 ≤ 140737488351232 := by
      have h1 : (elems.map (·.1)).length = len := by simpa using hel
      rw [h1] at hb
      have h2 : len * 64 ≤ (len + (rest.map (·.1)).length) * 64 := Nat.mul_le_mul_right _ (Nat.le_add_right _ _)
      first | exact Nat.le_trans h2 hb | (unfold reachBytes at hb; omega)
    rw [T.cf] at helem
    have each : ∀ i, i < len → ∃ x : Nd.Fn, ∃ v1 v2, x.name.length ≤ 140737488351232 ∧ TextsIn W (fun b => b < W.heap.size) false v1 x.args ∧ Nodes W (fun b => b < W.heap.size) false v2 x.body ∧ (∀ j, j < 3 → W.cell? ((a.add (i * 3)).add j) = [Value.string (tx x.name), v1, v2][j]?) := by
      intro i hi
      have h1 := helem i hi
      have hie : i < elems.length := by omega
      rw [List.getElem?_eq_getElem hie] at h1
      cases hc : W.cells? 0 (a.add (i * 3)) 3 with
      | none => rw [hc] at h1; cases h1
      | some cs =>
        rw [hc] at h1
        have h1' : DataW.trod enc P W 0 (fun _ => true) true n' tf cs = some elems[i] := h1
        obtain ⟨f, v1, v2, rfl, ht, h2, h3⟩ := fn_cells T h1' (hd _ (List.mem_map.2 ⟨_, List.getElem_mem hie, rfl⟩))
        exact ⟨f, v1, v2, ht, h2, h3, (World.cells?_some hc).2.2⟩
    have : Inhabited Nd.Fn := ⟨⟨[], [], .nil⟩⟩
    obtain ⟨y, hy⟩ := choose_lt each
    refine ⟨(List.range len).map y, some a, cap, by simp, by simp; exact hlc, hcm, by simpa using hlen, (fun e => by cases e), fun i hi => ?_⟩
    have hi2 : i < len := by simpa using hi
    simp only [List.getElem_map, List.getElem_range]
    obtain ⟨v1, v2, h1, h2, h3, h4⟩ := hy i hi2
    obtain ⟨b, off, spot⟩ := a
    have c0 := h4 0 (by decide)
    have hspot : spot = none := by
      obtain ⟨_, _, _, _, _, h5⟩ := hy 0 (by omega)
      simpa [Addr.add] using World.cell?_spot (h5 0 (by decide))
    subst hspot
    have c1 := h4 1 (by decide)
    have c2 := h4 2 (by decide)
    rw [add_none, add_none] at c0 c1 c2
    rw [Nat.add_zero] at c0
    exact ⟨b, off, v1, v2, rfl, World.block_lt_of_cell? W _ c0, h1, c0, c1, c2, h2, h3⟩
end Go.My

/- Arguments, opened, of so great a bulk: programs as trees (NdArgs, NdPArgs, with how many nodes and letters there are). -/
namespace Go.Proofs.YtobpnjnfpgcpaaaDoor
open Go.RowKit Go.My Go.Nd

theorem bulk_one {H : Type} (d : DataW H) : 1 ≤ Rows.uptoBulk d := by
  cases d with
  | lit l => cases l <;> simp [Rows.uptoBulk]
  | nil => simp [Rows.uptoBulk]
  | ptr d => simp [Rows.uptoBulk]
  | slice elems spare => simp [Rows.uptoBulk]
  | agg parts => simp [Rows.uptoBulk]
  | iface t d => simp [Rows.uptoBulk]
  | map entries => simp [Rows.uptoBulk]
  | held h => simp [Rows.uptoBulk]

/-- The five cells of one node, read. -/
theorem node_cellsU {H : Type} {enc : TypeId × Value → H} {P : Program} {W : World} {tl tn tk ts : TypeId} (T : NodeTypes P tl tn tk ts) {n : Nat} {cs : List Value} {y : DataW H × List MemPlace}
    (h : DataW.trod enc P W 0 (fun _ => true) true n tn cs = some y) (hw : Light P tn y.1) :
    ∃ (m k : Nat) (t : List UInt8) (v1 v2 v3 : Value) (y1 y2 y3 : DataW H × List MemPlace), n = m + 1 ∧ cs = [.int .u8 (k : Int), .string (tx t), v1, v2, v3] ∧ k < 256 ∧ t.length ≤ 140737488351232 ∧
      DataW.trod enc P W 0 (fun _ => true) true m tl [v1] = some y1 ∧ DataW.trod enc P W 0 (fun _ => true) true m tl [v2] = some y2 ∧ DataW.trod enc P W 0 (fun _ => true) true m tl [v3] = some y3 ∧
      Light P tl y1.1 ∧ Light P tl y2.1 ∧ Light P tl y3.1 ∧ 1 + t.length + Rows.uptoBulk y1.1 + Rows.uptoBulk y2.1 + Rows.uptoBulk y3.1 ≤ Rows.uptoBulk y.1 := by
  obtain ⟨f0, f1, f2, f3, f4, hn, e0, o0, e1, o1, e2, o2, e3, o3, e4, o4⟩ := T.n
  obtain ⟨xs, m, rfl, rfl, hc, hx, hf⟩ := DataW.trod_struct hn h
  rw [T.cn] at hc
  obtain ⟨c0, c1, c2, c3, c4, rfl⟩ := list5 hc
  obtain ⟨y0, y1, y2, y3, y4, rfl⟩ := list5' (show xs.length = 5 from hx)
  have g0 := hf 0 f0 rfl
  have g1 := hf 1 f1 rfl
  have g2 := hf 2 f2 rfl
  have g3 := hf 3 f3 rfl
  have g4 := hf 4 f4 rfl
  rw [e0, o0, T.ck] at g0
  rw [e1, o1, T.cs] at g1
  rw [e2, o2, T.cl] at g2
  rw [e3, o3, T.cl] at g3
  rw [e4, o4, T.cl] at g4
  obtain ⟨z, hz, hy0, hwf⟩ := DataW.trod_int T.k (show DataW.trod enc P W 0 (fun _ => true) true m tk [c0] = some y0 from g0)
  obtain ⟨s, hs, hy1, _⟩ := DataW.trod_string T.s (show DataW.trod enc P W 0 (fun _ => true) true m ts [c1] = some y1 from g1)
  have hl := hw.fields hn
  have l1 := hl 1 ts y1.1 (by simp [e1]) rfl
  have l2 := hl 2 tl y2.1 (by simp [e2]) rfl
  have l3 := hl 3 tl y3.1 (by simp [e3]) rfl
  have l4 := hl 4 tl y4.1 (by simp [e4]) rfl
  have hz' : c0 = .int .u8 z := by simpa using hz
  have hs' : c1 = .string s := by simpa using hs
  simp [Lit.wf, IntKind.min, IntKind.max, IntKind.signed, IntKind.bits] at hwf
  refine ⟨m, z.toNat, s.data.toList, c2, c3, c4, y2, y3, y4, rfl, ?_, by omega, ?_, g2, g3, g4, l2, l3, l4, ?_⟩
  · have : ((z.toNat : Nat) : Int) = z := by omega
    rw [hz', hs', this]; rfl
  · have := l1 s.data.toList.length (by rw [hy1]; simp [DataW.weights])
    simpa [reachBytes] using this
  · have := bulk_one y0.1
    simp only [List.map_cons, List.map_nil, Rows.uptoBulk, Rows.uptoBulkAll]
    rw [hy1]
    simp only [Rows.uptoBulk]
    omega

/-- A list of nodes that comes in. -/
theorem nodes_of_trodU {H : Type} {enc : TypeId × Value → H} {P : Program} {W : World} {tl tn tk ts : TypeId} (T : NodeTypes P tl tn tk ts) :
    ∀ (n : Nat) (v : Value) (y : DataW H × List MemPlace), DataW.trod enc P W 0 (fun _ => true) true n tl [v] = some y → Light P tl y.1 → ∃ xs : Ns, Nodes W (fun b => b < W.heap.size) false v xs ∧ xs.sz ≤ Rows.uptoBulk y.1 := by
  intro n
  induction n using Nat.strongRecOn with
  | _ n ih =>
    intro v y h hw
    rcases DataW.trod_slice T.l h with ⟨hv, hy⟩ | ⟨a, len, cap, elems, rest, n', rfl, hv, hy, _, hlc, hcm, hel, helem, hrest, _⟩
    · obtain rfl : v = .slice none 0 0 := by simpa using hv
      exact ⟨.nil, ⟨none, 0, rfl, ⟨Nat.le_refl _, Nat.zero_le _, by decide, fun e => by cases e⟩, .nil none (fun e => by cases e)⟩, Nat.zero_le _⟩
    · obtain rfl : v = .slice (some a) len cap := by simpa using hv
      rw [hy] at hw
      obtain ⟨hb, hd⟩ := hw.slice T.l
      rw [T.bn] at hb
      obtain ⟨hrl, _⟩ := hrest rfl
      have hlen : len * 96 ≤ 140737488351232 := by
        have h1 : (elems.map (·.1)).length = len := by simpa using hel
        rw [h1] at hb
        have h2 : len * 96 ≤ (len + (rest.map (·.1)).length) * 96 := Nat.mul_le_mul_right _ (Nat.le_add_right _ _)
        exact Nat.le_trans h2 hb
      rw [T.cn] at helem
      have hbulk : Rows.uptoBulkAll (elems.map (·.1)) ≤ Rows.uptoBulk y.1 := by rw [hy]; simp only [Rows.uptoBulk]; omega
      -- each node
      have each : ∀ i (hie : i < elems.length), i < len → ∃ (k : Nat) (t : List UInt8) (l body els : Ns) (a1 a2 a3 : Option Addr) (c1 c2 c3 : Nat), k < 256 ∧ t.length ≤ 140737488351232 ∧ (∀ j, j < 5 → W.cell? ((a.add (i * 5)).add j) = [Value.int .u8 (k : Int), .string (tx t), .slice a1 l.len c1, .slice a2 body.len c2, .slice a3 els.len c3][j]?) ∧
          Room false l.len c1 ∧ Room false body.len c2 ∧ Room false els.len c3 ∧ NodesAt W (fun b => b < W.heap.size) false a1 l ∧ NodesAt W (fun b => b < W.heap.size) false a2 body ∧ NodesAt W (fun b => b < W.heap.size) false a3 els ∧ 1 + t.length + l.sz + body.sz + els.sz ≤ Rows.uptoBulk (elems[i]).1 := by
        intro i hie hi
        have h1 := helem i hi
        rw [List.getElem?_eq_getElem hie] at h1
        cases hc : W.cells? 0 (a.add (i * 5)) 5 with
        | none => rw [hc] at h1; cases h1
        | some cs =>
          rw [hc] at h1
          have h1' : DataW.trod enc P W 0 (fun _ => true) true n' tn cs = some elems[i] := h1
          obtain ⟨m, k, t, v1, v2, v3, y1, y2, y3, rfl, rfl, hk, ht, q1, q2, q3, l1, l2, l3, hbk⟩ := node_cellsU T h1' (hd _ (List.mem_map.2 ⟨_, List.getElem_mem hie, rfl⟩))
          obtain ⟨x1, ⟨a1, c1, e1, r1, n1⟩, b1⟩ := ih m (by omega) v1 y1 q1 l1
          obtain ⟨x2, ⟨a2, c2, e2, r2, n2⟩, b2⟩ := ih m (by omega) v2 y2 q2 l2
          obtain ⟨x3, ⟨a3, c3, e3, r3, n3⟩, b3⟩ := ih m (by omega) v3 y3 q3 l3
          subst e1 e2 e3
          exact ⟨k, t, x1, x2, x3, a1, a2, a3, c1, c2, c3, hk, ht, (World.cells?_some hc).2.2, r1, r2, r3, n1, n2, n3, by omega⟩
      by_cases h0 : len = 0
      · subst h0
        exact ⟨.nil, ⟨some a, cap, rfl, ⟨Nat.zero_le _, hcm, by decide, fun e => by cases e⟩, .nil _ (fun e => by cases e)⟩, Nat.zero_le _⟩
      · obtain ⟨b, off, spot⟩ := a
        have hspot : spot = none := by
          obtain ⟨_, _, _, _, _, _, _, _, _, _, _, _, _, hcell, _⟩ := each 0 (by omega) (by omega)
          simpa [Addr.add] using World.cell?_spot (hcell 0 (by decide))
        subst hspot
        have all : ∀ j, j ≤ len → ∃ xs : Ns, xs.len = j ∧ NodesAt W (fun b => b < W.heap.size) false (some ⟨b, off + (len - j) * 5, none⟩) xs ∧ xs.sz ≤ Rows.uptoBulkAll ((elems.drop (len - j)).map (·.1)) := by
          intro j
          induction j with
          | zero => intro _; exact ⟨.nil, rfl, .nil _ (fun e => by cases e), Nat.zero_le _⟩
          | succ j ihj =>
            intro hj
            obtain ⟨xs, hx, hN, hB⟩ := ihj (by omega)
            obtain ⟨k, t, l, body, els, a1, a2, a3, c1, c2, c3, hk, ht, hcell, r1, r2, r3, n1, n2, n3, hbk⟩ := each (len - (j + 1)) (by omega) (by omega)
            have e6 : len - j = len - (j + 1) + 1 := by omega
            have e5 : off + (len - j) * 5 = off + (len - (j + 1)) * 5 + 5 := by
              rw [e6, Nat.succ_mul]; omega
            rw [e5] at hN
            have q : ∀ o, o < 5 → W.cell? ⟨b, off + (len - (j + 1)) * 5 + o, none⟩ = [Value.int .u8 (k : Int), .string (tx t), .slice a1 l.len c1, .slice a2 body.len c2, .slice a3 els.len c3][o]? := by
              intro o ho
              have := hcell o ho
              rw [add_none, add_none] at this
              exact this
            have d0 := q 0 (by decide)
            rw [Nat.add_zero] at d0
            refine ⟨.cons k t l body els xs, by show (Ns.items _).length = _; rw [Ns.items_cons, List.length_cons]; exact congrArg (· + 1) hx,
              .cons (World.block_lt_of_cell? W _ d0) hk ht d0 (q 1 (by decide)) (q 2 (by decide)) (q 3 (by decide)) (q 4 (by decide)) r1 r2 r3 n1 n2 n3 hN, ?_⟩
            rw [List.drop_eq_getElem_cons (show len - (j + 1) < elems.length by omega), ← e6, List.map_cons]
            simp only [Rows.uptoBulkAll]
            show 1 + t.length + l.sz + body.sz + els.sz + xs.sz ≤ _
            omega
        obtain ⟨xs, hx, hN, hB⟩ := all len (Nat.le_refl _)
        rw [Nat.sub_self, Nat.zero_mul, Nat.add_zero] at hN
        rw [Nat.sub_self, List.drop_zero] at hB
        subst hx
        exact ⟨xs, ⟨_, cap, rfl, ⟨hlc, hcm, hlen, fun e => by cases e⟩, hN⟩, by omega⟩

theorem sum_bulk {H : Type} : ∀ (l : List (DataW H)) (f : Nat → Nat), (∀ i (h : i < l.length), f i ≤ Rows.uptoBulk l[i]) → ((List.range l.length).map f).sum ≤ Rows.uptoBulkAll l := by
  intro l
  induction l with
  | nil => intro f _; exact Nat.zero_le _
  | cons d l ih =>
    intro f h
    have h0 := h 0 (by simp)
    have h1 := ih (fun i => f (i + 1)) (fun i hi => h (i + 1) (by simpa using hi))
    rw [List.length_cons, List.range_succ_eq_map, List.map_cons, List.sum_cons, List.map_map]
    simp only [Rows.uptoBulkAll]
    have e : (f ∘ Nat.succ) = fun i => f (i + 1) := rfl
    rw [e]
    simp only [List.getElem_cons_zero] at h0
    omega
theorem sum_bulk' {H : Type} {α : Type} (l : List (DataW H)) (n : Nat) (hn : l.length = n) (y : Nat → α) (f : α → Nat) (h : ∀ i (h : i < l.length), f (y i) ≤ Rows.uptoBulk l[i]) : (((List.range n).map y).map f).sum ≤ Rows.uptoBulkAll l := by
  subst hn
  rw [List.map_map]
  exact sum_bulk l (f ∘ y) h

open Go.ChangeShapes Go.WideShapes Go.ChangeAt Go.Deep in
theorem texts_of_trodU {H : Type} {enc : TypeId × Value → H} {P : Program} {W : World} {ta ts : TypeId} (T : TextTypes P ta ts) {n : Nat} {v : Value} {y : DataW H × List MemPlace}
    (hf : DataW.trod enc P W 0 (fun _ => true) true n ta [v] = some y) (hw : Light P ta y.1) : ∃ l : List (List UInt8), TextsIn W (fun b => b < W.heap.size) false v l ∧ (l.map (·.length + 1)).sum ≤ Rows.uptoBulk y.1 := by
  rcases DataW.trod_slice T.a hf with ⟨hvv, hy⟩ | ⟨a, len, cap, elems, rest, n', rfl, hvv, hy, _, hlc, hcm, hel, helem, hrest, _⟩
  · obtain rfl : v = .slice none 0 0 := by simpa using hvv
    exact ⟨[], ⟨none, 0, rfl, Nat.le_refl _, Nat.zero_le _, by decide, (fun e => by cases e), fun i hi => absurd hi (Nat.not_lt_zero _)⟩, Nat.zero_le _⟩
  · obtain rfl : v = .slice (some a) len cap := by simpa using hvv
    rw [hy] at hw
    obtain ⟨hb, hd⟩ := hw.slice T.a
    rw [T.bs] at hb
    obtain ⟨hrl, _⟩ := hrest rfl
    have hlen : len * 16 ≤ 140737488351232 := by
      have h1 : (elems.map (·.1)).length = len := by simpa using hel
      rw [h1] at hb
      have h2 : len * 16 ≤ (len + (rest.map (·.1)).length) * 16 := Nat.mul_le_mul_right _ (Nat.le_add_right _ _)
      first | exact Nat.le_trans h2 hb | (unfold reachBytes at hb; omega)
    rw [T.cs] at helem
    have hbulk : Rows.uptoBulkAll (elems.map (·.1)) ≤ Rows.uptoBulk y.1 := by rw [hy]; simp only [Rows.uptoBulk]; omega
    have each : ∀ i, i < len → ∃ x : List UInt8, x.length ≤ 140737488351232 ∧ (∀ j, j < 1 → W.cell? ((a.add (i * 1)).add j) = [Value.string (tx x)][j]?) ∧ ∀ (h : i < elems.length), x.length + 1 ≤ Rows.uptoBulk (elems[i]).1 := by
      intro i hi
      have h1 := helem i hi
      have hie : i < elems.length := by omega
      rw [List.getElem?_eq_getElem hie] at h1
      cases hc : W.cells? 0 (a.add (i * 1)) 1 with
      | none => rw [hc] at h1; cases h1
      | some cs =>
        rw [hc] at h1
        have h1' : DataW.trod enc P W 0 (fun _ => true) true n' ts cs = some elems[i] := h1
        have hlw := hd _ (List.mem_map.2 ⟨_, List.getElem_mem hie, rfl⟩)
        obtain ⟨s, hs, hy1, _⟩ := DataW.trod_string T.s h1'
        have ht := hlw s.data.toList.length (by rw [hy1]; simp [DataW.weights])
        subst hs
        refine ⟨s.data.toList, by simpa [reachBytes] using ht, (World.cells?_some hc).2.2, fun _ => ?_⟩
        rw [hy1]; simp [Rows.uptoBulk]
    obtain ⟨y', hy'⟩ := choose_lt each
    refine ⟨(List.range len).map y', ⟨some a, cap, by simp, by simp; exact hlc, hcm, by simpa using hlen, (fun e => by cases e), fun i hi => ?_⟩, ?_⟩
    · have hi2 : i < len := by simpa using hi
      simp only [List.getElem_map, List.getElem_range]
      obtain ⟨h1, h4, _⟩ := hy' i hi2
      obtain ⟨b, off, spot⟩ := a
      have c0 := h4 0 (by decide)
      have hspot : spot = none := by
        obtain ⟨_, h5, _⟩ := hy' 0 (by omega)
        simpa [Addr.add] using World.cell?_spot (h5 0 (by decide))
      subst hspot
      rw [add_none, add_none] at c0
      rw [Nat.add_zero, Nat.mul_one] at c0
      exact ⟨b, off, rfl, World.block_lt_of_cell? W _ c0, c0, h1⟩
    · have := sum_bulk' (elems.map (·.1)) len (by simpa using hel) y' (fun x => x.length + 1) (fun i hi => by
        have hi2 : i < elems.length := by simpa using hi
        obtain ⟨_, _, h⟩ := hy' i (by omega)
        rw [List.getElem_map]
        exact h hi2)
      omega

theorem fn_cellsU {H : Type} {enc : TypeId × Value → H} {P : Program} {W : World} {tF tf ta tl tn tk ts : TypeId} (T : FnTypes P tF tf ta tl tn tk ts) {n : Nat} {cs : List Value} {y : DataW H × List MemPlace}
    (h : DataW.trod enc P W 0 (fun _ => true) true n tf cs = some y) (hw : Light P tf y.1) :
    ∃ (f : Nd.Fn) (v1 v2 : Value), cs = [.string (tx f.name), v1, v2] ∧ f.name.length ≤ 140737488351232 ∧ TextsIn W (fun b => b < W.heap.size) false v1 f.args ∧ Nodes W (fun b => b < W.heap.size) false v2 f.body ∧ fsz f ≤ Rows.uptoBulk y.1 := by
  obtain ⟨f0, f1, f2, hn, e0, o0, e1, o1, e2, o2⟩ := T.f
  obtain ⟨xs, m, rfl, rfl, hc, hx, hf⟩ := DataW.trod_struct hn h
  rw [T.cf] at hc
  obtain ⟨c0, c1, c2, rfl⟩ := list3 hc
  obtain ⟨y0, y1, y2, rfl⟩ := list3' (show xs.length = 3 from hx)
  have g0 := hf 0 f0 rfl
  have g1 := hf 1 f1 rfl
  have g2 := hf 2 f2 rfl
  rw [e0, o0, T.node.cs] at g0
  rw [e1, o1, T.ca] at g1
  rw [e2, o2, T.node.cl] at g2
  have hl := hw.fields hn
  have l0 := hl 0 ts y0.1 (by simp [e0]) rfl
  have l1 := hl 1 ta y1.1 (by simp [e1]) rfl
  have l2 := hl 2 tl y2.1 (by simp [e2]) rfl
  have g0' := show DataW.trod enc P W 0 (fun _ => true) true m ts [c0] = some y0 from g0
  obtain ⟨s, hs, hy1, _⟩ := DataW.trod_string T.node.s g0'
  have htl := l0 s.data.toList.length (by rw [hy1]; simp [DataW.weights])
  obtain ⟨ags, has, bas⟩ := texts_of_trodU T.text (show DataW.trod enc P W 0 (fun _ => true) true m ta [c1] = some y1 from g1) l1
  obtain ⟨bd, hbd, bbd⟩ := nodes_of_trodU T.node m c2 y2 (show DataW.trod enc P W 0 (fun _ => true) true m tl [c2] = some y2 from g2) l2
  have ht' : c0 = .string s := by simpa using hs
  refine ⟨⟨s.data.toList, ags, bd⟩, c1, c2, by rw [ht']; rfl, by simpa [reachBytes] using htl, has, hbd, ?_⟩
  simp only [List.map_cons, List.map_nil, Rows.uptoBulk, Rows.uptoBulkAll]
  rw [hy1]
  simp only [Rows.uptoBulk]
  unfold fsz
  simp only
  omega

open Go.ChangeShapes Go.WideShapes Go.ChangeAt Go.Deep in
theorem funcs_of_trodU {H : Type} {enc : TypeId × Value → H} {P : Program} {W : World} {tF tf ta tl tn tk ts : TypeId} (T : FnTypes P tF tf ta tl tn tk ts) {n : Nat} {v : Value} {y : DataW H × List MemPlace}
    (hf : DataW.trod enc P W 0 (fun _ => true) true n tF [v] = some y) (hw : Light P tF y.1) : ∃ l : List Nd.Fn, FuncsIn W (fun b => b < W.heap.size) false v l ∧ (l.map fsz).sum ≤ Rows.uptoBulk y.1 := by
  rcases DataW.trod_slice T.l hf with ⟨hvv, hy⟩ | ⟨a, len, cap, elems, rest, n', rfl, hvv, hy, _, hlc, hcm, hel, helem, hrest, _⟩
  · obtain rfl : v = .slice none 0 0 := by simpa using hvv
    exact ⟨[], ⟨none, 0, rfl, Nat.le_refl _, Nat.zero_le _, by decide, (fun e => by cases e), fun i hi => absurd hi (Nat.not_lt_zero _)⟩, Nat.zero_le _⟩
  · obtain rfl : v = .slice (some a) len cap := by simpa using hvv
    rw [hy] at hw
    obtain ⟨hb, hd⟩ := hw.slice T.l
    rw [T.bf] at hb
    obtain ⟨hrl, _⟩ := hrest rfl
    have hlen : len * 64 ≤ 140737488351232 := by
      have h1 : (elems.map (·.1)).length = len := by simpa using hel
      rw [h1] at hb
      have h2 : len * 64 ≤ (len + (rest.map (·.1)).length) * 64 := Nat.mul_le_mul_right _ (Nat.le_add_right _ _)
      first | exact Nat.le_trans h2 hb | (unfold reachBytes at hb; omega)
    rw [T.cf] at helem
    have hbulk : Rows.uptoBulkAll (elems.map (·.1)) ≤ Rows.uptoBulk y.1 := by rw [hy]; simp only [Rows.uptoBulk]; omega
    have each : ∀ i, i < len → ∃ x : Nd.Fn, ∃ v1 v2, x.name.length ≤ 140737488351232 ∧ TextsIn W (fun b => b < W.heap.size) false v1 x.args ∧ Nodes W (fun b => b < W.heap.size) false v2 x.body ∧ (∀ j, j < 3 → W.cell? ((a.add (i * 3)).add j) = [Value.string (tx x.name), v1, v2][j]?) ∧ ∀ (h : i < elems.length), fsz x ≤ Rows.uptoBulk (elems[i]).1 := by
      intro i hi
      have h1 := helem i hi
      have hie : i < elems.length := by omega
      rw [List.getElem?_eq_getElem hie] at h1
      cases hc : W.cells? 0 (a.add (i * 3)) 3 with
      | none => rw [hc] at h1; cases h1
      | some cs =>
        rw [hc] at h1
        have h1' : DataW.trod enc P W 0 (fun _ => true) true n' tf cs = some elems[i] := h1
        obtain ⟨f, v1, v2, rfl, ht, h2, h3, hbk⟩ := fn_cellsU T h1' (hd _ (List.mem_map.2 ⟨_, List.getElem_mem hie, rfl⟩))
        exact ⟨f, v1, v2, ht, h2, h3, (World.cells?_some hc).2.2, fun _ => hbk⟩
    have : Inhabited Nd.Fn := ⟨⟨[], [], .nil⟩⟩
    obtain ⟨y', hy'⟩ := choose_lt each
    refine ⟨(List.range len).map y', ⟨some a, cap, by simp, by simp; exact hlc, hcm, by simpa using hlen, (fun e => by cases e), fun i hi => ?_⟩, ?_⟩
    · have hi2 : i < len := by simpa using hi
      simp only [List.getElem_map, List.getElem_range]
      obtain ⟨v1, v2, h1, h2, h3, h4, _⟩ := hy' i hi2
      obtain ⟨b, off, spot⟩ := a
      have c0 := h4 0 (by decide)
      have hspot : spot = none := by
        obtain ⟨_, _, _, _, _, h5, _⟩ := hy' 0 (by omega)
        simpa [Addr.add] using World.cell?_spot (h5 0 (by decide))
      subst hspot
      have c1 := h4 1 (by decide)
      have c2 := h4 2 (by decide)
      rw [add_none, add_none] at c0 c1 c2
      rw [Nat.add_zero] at c0
      exact ⟨b, off, v1, v2, rfl, World.block_lt_of_cell? W _ c0, h1, c0, c1, c2, h2, h3⟩
    · have := sum_bulk' (elems.map (·.1)) len (by simpa using hel) y' fsz (fun i hi => by
        have hi2 : i < elems.length := by simpa using hi
        obtain ⟨_, _, _, _, _, _, h⟩ := hy' i (by omega)
        rw [List.getElem_map]
        exact h hi2)
      omega
end Go.Proofs.YtobpnjnfpgcpaaaDoor

/- The types of programs, as this program numbers them. -/
namespace Go.Proofs.YtobpnjnfpgcpaaaDoor
open Go.RowKit Go.My

theorem nodeTypes : NodeTypes Tryd.prog 23 25 22 9 :=
  ⟨Tryd.underlying23, ⟨_, _, _, _, _, Tryd.underlying25, rfl, rfl, rfl, rfl, rfl, rfl, rfl, rfl, rfl, rfl⟩, Tryd.underlying22, Tryd.underlying9, by kernel_rfl, by kernel_rfl, by kernel_rfl, by kernel_rfl, by kernel_rfl⟩
theorem textTypes : TextTypes Tryd.prog 45 9 := ⟨Tryd.underlying45, Tryd.underlying9, by kernel_rfl, by kernel_rfl⟩
theorem fnTypes : FnTypes Tryd.prog 35 47 45 23 25 22 9 :=
  ⟨nodeTypes, textTypes, Tryd.underlying35, ⟨_, _, _, Tryd.underlying47, rfl, rfl, rfl, rfl, rfl, rfl⟩, by kernel_rfl, by kernel_rfl, by kernel_rfl⟩
theorem cellsProg : Tryd.prog.cellsOf 37 = 2 := by kernel_rfl
end Go.Proofs.YtobpnjnfpgcpaaaDoor
