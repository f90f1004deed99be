/- Tokens, as the document has them: signs. -/
import Derived.Test.YtcldcigopkfmmaaGreatDoorTrNumQ
import Derived.BigQuiet
namespace Go.To
def signsL : List (List UInt8) := [[61, 61], [33, 61], [60, 61], [43], [45], [42], [47], [94], [40], [41], [91], [93], [44], [59], [123], [125], [61], [60]]
/-- Does a text begin so? -/
def pre (u s : List UInt8) : Bool := s.take u.length == u
/-- The first of these that a text begins with: how long it is; none: 0. -/
def firstOf (L : List (List UInt8)) (s : List UInt8) : Nat := match L with
  | [] => 0
  | u :: r => if pre u s then u.length else firstOf r s
theorem beq_nat (c a : UInt8) : (c == a) = decide (c.toNat = a.toNat) := by
  rw [Bool.eq_iff_iff]
  simp only [beq_iff_eq, decide_eq_true_eq]
  exact ⟨fun h => by rw [h], fun h => UInt8.toNat_inj.1 h⟩
theorem pre_one (a c : UInt8) (l : List UInt8) : pre [a] (c :: l) = decide (c.toNat = a.toNat) := by
  rw [← beq_nat]; unfold pre; simp
theorem pre_two (a c : UInt8) (l : List UInt8) : pre [a, 61] (c :: l) = (decide (c.toNat = a.toNat) && decide (l.head? = some 61)) := by
  rw [← beq_nat]; unfold pre
  cases l with
  | nil => simp
  | cons d r => rw [Bool.eq_iff_iff]; simp
def g (n : Nat) (b : Bool) : Nat := if decide (n = 61) && b then 2 else if decide (n = 33) && b then 2 else if decide (n = 60) && b then 2 else if decide (n = 43) then 1 else if decide (n = 45) then 1 else if decide (n = 42) then 1 else if decide (n = 47) then 1 else if decide (n = 94) then 1 else if decide (n = 40) then 1 else if decide (n = 41) then 1 else if decide (n = 91) then 1 else if decide (n = 93) then 1 else if decide (n = 44) then 1 else if decide (n = 59) then 1 else if decide (n = 123) then 1 else if decide (n = 125) then 1 else if decide (n = 61) then 1 else if decide (n = 60) then 1 else 0
set_option maxRecDepth 20000 in
theorem g_is : ∀ n, n < 256 → ∀ b : Bool, g n b = if decide (n = 61 ∨ n = 33 ∨ n = 60) && b then 2 else if [43, 45, 42, 47, 94, 40, 41, 91, 93, 44, 59, 123, 125, 61, 60].contains n then 1 else 0 := by decide
theorem first_g (c : UInt8) (l : List UInt8) : firstOf signsL (c :: l) = g c.toNat (decide (l.head? = some 61)) := by
  simp only [signsL, firstOf, pre_one, pre_two, List.length_cons, List.length_nil]
  rfl
theorem sign_is (s : List UInt8) : sign s = firstOf signsL s := by
  cases s with
  | nil => decide
  | cons c l =>
    rw [first_g, g_is _ c.toNat_lt]
    show (if (c.toNat = 61 ∨ c.toNat = 33 ∨ c.toNat = 60) ∧ l.head? = some 61 then 2 else if isS c then 1 else 0) = _
    simp only [isS, Bool.and_eq_true, decide_eq_true_eq]
    congr
theorem firstOf_drop (s : List UInt8) (L : List (List UInt8)) (i : Nat) (hi : i < L.length) : firstOf (L.drop i) s = if pre L[i] s then L[i].length else firstOf (L.drop (i + 1)) s := by
  rw [List.drop_eq_getElem_cons hi]; rfl

theorem signs_len : ∀ u ∈ signsL, u.length = 1 ∨ u.length = 2 := by decide
end Go.To
namespace Go.Proofs.YtcldcigopkfmmaaGreatDoor
open Go.RowKit Go.My

theorem refsigns_t {w : World} {Q : Ending → World → Prop} (h : ∀ b off w', Below w.heap.size w w' → (∀ j (hj : j < To.signsL.length), w'.cell? ⟨b, off + j, none⟩ = some (.string (bs To.signsL[j]))) → Q (.returned (.slice (some ⟨b, off, none⟩) 18 18)) w') :
    Calls Tryz.prog 71 #[] w Q := by
  have hrow := _root_.Go.heap_alloc_new w (.cells #[.string (bs [61, 61]), .string (bs [33, 61]), .string (bs [60, 61]), .string (bs [43]), .string (bs [45]), .string (bs [42]), .string (bs [47]), .string (bs [94]), .string (bs [40]), .string (bs [41]), .string (bs [91]), .string (bs [93]), .string (bs [44]), .string (bs [59]), .string (bs [123]), .string (bs [125]), .string (bs [61]), .string (bs [60])] 9)
  have hq := h w.heap.size 0 (w.alloc (.cells #[.string (bs [61, 61]), .string (bs [33, 61]), .string (bs [60, 61]), .string (bs [43]), .string (bs [45]), .string (bs [42]), .string (bs [47]), .string (bs [94]), .string (bs [40]), .string (bs [41]), .string (bs [91]), .string (bs [93]), .string (bs [44]), .string (bs [59]), .string (bs [123]), .string (bs [125]), .string (bs [61]), .string (bs [60])] 9)) ((Below.refl _ w).alloc (Nat.le_refl _) _) (fun j hj => by
    rw [Nat.zero_add]
    have hj' : j < 18 := hj
    match j, hj' with
    | 0, _ => exact (cell_of_row _ _ _ _ _ _ hrow).trans rfl
    | 1, _ => exact (cell_of_row _ _ _ _ _ _ hrow).trans rfl
    | 2, _ => exact (cell_of_row _ _ _ _ _ _ hrow).trans rfl
    | 3, _ => exact (cell_of_row _ _ _ _ _ _ hrow).trans rfl
    | 4, _ => exact (cell_of_row _ _ _ _ _ _ hrow).trans rfl
    | 5, _ => exact (cell_of_row _ _ _ _ _ _ hrow).trans rfl
    | 6, _ => exact (cell_of_row _ _ _ _ _ _ hrow).trans rfl
    | 7, _ => exact (cell_of_row _ _ _ _ _ _ hrow).trans rfl
    | 8, _ => exact (cell_of_row _ _ _ _ _ _ hrow).trans rfl
    | 9, _ => exact (cell_of_row _ _ _ _ _ _ hrow).trans rfl
    | 10, _ => exact (cell_of_row _ _ _ _ _ _ hrow).trans rfl
    | 11, _ => exact (cell_of_row _ _ _ _ _ _ hrow).trans rfl
    | 12, _ => exact (cell_of_row _ _ _ _ _ _ hrow).trans rfl
    | 13, _ => exact (cell_of_row _ _ _ _ _ _ hrow).trans rfl
    | 14, _ => exact (cell_of_row _ _ _ _ _ _ hrow).trans rfl
    | 15, _ => exact (cell_of_row _ _ _ _ _ _ hrow).trans rfl
    | 16, _ => exact (cell_of_row _ _ _ _ _ _ hrow).trans rfl
    | 17, _ => exact (cell_of_row _ _ _ _ _ _ hrow).trans rfl
    | _ + 18, hk => exact absurd hk (by omega))
  have H := Lib.hid hq
  clear h hq hrow
  go_enter Tryz.func71, Tryz.ntmps71
  go_wp2_with fail
  exact H.out

def SignAt (w1 : World) (l : List UInt8) (gk : Nat) (vn : Value) (wr : World) : Prop :=
  ∃ i m : Nat, i ≤ To.signsL.length ∧ gk = To.signsL.length - i ∧ vn = .int .i64 (i : Int) ∧ To.sign l = To.firstOf (To.signsL.drop i) l ∧ wr = w1.drewN m

set_option maxRecDepth 100000 in
set_option maxHeartbeats 4000000 in
theorem refsign_t {w : World} (l : List UInt8) (hl : l.length ≤ 9223372036854775807) {Q : Ending → World → Prop} (h : ∀ w', Below w.heap.size w w' → Q (.returned (.int .i64 (To.sign l : Nat))) w') :
    Calls Tryz.prog 18 #[.string (bs l)] w Q := by
  have H := Lib.hid h
  have hs0 := bs_size l
  have hl1 : (l.length : Int) ≤ 9223372036854775807 := by omega
  clear h
  go_enter Tryz.func18, Tryz.ntmps18
  go_wp2_with fail
  refine refsigns_t fun b off w1 hb hc => ?_
  have HB := Lib.hid hb
  have HC := Lib.hid hc
  clear hb hc
  go_wp2_with fail
  go_loopg [4] To.signsL.length (fun gk vn wr => SignAt w1 l gk vn wr)
  case atStart => exact ⟨0, 0, Nat.zero_le _, rfl, rfl, by rw [List.drop_zero]; exact To.sign_is l, rfl⟩
  case round =>
    obtain ⟨i, m, hi, rfl, rfl, hw, rfl⟩ := hrel
    have HW := Lib.hid hw
    have n0 : (0 : Int) ≤ (i : Int) := by omega
    have h18 : To.signsL.length = 18 := rfl
    clear hw
    by_cases hlt : i < To.signsL.length
    · have hei : (i : Int) < 18 := by omega
      have c1 := HC.out i hlt
      have hfd := To.firstOf_drop l To.signsL i hlt
      have hln := To.signs_len _ (List.getElem_mem hlt)
      obtain ⟨u, hu⟩ : ∃ u, u = To.signsL[i] := ⟨_, rfl⟩
      rw [← hu] at c1 hfd hln
      have HF := Lib.hid hfd
      have hsu := bs_size u
      clear hu hfd hi h18
      by_cases hge : u.length ≤ l.length
      · have hgi : (u.length : Int) ≤ (l.length : Int) := by omega
        have u0 : (0 : Int) ≤ (u.length : Int) := by omega
        cases hp : To.pre u l with
        | true =>
          have hcut : (bs l).extract 0 u.length = bs u := by
            rw [bs_cut, List.drop_zero, Nat.sub_zero]; unfold To.pre at hp; rw [eq_of_beq hp]
          have HX := Lib.hid (show To.sign l = u.length by rw [HW.out, HF.out, if_pos hp])
          clear hp hge hlt
          go_wp2_with fail
          go_quiet (fail)
          go_wp2_with fail
          have hq := H.out (w1.drewN (m + nq)) ⟨HB.out.os, HB.out.tape, HB.out.output, HB.out.size, HB.out.block⟩
          rw [HX.out] at hq
          exact hq
        | false =>
          have hcut : ¬ (bs l).extract 0 u.length = bs u := by
            rw [bs_cut, List.drop_zero, Nat.sub_zero]
            intro hq
            have e := congrArg (fun s : ByteArray => s.data.toList) hq
            simp only [bs_list] at e
            unfold To.pre at hp; rw [e] at hp; simp at hp
          have hcut2 : (((bs l).extract 0 u.length).toList == (bs u).toList) = false := by
            rw [Bool.eq_false_iff]; intro e; apply hcut
            have e := eq_of_beq e
            rw [ByteArray.toList_eq, ByteArray.toList_eq] at e
            rw [bs_of ((bs l).extract 0 u.length), e, bs_list]
          have HX := Lib.hid (show To.sign l = To.firstOf (To.signsL.drop (i + 1)) l by rw [HW.out, HF.out, if_neg (by simp [hp])])
          have HL := Lib.hid hlt
          clear hp hge hlt
          go_wp2_with fail
          go_quiet (fail)
          go_wp2_with fail
          go_roundg (To.signsL.length - (i + 1))
          case measure => have := HL.out; omega
          case rel => exact ⟨i + 1, m + nq, HL.out, rfl, by go_num, HX.out, rfl⟩
      · have hgi : (l.length : Int) < (u.length : Int) := by omega
        have hdc : decide (u.length ≤ l.length) = false := by simp; omega
        have hdd : decide (l.length < u.length) = true := by simp; omega
        have HX := Lib.hid (show To.sign l = To.firstOf (To.signsL.drop (i + 1)) l by
          rw [HW.out, HF.out, if_neg]
          intro hp; unfold To.pre at hp
          have := congrArg List.length (eq_of_beq hp)
          rw [List.length_take] at this; omega)
        have HL := Lib.hid hlt
        clear hge hlt
        go_wp2_with fail
        go_quiet (fail)
        go_wp2_with fail
        go_roundg (To.signsL.length - (i + 1))
        case measure => have := HL.out; omega
        case rel => exact ⟨i + 1, m + nq, HL.out, rfl, by go_num, HX.out, rfl⟩
    · have hie : i = To.signsL.length := by omega
      have hei : (18 : Int) ≤ (i : Int) := by omega
      have HX := Lib.hid (show To.sign l = 0 by rw [HW.out, hie]; rfl)
      clear hlt hie hi h18
      go_wp2_with fail
      have hq := H.out (w1.drewN m) ⟨HB.out.os, HB.out.tape, HB.out.output, HB.out.size, HB.out.block⟩
      rw [HX.out] at hq
      exact hq
end Go.Proofs.YtcldcigopkfmmaaGreatDoor
