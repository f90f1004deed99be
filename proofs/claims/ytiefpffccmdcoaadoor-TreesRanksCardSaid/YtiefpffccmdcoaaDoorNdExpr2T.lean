/- Trees: may a node be an expression. -/
import Derived.Test.YtiefpffccmdcoaaDoorNdExprT
import Derived.Test.YtiefpffccmdcoaaDoorTrB2
import Derived.Test.YtiefpffccmdcoaaDoorToRefNameT
namespace Go.My
open Go.Nd
def isTwoNum : List Nd → Bool
  | [_, x] => x.kind == 1
  | _ => false
theorem raised_items (l : Ns) : Nd.raised l = isTwoNum l.items := rfl
theorem raised_two (l : Ns) (h : l.items.length = 2) : Nd.raised l = ((l.items[1]).kind == 1) := by
  have key : ∀ (L : List Nd) (h : L.length = 2), isTwoNum L = ((L[1]).kind == 1) := by
    intro L h
    match L, h with
    | [a, b], _ => rfl
  exact (raised_items l).trans (key l.items h)
theorem raised_not (l : Ns) (h : l.items.length ≠ 2) : Nd.raised l = false := by
  have key : ∀ (L : List Nd) (h : L.length ≠ 2), isTwoNum L = false := by
    intro L h
    match L, h with
    | [], _ => rfl
    | [_], _ => rfl
    | [_, _], h => exact absurd rfl h
    | _ :: _ :: _ :: _, _ => rfl
  exact (raised_items l).trans (key l.items h)
theorem head_other (k : Nat) (t : List UInt8) (l : Ns) (h1 : k ≠ 1) (h2 : k ≠ 2) (h3 : k ≠ 3) (h4 : k ≠ 4) (h5 : k ≠ 5) (h6 : k ≠ 6) (h7 : k ≠ 7) : head k t l = false := by
  unfold head
  rw [if_neg h1, if_neg h2, if_neg h3, if_neg h4, if_neg (by omega), if_neg h5]
end Go.My
namespace Go.Proofs.YtiefpffccmdcoaaDoor
open Go.RowKit Go.My Go.Nd

theorem contains_signs (l : List UInt8) : Lib.containsS (Nd.signs.map bs) (bs l) = Nd.signs.contains l := by
  rw [Bool.eq_iff_iff, Lib.containsS_iff]
  simp only [List.mem_map, List.contains_iff_mem]
  constructor
  · rintro ⟨x, hx, he⟩
    have := congrArg (fun s : ByteArray => s.data.toList) he
    simp only [bs_list] at this
    rw [← this]; exact hx
  · intro h; exact ⟨l, h, rfl⟩

theorem signs_t {w : World} (l : List UInt8) {Q : Ending → World → Prop} (h : Q (.returned (.bool (Nd.signs.contains l))) (w.alloc (.cells #[.string (bs [43]), .string (bs [45]), .string (bs [42]), .string (bs [47]), .string (bs [61, 61]), .string (bs [33, 61]), .string (bs [60]), .string (bs [60, 61])] 9))) :
    Calls Tryd.prog 45 #[.slice (some ⟨w.heap.size, 0, none⟩) 8 8, .string (bs l)] (w.alloc (.cells #[.string (bs [43]), .string (bs [45]), .string (bs [42]), .string (bs [47]), .string (bs [61, 61]), .string (bs [33, 61]), .string (bs [60]), .string (bs [60, 61])] 9)) Q := by
  refine Calls.mono (Tryd.slices_Contains_string w.heap.size 0 8 8 (Nd.signs.map bs) (bs l) _ (by decide) (by decide) (fun j hj => ?_)) ?_
  · rw [cell_of_row _ w.heap.size (0 + j) _ 9 (0, 0) (_root_.Go.heap_alloc_new w _)]
    have hj7 : j < 8 := hj
    match j, hj7 with
    | 0, _ => rfl
    | 1, _ => rfl
    | 2, _ => rfl
    | 3, _ => rfl
    | 4, _ => rfl
    | 5, _ => rfl
    | 6, _ => rfl
    | 7, _ => rfl
  · rintro e w' ⟨rfl, rfl⟩
    rw [show (Nd.signs.map bs).take 8 = Nd.signs.map bs from rfl, contains_signs]
    exact h

/-- What the answer is, once its parts are known. -/
theorem expr_no {kd : Nat} {tt : List UInt8} {xl xb xe : Ns} (h : xb.len ≠ 0 ∨ xe.len ≠ 0 ∨ exprs xl = false ∨ head kd tt xl = false) : exprOne ⟨kd, tt, xl, xb, xe⟩ = false := by
  unfold exprOne
  rcases h with h | h | h | h
  · simp [h]
  · simp [h]
  · simp [h]
  · simp [h]
theorem expr_is {kd : Nat} {tt : List UInt8} {xl xb xe : Ns} (h1 : xb.len = 0) (h2 : xe.len = 0) (h3 : exprs xl = true) : exprOne ⟨kd, tt, xl, xb, xe⟩ = head kd tt xl := by
  unfold exprOne
  simp [h1, h2, h3]

set_option maxRecDepth 100000 in
set_option maxHeartbeats 8000000 in
theorem expr_one {tw : Bool} {B : Nat} {x : Nd} (h : ∀ y ∈ x.l.items, Asked tw B 48 exprOne y) : Asked tw B 48 exprOne x := by
  intro w a1 a2 a3 c1 c2 c3 hB n1 n2 n3 hk ht
  have hA := Below.alloc (Below.refl w.heap.size w) (Nat.le_refl _) (.cells #[.int .u8 (x.kind : Int), .string (tx x.text), .slice a1 x.l.len c1, .slice a2 x.body.len c2, .slice a3 x.els.len c3] 49)
  have HC := Lib.hid (contains_said (Nat.le_trans hB hA.size) (n1.below (hA.mono hB)) (fn := 77) (p := fun x => !exprOne x) (fun y hy => expr1_one (h y hy)) (fun _ _ => by kernel_rfl))
  rw [not_exprs] at HC
  have Y := Lib.hid (And.intro hA (And.intro hB n1))
  obtain ⟨kd, tt, xl, xb, xe⟩ := x
  have etx : tx tt = bs tt := rfl
  simp only [etx] at *
  have hs := bs_tl tt
  have k0 : (0 : Int) ≤ (kd : Int) := by omega
  have k1 : (kd : Int) < 256 := by omega
  have l0 : (0 : Int) ≤ (xl.len : Int) := by omega
  have l1 : (xl.len : Int) ≤ 140737488351232 := by obtain ⟨_, _, _, hr, _⟩ := n1; have := hr.2.2.1; omega
  have b0 : (0 : Int) ≤ (xb.len : Int) := by omega
  have e0 : (0 : Int) ≤ (xe.len : Int) := by omega
  have HT := Lib.hid (show tt.length ≤ 9223372036854775807 by omega)
  clear h n1 n2 n3 hA hB etx ht hk
  by_cases hb : 0 < xb.len
  · have hbi : (0 : Int) < (xb.len : Int) := by omega
    have HN := Lib.hid (expr_no (kd := kd) (tt := tt) (xl := xl) (xb := xb) (xe := xe) (.inl (by omega)))
    clear hb
    go_enter Tryd.func48, Tryd.ntmps48
    go_wp2_with fail
    go_ret
    exact ⟨by rw [HN.out]; rfl, Y.out.1⟩
  have HB := Lib.hid (show xb.len = 0 by omega)
  rw [HB.out] at HC Y ⊢
  clear hb b0
  by_cases he : 0 < xe.len
  · have hei : (0 : Int) < (xe.len : Int) := by omega
    have HN := Lib.hid (expr_no (kd := kd) (tt := tt) (xl := xl) (xb := xb) (xe := xe) (.inr (.inl (by omega))))
    clear he
    go_enter Tryd.func48, Tryd.ntmps48
    go_wp2_with fail
    go_ret
    exact ⟨by rw [HN.out]; rfl, Y.out.1⟩
  have HE := Lib.hid (show xe.len = 0 by omega)
  rw [HE.out] at HC Y ⊢
  clear he e0
  go_enter Tryd.func48, Tryd.ntmps48
  go_wp2_with fail
  refine HC.out.mono ?_
  rintro e w1 ⟨rfl, hb1⟩
  have q0 := box_later hb1 0
  have q1 := box_later hb1 1
  have q2 := box_later hb1 2
  simp at q0 q1 q2
  have K1 := Lib.hid (And.intro hb1 (Y.out.1.trans (hb1.mono Y.out.1.size)))
  clear hb1
  cases hx : exprs xl with
  | false =>
    have HN := Lib.hid (expr_no (kd := kd) (tt := tt) (xl := xl) (xb := xb) (xe := xe) (.inr (.inr (.inl hx))))
    clear hx
    go_wp2_with fail
    go_ret
    exact ⟨by rw [HN.out]; rfl, K1.out.2⟩
  | true =>
    have HI := Lib.hid (expr_is (kd := kd) (tt := tt) HB.out HE.out hx)
    clear hx
    by_cases e1 : kd = 1
    · subst e1
      by_cases hz : xl.len = 0
      · have HH := Lib.hid (show head 1 tt xl = Nd.plain tt by unfold head; rw [if_pos rfl, hz]; rfl)
        have hzi : (xl.len : Int) = 0 := by omega
        clear hz
        go_wp2_with fail
        refine plain_t tt HT.out fun w2 hb2 => ?_
        have K2 := Lib.hid (K1.out.2.trans (hb2.mono K1.out.2.size))
        clear hb2
        go_wp2_with fail
        go_ret
        exact ⟨by rw [HI.out, HH.out]; rfl, K2.out⟩
      · have HH := Lib.hid (show head 1 tt xl = false by unfold head; rw [if_pos rfl]; simp [hz])
        have hzi : ((xl.len : Int) == 0) = false := by simp; omega
        clear hz
        go_wp2_with fail
        go_ret
        exact ⟨by rw [HI.out, HH.out]; rfl, K1.out.2⟩
    by_cases e2 : kd = 2
    · subst e2
      by_cases hz : xl.len = 0
      · have HH := Lib.hid (show head 2 tt xl = To.name tt by unfold head; rw [if_neg (by decide), if_pos rfl, hz]; rfl)
        have hzi : (xl.len : Int) = 0 := by omega
        clear hz
        go_wp2_with fail
        refine name_t tt HT.out fun w2 hb2 => ?_
        have K2 := Lib.hid (K1.out.2.trans (hb2.mono K1.out.2.size))
        clear hb2
        go_wp2_with fail
        go_ret
        exact ⟨by rw [HI.out, HH.out]; rfl, K2.out⟩
      · have HH := Lib.hid (show head 2 tt xl = false by unfold head; rw [if_neg (by decide), if_pos rfl]; simp [hz])
        have hzi : ((xl.len : Int) == 0) = false := by simp; omega
        clear hz
        go_wp2_with fail
        go_ret
        exact ⟨by rw [HI.out, HH.out]; rfl, K1.out.2⟩
    by_cases e3 : kd = 3
    · subst e3
      have HH := Lib.hid (show head 3 tt xl = tt.isEmpty by unfold head; rw [if_neg (by decide), if_neg (by decide), if_pos rfl])
      go_wp2_with fail
      go_ret
      exact ⟨by rw [HI.out, HH.out]; rfl, K1.out.2⟩
    by_cases e4 : kd = 4
    · subst e4
      have HH := Lib.hid (show head 4 tt xl = To.name tt by unfold head; rw [if_neg (by decide), if_neg (by decide), if_neg (by decide), if_pos rfl])
      go_wp2_with fail
      refine name_t tt HT.out fun w2 hb2 => ?_
      have K2 := Lib.hid (K1.out.2.trans (hb2.mono K1.out.2.size))
      clear hb2
      go_wp2_with fail
      go_ret
      exact ⟨by rw [HI.out, HH.out]; rfl, K2.out⟩
    by_cases e67 : kd = 6 ∨ kd = 7
    · by_cases hz : xl.len = 1
      · have HH := Lib.hid (show head kd tt xl = tt.isEmpty by unfold head; rw [if_neg (by omega), if_neg (by omega), if_neg (by omega), if_neg (by omega), if_pos e67, hz]; rfl)
        have hzi : (xl.len : Int) = 1 := by omega
        clear hz e1 e2 e3 e4
        rcases e67 with rfl | rfl
        all_goals
          go_wp2_with fail
          go_ret
          exact ⟨by rw [HI.out, HH.out]; rfl, K1.out.2⟩
      · have HH := Lib.hid (show head kd tt xl = false by unfold head; rw [if_neg (by omega), if_neg (by omega), if_neg (by omega), if_neg (by omega), if_pos e67]; simp [hz])
        have hzi : ((xl.len : Int) == 1) = false := by simp; omega
        clear hz e1 e2 e3 e4
        rcases e67 with rfl | rfl
        all_goals
          go_wp2_with fail
          go_ret
          exact ⟨by rw [HI.out, HH.out]; rfl, K1.out.2⟩
    by_cases e5 : kd = 5
    · subst e5
      clear e1 e2 e3 e4 e67
      by_cases ht : tt = [94]
      · subst ht
        by_cases hz : xl.len = 2
        · have hz2 : xl.items.length = 2 := hz
          obtain ⟨a, c, ev, _, hc⟩ := (Y.out.2.2.below (K1.out.2.mono Y.out.2.1)).open_
          obtain ⟨b, off, v1, v2, v3, ea, _, hN⟩ := hc 1 (by omega)
          cases ev
          subst ea
          have d0 := hN.d0
          obtain ⟨k2, hk2⟩ : ∃ k2, k2 = (xl.items[1]).kind := ⟨_, rfl⟩
          rw [← hk2, Nat.one_mul] at d0
          have HH := Lib.hid (show head 5 [94] xl = (k2 == 1) by unfold head; rw [if_neg (by decide), if_neg (by decide), if_neg (by decide), if_neg (by decide), if_neg (by decide), if_pos rfl, if_pos rfl, raised_two xl hz2, hk2])
          have hzi : (xl.len : Int) = 2 := by omega
          have k2n : (0 : Int) ≤ (k2 : Int) := by omega
          have he : ((k2 : Int) == 1) = (k2 == 1) := by rw [Bool.eq_iff_iff]; simp; omega
          clear hz hz2 hc hN hk2
          go_wp2_with fail
          go_ret
          exact ⟨by rw [HI.out, HH.out]; simp, K1.out.2⟩
        · have HH := Lib.hid (show head 5 [94] xl = false by unfold head; rw [if_neg (by decide), if_neg (by decide), if_neg (by decide), if_neg (by decide), if_neg (by decide), if_pos rfl, if_pos rfl, raised_not xl hz])
          have hzi : ((xl.len : Int) == 2) = false := by simp; omega
          clear hz
          go_wp2_with fail
          go_ret
          exact ⟨by rw [HI.out, HH.out]; rfl, K1.out.2⟩
      · have hte : (tt == [94]) = false := by simpa using ht
        by_cases hz : xl.len = 2
        · have HH := Lib.hid (show head 5 tt xl = decide (tt ∈ Nd.signs) by unfold head; rw [if_neg (by decide), if_neg (by decide), if_neg (by decide), if_neg (by decide), if_neg (by decide), if_pos rfl, if_neg ht, hz, List.contains_eq_mem]; rfl)
          have hzi : (xl.len : Int) = 2 := by omega
          clear hz ht
          have hA1 := Below.alloc (Below.refl w1.heap.size w1) (Nat.le_refl _) (.cells #[.string (bs [43]), .string (bs [45]), .string (bs [42]), .string (bs [47]), .string (bs [61, 61]), .string (bs [33, 61]), .string (bs [60]), .string (bs [60, 61])] 9)
          have HA1 := Lib.hid hA1
          have q1' := fun o => box_later (K1.out.1.alloc K1.out.1.size o) 1
          simp at q1'
          clear hA1
          go_wp2_with fail
          refine signs_t tt ?_
          go_wp2_with fail
          go_ret
          exact ⟨by rw [HI.out, HH.out]; rfl, K1.out.2.trans (HA1.out.mono K1.out.2.size)⟩
        · have HH := Lib.hid (show head 5 tt xl = false by unfold head; rw [if_neg (by decide), if_neg (by decide), if_neg (by decide), if_neg (by decide), if_neg (by decide), if_pos rfl, if_neg ht]; simp [hz])
          have hzi : ((xl.len : Int) == 2) = false := by simp; omega
          clear hz ht
          go_wp2_with fail
          go_ret
          exact ⟨by rw [HI.out, HH.out]; rfl, K1.out.2⟩
    · have HH := Lib.hid (head_other kd tt xl e1 e2 e3 e4 e5 (fun h => e67 (.inl h)) (fun h => e67 (.inr h)))
      have f1 : ((kd : Int) == 1) = false := by simp; omega
      have f2 : ((kd : Int) == 2) = false := by simp; omega
      have f3 : ((kd : Int) == 3) = false := by simp; omega
      have f4 : ((kd : Int) == 4) = false := by simp; omega
      have f5 : ((kd : Int) == 5) = false := by simp; omega
      have f6 : ((kd : Int) == 6) = false := by simp; omega
      have f7 : ((kd : Int) == 7) = false := by simp; omega
      clear e1 e2 e3 e4 e5 e67
      go_wp2_with fail
      go_ret
      exact ⟨by rw [HI.out, HH.out]; rfl, K1.out.2⟩

theorem expr_said (tw : Bool) (B : Nat) : ∀ xs : Ns, ∀ x ∈ xs.items, Asked tw B 48 exprOne x :=
  Ns.each fun _ ih x hx => expr_one (ih x hx).1
end Go.Proofs.YtiefpffccmdcoaaDoor
