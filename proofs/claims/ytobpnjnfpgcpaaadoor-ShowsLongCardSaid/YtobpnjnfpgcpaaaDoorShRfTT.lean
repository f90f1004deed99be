/- Shows, as the document has it: every expression. -/
import Derived.Test.YtobpnjnfpgcpaaaDoorShRfQT
import Derived.Test.YtobpnjnfpgcpaaaDoorTrA2
namespace Go.Proofs.YtobpnjnfpgcpaaaDoor
open Go.RowKit Go.My Go.Nd

theorem rexpr_one_ok {tw : Bool} (x : Nd) (hx : okx x = true) (hsz : 1 + x.text.length + x.l.sz ≤ 1048576) (ih : ∀ y ∈ x.l.items, RExprOk tw y) : RExprOk tw x := by
  have hlen : ∀ y ∈ x.l.items, y.sh.length ≤ 17592186044416 := fun y hy => by
    have h1 := nd_sh_len y
    have h2 := item_sz _ y hy
    omega
  have hsep : tot (x.l.items.map Nd.sh) ≤ 17592186044416 := by
    have h2 := sh_tot x.l
    rw [sh_items] at h2
    omega
  obtain ⟨k, t, l, b, e⟩ := x
  unfold okx at hx
  simp only [Bool.and_eq_true, beq_iff_eq] at hx hsz ih hlen hsep
  obtain ⟨⟨⟨_, _⟩, hl⟩, hh⟩ := hx
  unfold head at hh
  by_cases k1 : k = 1
  · subst k1
    exact rexpr_leaf (by simp) (by simp) (by simp) (by simp) (by simp)
  · rw [if_neg k1] at hh
    by_cases k2 : k = 2
    · subst k2
      exact rexpr_leaf (by simp) (by simp) (by simp) (by simp) (by simp)
    · rw [if_neg k2] at hh
      by_cases k3 : k = 3
      · exact rexpr_list k3 ih hsep
      · rw [if_neg k3] at hh
        by_cases k4 : k = 4
        · exact rexpr_call k4 ih (by simp only; omega) hsep
        · rw [if_neg k4] at hh
          by_cases k67 : k = 6 ∨ k = 7
          · rw [if_pos k67] at hh
            simp only [Bool.and_eq_true, beq_iff_eq, List.isEmpty_iff] at hh
            obtain ⟨h1, rfl⟩ := hh
            obtain ⟨a, rfl⟩ := one_of h1
            have hia : (Ns.of [a]).items = [a] := Ns.items_of _
            have ga := ih a (by rw [hia]; simp)
            have la := hlen a (by rw [hia]; simp)
            rcases k67 with k6 | k7
            · exact rexpr_neg k6 hia ga la
            · exact rexpr_not k7 hia ga la
          · rw [if_neg k67] at hh
            by_cases k5 : k = 5
            · subst k5
              rw [if_pos rfl] at hh
              by_cases ht : t = [94]
              · subst ht
                rw [if_pos rfl] at hh
                obtain ⟨a, b, rfl, _⟩ := raised_two hh
                have hia : (Ns.of [a, b]).items = [a, b] := Ns.items_of _
                exact rexpr_pow rfl rfl hia (ih a (by rw [hia]; simp)) (ih b (by rw [hia]; simp)) (hlen a (by rw [hia]; simp)) (hlen b (by rw [hia]; simp)) (by simp)
              · rw [if_neg ht] at hh
                simp only [Bool.and_eq_true, beq_iff_eq] at hh
                obtain ⟨h2, _⟩ := hh
                obtain ⟨a, b, rfl⟩ := two_of h2
                have hia : (Ns.of [a, b]).items = [a, b] := Ns.items_of _
                have ga := ih a (by rw [hia]; simp)
                have gb := ih b (by rw [hia]; simp)
                have la := hlen a (by rw [hia]; simp)
                have lb := hlen b (by rw [hia]; simp)
                have hr : rkx 5 t = 1 ∨ rkx 5 t = 2 ∨ rkx 5 t = 3 := by unfold rkx; rw [if_neg (by decide), if_pos rfl, if_neg ht]; (repeat' split) <;> simp
                rcases hr with hr | hr | hr
                · exact rexpr_two1 rfl ht hr hia ga gb la lb (by simp only; omega)
                · exact rexpr_two2 rfl ht hr hia ga gb la lb (by simp only; omega)
                · exact rexpr_two3 rfl ht hr hia ga gb la lb (by simp only; omega)
            · rw [if_neg k5] at hh; cases hh
theorem rexpr_all_ok (tw : Bool) : ∀ xs : Ns, xs.sz ≤ 1048576 → ∀ x ∈ xs.items, okx x = true → RExprOk tw x := by
  intro xs
  induction xs with
  | nil => intro _ x hx; cases hx
  | cons k t l b e r il _ _ ir =>
    intro hs x hx ho
    have hs' : 1 + t.length + l.sz + b.sz + e.sz + r.sz ≤ 1048576 := hs
    rcases List.mem_cons.1 hx with rfl | hx
    · refine rexpr_one_ok _ ho (by simp only; omega) fun y hy => il (by omega) y hy ?_
      unfold okx at ho
      simp only [Bool.and_eq_true] at ho
      have := ho.1.2
      rw [Nd.exprs_items] at this
      exact List.all_eq_true.1 this y hy
    · exact ir (by omega) x hx ho
theorem rexpr_ok (tw : Bool) (x : Nd) (h : okx x = true) (hs : 1 + x.text.length + x.l.sz + x.body.sz + x.els.sz ≤ 1048576) : RExprOk tw x :=
  rexpr_all_ok tw (Ns.of [x]) (by show 1 + x.text.length + x.l.sz + x.body.sz + x.els.sz + 0 ≤ _; omega) x (by rw [Ns.items_of]; simp) h
end Go.Proofs.YtobpnjnfpgcpaaaDoor
