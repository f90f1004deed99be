/- Trees: the reader: statements as a whole. -/
import Derived.Test.YtobpnjnfpgcpaaaGreatDoorPxStmt2T
namespace Go.Proofs.YtobpnjnfpgcpaaaGreatDoor
open Go.RowKit Go.My Go.Nd

theorem Reads.less {fn : FuncId} {args : Array Value} {rb : Nat} {tv : Value} {xs : List To.T} {inn : Bool} {K : World → Prop} {n m : Nat} {read : List Tx → R Nd} (h : Reads fn args rb tv xs inn K n read) (hm : m ≤ n) : Reads fn args rb tv xs inn K m read :=
  fun w ts hl hk hr => h w ts (Nat.le_trans hl hm) hk hr
theorem readsB_of {rb : Nat} {tv : Value} {xs : List To.T} {inn : Bool} {n : Nat} (h : Reads 62 #[.pointer (some ⟨rb, 0, none⟩)] rb tv xs inn (fun _ => True) n (stm inn)) : ReadsB rb tv xs inn n :=
  fun _ _ hl hr => block_r h (Nat.le_trans hl (Nat.le_succ _)) hr

theorem rowsF_if (rb : Nat) (inn : Bool) : rowsF rb inn [105, 102] = some (rdFn rb 96) := by
  unfold rowsF; rw [if_neg (fun e => absurd e.2 (by decide)), if_neg (by decide), if_neg (by decide), if_pos rfl]
theorem rowsF_while (rb : Nat) (inn : Bool) : rowsF rb inn [119, 104, 105, 108, 101] = some (rdFn rb 97) := by
  unfold rowsF; rw [if_neg (fun e => absurd e.2 (by decide)), if_neg (by decide), if_pos rfl]
theorem rowsF_tell (rb : Nat) (inn : Bool) : rowsF rb inn [116, 101, 108, 108] = some (rdFn rb 98) := by
  unfold rowsF; rw [if_neg (fun e => absurd e.2 (by decide)), if_pos rfl]
theorem rowsF_return (rb : Nat) : rowsF rb true [114, 101, 116, 117, 114, 110] = some (rdFn rb 99) := by
  unfold rowsF; rw [if_pos ⟨rfl, rfl⟩]
set_option maxRecDepth 100000 in
theorem stm_step {rb : Nat} {tv : Value} {xs : List To.T} {inn : Bool} {w : World} {ts : List Tx} (ih : ∀ s r, ts = s :: r → Reads 62 #[.pointer (some ⟨rb, 0, none⟩)] rb tv xs inn (fun _ => True) r.length (stm inn)) (h : Rd w rb tv xs ts inn) :
    Calls Tryz.prog 62 #[.pointer (some ⟨rb, 0, none⟩)] w (Got w rb tv xs inn (stm inn ts)) := by
  cases ts with
  | nil =>
    rw [stm_nil]
    exact stmt_do (rowsF_nil rb inn) (.inl (by decide)) h
  | cons s r =>
    have hs := readsB_of (ih s r rfl)
    rw [stm_cons]
    by_cases h1 : s = [105, 102]
    · subst h1
      rw [if_pos rfl]
      exact stmt_row (rowsF_if rb inn) (fun _ => rfl) (fun w hr => branch_r hs (Nat.le_refl _) hr) h
    · rw [if_neg h1]
      by_cases h2 : s = [119, 104, 105, 108, 101]
      · subst h2
        rw [if_pos rfl]
        exact stmt_row (rowsF_while rb inn) (fun _ => rfl) (fun w hr => loop_r hs (Nat.le_refl _) hr) h
      · rw [if_neg h2]
        by_cases h3 : s = [116, 101, 108, 108]
        · subst h3
          rw [if_pos rfl]
          exact stmt_row (rowsF_tell rb inn) (fun _ => rfl) (fun w hr => tell_t hr) h
        · rw [if_neg h3]
          by_cases h4 : (inn && s == [114, 101, 116, 117, 114, 110]) = true
          · rw [if_pos h4]
            simp only [Bool.and_eq_true, beq_iff_eq] at h4
            obtain ⟨rfl, rfl⟩ := h4
            exact stmt_row (rowsF_return rb) (fun _ => rfl) (fun w hr => answer_t hr) h
          · rw [if_neg h4]
            have hrow : rowsF rb inn s = none := by
              unfold rowsF
              rw [if_neg (by intro e; exact h4 (by simp [e.1, e.2])), if_neg h3, if_neg h2, if_neg h1]
            cases r with
            | nil => exact stmt_do hrow (.inr (by simp)) h
            | cons p r =>
              simp only
              by_cases h5 : (To.name s && p == [61]) = true
              · rw [if_pos h5]
                simp only [Bool.and_eq_true, beq_iff_eq] at h5
                obtain ⟨h5, rfl⟩ := h5
                exact stmt_let hrow h5 h
              · rw [if_neg h5]
                refine stmt_do hrow ?_ h
                cases h6 : To.name s with
                | false => exact .inl h6
                | true => exact .inr (by intro e; exact h5 (by rw [h6]; simpa using e))

/-- STATEMENTS. -/
theorem stm_r {rb : Nat} {tv : Value} {xs : List To.T} {inn : Bool} : ∀ n, Reads 62 #[.pointer (some ⟨rb, 0, none⟩)] rb tv xs inn (fun _ => True) n (stm inn) := by
  intro n
  induction n with
  | zero =>
    intro w ts hn _ h
    have : ts = [] := List.eq_nil_of_length_eq_zero (by omega)
    subst this
    exact stm_step (fun s r e => by cases e) h
  | succ n ih =>
    intro w ts hn _ h
    refine stm_step (fun s r e => ?_) h
    subst e
    exact ih.less (by rw [List.length_cons] at hn; omega)
theorem stm_t {rb : Nat} {tv : Value} {xs : List To.T} {inn : Bool} {w : World} {ts : List Tx} (h : Rd w rb tv xs ts inn) : Calls Tryz.prog 62 #[.pointer (some ⟨rb, 0, none⟩)] w (Got w rb tv xs inn (stm inn ts)) :=
  stm_r ts.length w ts (Nat.le_refl _) trivial h
theorem block_t {rb : Nat} {tv : Value} {xs : List To.T} {inn : Bool} {w : World} {ts : List Tx} (h : Rd w rb tv xs ts inn) : Calls Tryz.prog 95 #[.pointer (some ⟨rb, 0, none⟩)] w (GotL w rb tv xs inn (block (stm inn) ts)) :=
  block_r (stm_r ts.length) (Nat.le_succ _) h
end Go.Proofs.YtobpnjnfpgcpaaaGreatDoor
