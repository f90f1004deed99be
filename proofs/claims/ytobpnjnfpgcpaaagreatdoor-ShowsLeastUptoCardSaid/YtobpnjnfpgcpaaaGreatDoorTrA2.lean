/- Texts put together: ShBlocks, ShIndent, PsBulk, ShLeast3. -/
import Derived.Test.YtobpnjnfpgcpaaaGreatDoorTrA1

/- Programs as they are written, plainly: statements in a block; what is in a list, or a call. No program in sight. -/
namespace Go.Nd

/-- One byte 9 more ahead of each line. -/
def indent : Bool → Tx → Tx
  | _, [] => []
  | b, c :: r => (if b then [9] else []) ++ c :: indent (c == 10) r
theorem indent_mid (u r : Tx) (h : ∀ c ∈ u, c ≠ 10) : indent false (u ++ r) = u ++ indent false r := by
  induction u with
  | nil => rfl
  | cons c u ih =>
    have hc : (c == 10) = false := by simpa using h c (by simp)
    show ([] : Tx) ++ c :: indent (c == 10) (u ++ r) = _
    rw [hc, ih fun d hd => h d (List.mem_cons_of_mem _ hd)]; rfl
/-- A line. -/
theorem indent_line (u r : Tx) (h : ∀ c ∈ u, c ≠ 10) (hn : u ≠ []) : indent true (u ++ 10 :: r) = 9 :: (u ++ 10 :: indent true r) := by
  cases u with
  | nil => exact absurd rfl hn
  | cons c u =>
    have hc : (c == 10) = false := by simpa using h c (by simp)
    show [9] ++ c :: indent (c == 10) (u ++ 10 :: r) = _
    rw [hc, indent_mid u _ fun d hd => h d (List.mem_cons_of_mem _ hd)]
    rfl
theorem indent_tabs (d : Nat) (u r : Tx) (h : ∀ c ∈ u, c ≠ 10) (hn : u ≠ []) : indent true (tabs d ++ (u ++ 10 :: r)) = tabs (d + 1) ++ (u ++ 10 :: indent true r) := by
  have e : tabs d ++ (u ++ 10 :: r) = (tabs d ++ u) ++ 10 :: r := by rw [List.append_assoc]
  rw [e, indent_line]
  · show 9 :: (tabs d ++ u ++ 10 :: indent true r) = tabs (d + 1) ++ _
    unfold tabs
    rw [List.replicate_succ, List.append_assoc]; rfl
  · intro c hc
    rcases List.mem_append.1 hc with hc | hc
    · have := List.eq_of_mem_replicate hc; subst this; decide
    · exact h c hc
  · intro e
    simp only [List.append_eq_nil_iff] at e
    exact hn e.2

theorem nl_app {a b : Tx} (ha : ∀ c ∈ a, c ≠ 10) (hb : ∀ c ∈ b, c ≠ 10) : ∀ c ∈ a ++ b, c ≠ 10 := fun c hc => (List.mem_append.1 hc).elim (ha c) (hb c)
theorem indent_one {inner : Bool} {k : Nat} {t : Tx} {l b e : Ns} (h : oks inner ⟨k, t, l, b, e⟩ = true) (d : Nat)
    (hb : ∀ d r, indent true (b.lines d ++ r) = b.lines (d + 1) ++ indent true r) (he : ∀ d r, indent true (e.lines d ++ r) = e.lines (d + 1) ++ indent true r) (r : Tx) :
    indent true (lineOf k t (l.sh.getD 0 []) d (b.lines (d + 1)) (e.lines (d + 1)) (e.len != 0) ++ r) = lineOf k t (l.sh.getD 0 []) (d + 1) (b.lines (d + 1 + 1)) (e.lines (d + 1 + 1)) (e.len != 0) ++ indent true r := by
  have h0 := h
  obtain ⟨x, rfl, gx, h3, h4, h5⟩ := oks_one h
  have hx : okx x = true := by
    unfold oks at h0
    simp only [Bool.and_eq_true] at h0
    have := h0.1.1.1.2
    rw [exprs_items, Ns.items_of] at this
    simpa using this
  have nx := (bal_x x hx).nl
  rw [sh_of_one]
  unfold lineOf
  by_cases k9 : k = 9
  · subst k9
    simp only [if_true]
    have n1 : ∀ c ∈ ([105, 102, 32] ++ x.sh ++ [32, 123] : Tx), c ≠ 10 := nl_app (nl_app (by decide) nx) (by decide)
    cases hels : (e.len != 0) with
    | true =>
      simp only [if_true]
      have e1 : ∀ d (lb le r : Tx), tabs d ++ ([105, 102, 32] ++ x.sh ++ [32, 123, 10] ++ lb ++ tabs d ++ ([125, 32, 101, 108, 115, 101, 32, 123, 10] ++ le ++ tabs d) ++ [125, 10]) ++ r =
          tabs d ++ (([105, 102, 32] ++ x.sh ++ [32, 123]) ++ 10 :: (lb ++ (tabs d ++ ([125, 32, 101, 108, 115, 101, 32, 123] ++ 10 :: (le ++ (tabs d ++ ([125] ++ 10 :: r))))))) := by
        intro d lb le r; simp [List.append_assoc]
      rw [e1, e1, indent_tabs _ _ _ n1 (by simp), hb, indent_tabs _ _ _ (by decide) (by simp), he, indent_tabs _ _ _ (by decide) (by simp)]
    | false =>
      simp only [Bool.false_eq_true, if_false]
      have e1 : ∀ d (lb r : Tx), tabs d ++ ([105, 102, 32] ++ x.sh ++ [32, 123, 10] ++ lb ++ tabs d ++ [] ++ [125, 10]) ++ r =
          tabs d ++ (([105, 102, 32] ++ x.sh ++ [32, 123]) ++ 10 :: (lb ++ (tabs d ++ ([125] ++ 10 :: r)))) := by
        intro d lb r; simp [List.append_assoc]
      rw [e1, e1, indent_tabs _ _ _ n1 (by simp), hb, indent_tabs _ _ _ (by decide) (by simp)]
  · rw [if_neg k9, if_neg k9]
    by_cases k10 : k = 10
    · subst k10
      simp only [if_true]
      have n1 : ∀ c ∈ ([119, 104, 105, 108, 101, 32] ++ x.sh ++ [32, 123] : Tx), c ≠ 10 := nl_app (nl_app (by decide) nx) (by decide)
      have e1 : ∀ d (lb r : Tx), tabs d ++ ([119, 104, 105, 108, 101, 32] ++ x.sh ++ [32, 123, 10] ++ lb ++ tabs d ++ [125, 10]) ++ r =
          tabs d ++ (([119, 104, 105, 108, 101, 32] ++ x.sh ++ [32, 123]) ++ 10 :: (lb ++ (tabs d ++ ([125] ++ 10 :: r)))) := by
        intro d lb r; simp [List.append_assoc]
      rw [e1, e1, indent_tabs _ _ _ n1 (by simp), hb, indent_tabs _ _ _ (by decide) (by simp)]
    · rw [if_neg k10, if_neg k10]
      have na : ∀ c ∈ aheadOf k t, c ≠ 10 := by
        unfold aheadOf
        split
        · rename_i k8
          subst k8
          unfold form at h5
          simp only [Nat.reduceEqDiff, if_false, if_true, Bool.and_eq_true] at h5
          exact nl_app (bal_name h5.2).nl (by decide)
        · split
          · decide
          · split <;> decide
      have n1 : ∀ c ∈ (aheadOf k t ++ x.sh ++ [59] : Tx), c ≠ 10 := nl_app (nl_app na nx) (by decide)
      have e1 : ∀ d (r : Tx), tabs d ++ (aheadOf k t ++ x.sh ++ [59, 10]) ++ r = tabs d ++ ((aheadOf k t ++ x.sh ++ [59]) ++ 10 :: r) := by
        intro d r; simp [List.append_assoc]
      rw [e1, e1, indent_tabs _ _ _ n1 (by simp)]
theorem indent_lines : ∀ (xs : Ns) (inner : Bool), stmts inner xs = true → ∀ d r, indent true (xs.lines d ++ r) = xs.lines (d + 1) ++ indent true r := by
  intro xs
  induction xs with
  | nil => intro _ _ _ _; rfl
  | cons k t l b e rest _ ib ie ir =>
    intro inner h d r
    rw [stmts_items] at h
    have ho : oks inner ⟨k, t, l, b, e⟩ = true := List.all_eq_true.1 h _ (List.mem_cons_self ..)
    have hrest : stmts inner rest = true := by
      have : (oks inner ⟨k, t, l, b, e⟩ && rest.items.all (oks inner)) = true := h
      rw [stmts_items]; simp only [Bool.and_eq_true] at this; exact this.2
    obtain ⟨_, _, _, hb, he, _⟩ := oks_one ho
    show indent true (lineOf k t (l.sh.getD 0 []) d (b.lines (d + 1)) (e.lines (d + 1)) (e.len != 0) ++ rest.lines d ++ r) = lineOf k t (l.sh.getD 0 []) (d + 1) (b.lines (d + 1 + 1)) (e.lines (d + 1 + 1)) (e.len != 0) ++ rest.lines (d + 1) ++ indent true r
    rw [List.append_assoc, indent_one ho d (ib inner hb) (ie inner he), ir inner hrest d r, List.append_assoc]
theorem indent_is (xs : Ns) (inner : Bool) (h : stmts inner xs = true) (d : Nat) : indent true (xs.lines d) = xs.lines (d + 1) := by
  have := indent_lines xs inner h d []
  rw [List.append_nil] at this
  rw [this]
  show xs.lines (d + 1) ++ [] = _
  rw [List.append_nil]
theorem indent_len : ∀ (s : Tx) (b : Bool), s.length ≤ (indent b s).length := by
  intro s
  induction s with
  | nil => intro b; exact Nat.zero_le _
  | cons c s ih =>
    intro b
    show s.length + 1 ≤ ((if b then [9] else []) ++ c :: indent (c == 10) s).length
    have := ih (c == 10)
    rw [List.length_append, List.length_cons]
    omega

/-- Statements in blocks. -/
def blkP (l : Ns) : Pr := ⟨[⟨[102], [], l⟩], .cons 9 [] (Ns.of [leaf 1 [49]]) l l .nil⟩
def want (i : Tx) (els : Bool) : Tx := [102, 110, 32, 102, 40, 41, 32, 123, 10] ++ i ++ [125, 10, 105, 102, 32, 49, 32, 123, 10] ++ i ++ (if els then [125, 32, 101, 108, 115, 101, 32, 123, 10] ++ i else []) ++ [125, 10]
theorem blk_text (l : Ns) : progText (blkP l) = want (l.lines 1) (l.len != 0) := by
  have e1 : progText (blkP l) = (([102, 110, 32] ++ [102] ++ [40] ++ sepx [44, 32] [] ++ [41, 32, 123, 10] ++ l.lines 1 ++ [125, 10]) ++ []) ++ (lineOf 9 [] ((Ns.of [leaf 1 [49]]).sh.getD 0 []) 0 (l.lines 1) (l.lines 1) (l.len != 0) ++ []) := rfl
  rw [e1, sh_of_one]
  have e2 : (leaf 1 [49]).sh = [49] := rfl
  rw [e2]
  unfold lineOf want tabs
  cases l.len != 0 with
  | true => simp [sepx]
  | false => simp [sepx]
theorem blk_check {wrap : Int → Int} {l : Ns} (h : check wrap (blkP l) = true) : check wrap ⟨[], l⟩ = true := by
  obtain ⟨h1, h2, h3⟩ := check_parts h
  have h4 : great wrap l = false := by
    simp only [Bool.or_eq_false_iff] at h3
    have := h3.2
    simp [blkP] at this
    exact this
  have h5 : stmts false l = true := by
    rw [stmts_items] at h2
    have h6 : oks false ⟨9, [], Ns.of [leaf 1 [49]], l, l⟩ = true := List.all_eq_true.1 h2 _ (List.mem_cons_self ..)
    obtain ⟨_, _, _, h7, _, _⟩ := oks_one h6
    exact h7
  unfold check
  simp [h4, h5]
theorem blocks_law (wrap : Int → Int) (l : Ns) :
    ((showP wrap ⟨[], l⟩).2 ≠ 0 → (showP wrap (blkP l)).2 ≠ 0) ∧
    ((showP wrap ⟨[], l⟩).2 = 0 → (showP wrap ⟨[], l⟩).1.length ≤ 65536 ∧ check wrap ⟨[], l⟩ = true ∧
      ((showP wrap (blkP l)).2 = 0 ∧ (showP wrap (blkP l)).1 = want (indent true (showP wrap ⟨[], l⟩).1) (l.len != 0) ∨ (showP wrap (blkP l)).2 = 1 ∨ (showP wrap (blkP l)).2 = 3 ∧ 65536 < (want (indent true (showP wrap ⟨[], l⟩).1) (l.len != 0)).length)) := by
  have et : progText ⟨[], l⟩ = l.lines 0 := rfl
  constructor
  · intro h
    unfold showP at h ⊢
    by_cases hc2 : check wrap (blkP l) = true
    · have hc := blk_check hc2
      rw [if_pos hc] at h
      rw [if_pos hc2]
      have hl : 65536 < (l.lines 0).length := by
        by_cases hh : 65536 < (progText ⟨[], l⟩).length
        · rw [et] at hh; exact hh
        · rw [if_neg hh] at h; exact absurd rfl h
      have hi : (l.lines 0).length ≤ (l.lines 1).length := by
        have hi := indent_len (l.lines 0) true
        rw [indent_is l false (check_parts hc).2.1] at hi
        exact hi
      have : 65536 < (progText (blkP l)).length := by
        rw [blk_text]; unfold want; simp only [List.length_append]; omega
      rw [if_pos this]
      exact fun e => by cases e
    · rw [if_neg hc2]
      exact fun e => by cases e
  · intro h
    have hc : check wrap ⟨[], l⟩ = true := by
      cases hh : check wrap ⟨[], l⟩ with
      | true => rfl
      | false => unfold showP at h; rw [hh] at h; simp at h
    have hl : ¬ 65536 < (progText ⟨[], l⟩).length := by
      intro hh
      unfold showP at h
      rw [if_pos hc, if_pos hh] at h
      cases h
    have hs : showP wrap ⟨[], l⟩ = (l.lines 0, 0) := by unfold showP; rw [if_pos hc, if_neg hl, et]
    rw [hs]
    simp only
    rw [indent_is l false (check_parts hc).2.1, ← blk_text]
    refine ⟨by rw [et] at hl; omega, hc, ?_⟩
    unfold showP
    by_cases hc2 : check wrap (blkP l) = true
    · rw [if_pos hc2]
      by_cases h6 : 65536 < (progText (blkP l)).length
      · rw [if_pos h6]; exact .inr (.inr ⟨rfl, h6⟩)
      · rw [if_neg h6]; exact .inl ⟨rfl, rfl⟩
    · rw [if_neg hc2]; exact .inr (.inl rfl)

/-! ### What is in a list, or a call -/
def listX (l : Ns) : Nd := ⟨3, [], l, .nil, .nil⟩
def callX (l : Ns) : Nd := ⟨4, [102], l, .nil, .nil⟩
theorem parts_check (wrap : Int → Int) (l : Ns) : check wrap (stOf (callX l)) = check wrap (stOf (listX l)) := by
  have h : To.name [102] = true := by decide
  unfold check stOf callX listX Nd.one
  simp [stmts, exprs, head, form, h, great, deep, long]
  rfl
theorem parts_text (l : Ns) : (listX l).sh = [91] ++ sepx [44, 32] (l.items.map Nd.sh) ++ [93] ∧ (callX l).sh = [102, 40] ++ sepx [44, 32] (l.items.map Nd.sh) ++ [41] := by
  constructor
  · rw [nd_sh]; rfl
  · rw [nd_sh]; rfl
theorem sepx_snoc (sep : Tx) (t : Tx) : ∀ l : List Tx, l ≠ [] → sepx sep (l ++ [t]) = sepx sep l ++ sep ++ t := by
  intro l
  induction l with
  | nil => intro h; exact absurd rfl h
  | cons s l ih =>
    intro _
    cases l with
    | nil => rfl
    | cons u l =>
      show s ++ sep ++ sepx sep (u :: l ++ [t]) = s ++ sep ++ sepx sep (u :: l) ++ sep ++ t
      have e : sepx sep (u :: l ++ [t]) = _ := ih (by simp)
      rw [e]; simp only [List.append_assoc]
def threeP (l : Ns) : Pr := ⟨[], .cons 12 [] l .nil .nil (.cons 8 [120] l .nil .nil (.cons 10 [] l .nil .nil .nil))⟩
theorem three_text (x : Nd) : progText (threeP (Ns.of [x])) = [116, 101, 108, 108, 32] ++ x.sh ++ [59, 10, 120, 32, 61, 32] ++ x.sh ++ [59, 10, 119, 104, 105, 108, 101, 32] ++ x.sh ++ [32, 123, 10, 125, 10] := by
  have e1 : progText (threeP (Ns.of [x])) = [] ++ (lineOf 12 [] ((Ns.of [x]).sh.getD 0 []) 0 [] [] false ++ (lineOf 8 [120] ((Ns.of [x]).sh.getD 0 []) 0 [] [] false ++ (lineOf 10 [] ((Ns.of [x]).sh.getD 0 []) 0 [] [] false ++ []))) := rfl
  rw [e1, sh_of_one]
  simp [lineOf, aheadOf, tabs]
end Go.Nd

/- Programs as they are written, plainly: one byte 9 more ahead of each line, byte by byte; what is in a list, one by one. No program in sight. -/
namespace Go.Nd

/-- Does a line begin behind a text? -/
def lastB : Bool → Tx → Bool
  | b, [] => b
  | _, c :: r => lastB (c == 10) r
theorem indent_snoc (c : UInt8) : ∀ (s : Tx) (b : Bool), indent b (s ++ [c]) = indent b s ++ ((if lastB b s then [9] else []) ++ [c]) := by
  intro s
  induction s with
  | nil => intro b; cases b <;> rfl
  | cons d s ih =>
    intro b
    show (if b then [9] else []) ++ d :: indent (d == 10) (s ++ [c]) = (if b then [9] else []) ++ d :: indent (d == 10) s ++ _
    rw [ih]
    simp only [lastB, List.append_assoc, List.cons_append]
    rfl
theorem lastB_snoc (c : UInt8) : ∀ (s : Tx) (b : Bool), lastB b (s ++ [c]) = (c == 10) := by
  intro s
  induction s with
  | nil => intro b; rfl
  | cons d s ih => intro b; exact ih _
theorem indent_le : ∀ (s : Tx) (b : Bool), (indent b s).length ≤ 2 * s.length := by
  intro s
  induction s with
  | nil => intro b; exact Nat.zero_le _
  | cons c s ih =>
    intro b
    show ((if b then [9] else []) ++ c :: indent (c == 10) s).length ≤ 2 * (s.length + 1)
    have := ih (c == 10)
    rw [List.length_append, List.length_cons]
    cases b with
    | true => simp only [if_true, List.length_cons, List.length_nil]; omega
    | false => simp only [Bool.false_eq_true, if_false, List.length_nil]; omega
/-- So much of it. -/
def indN (s : Tx) (i : Nat) : Tx := indent true (s.take i)
def begN (s : Tx) (i : Nat) : Bool := lastB true (s.take i)
theorem indN_step {s : Tx} {i : Nat} (h : i < s.length) : indN s (i + 1) = indN s i ++ ((if begN s i then [9] else []) ++ [s[i]]) := by
  unfold indN begN
  rw [List.take_succ_eq_append_getElem h, indent_snoc]
theorem begN_step {s : Tx} {i : Nat} (h : i < s.length) : begN s (i + 1) = (s[i] == 10) := by
  unfold begN
  rw [List.take_succ_eq_append_getElem h, lastB_snoc]
theorem indN_zero (s : Tx) : indN s 0 = [] := rfl
theorem begN_zero (s : Tx) : begN s 0 = true := rfl
theorem indN_all (s : Tx) : indN s s.length = indent true s := by unfold indN; rw [List.take_length]
theorem indN_le (s : Tx) (i : Nat) : (indN s i).length ≤ 2 * s.length := by
  have h := indent_le (s.take i) true
  have h2 : (s.take i).length ≤ s.length := by rw [List.length_take]; omega
  unfold indN
  omega

/-! ### Things with commas between, one by one -/
def sepN (l : List Nd) (i : Nat) : Tx := sepx [44, 32] ((l.take i).map Nd.sh)
theorem sepN_zero (l : List Nd) : sepN l 0 = [] := rfl
theorem sepN_one {l : List Nd} (h : 0 < l.length) : sepN l 1 = l[0].sh := by
  unfold sepN
  cases l with
  | nil => exact absurd h (Nat.lt_irrefl _)
  | cons x l => rfl
theorem sepN_step {l : List Nd} {i : Nat} (h : i < l.length) (h0 : 0 < i) : sepN l (i + 1) = sepN l i ++ [44, 32] ++ l[i].sh := by
  unfold sepN
  rw [List.take_succ_eq_append_getElem h, List.map_append]
  exact sepx_snoc _ _ _ (by
    intro e
    have h1 := congrArg List.length e
    rw [List.length_map, List.length_take, List.length_nil] at h1
    omega)
theorem sepN_all (l : List Nd) : sepN l l.length = sepx [44, 32] (l.map Nd.sh) := by unfold sepN; rw [List.take_length]
end Go.Nd

/- What is parsed is no greater than its text: each node, and each letter in it, comes out of a token of its own. No program in sight. -/
namespace Go.To
theorem scan'_sum : ∀ (n : Nat) (l : List UInt8) (p : Nat), l.length ≤ n → ((scan' p l).1.map fun t => t.text.length + 1).sum ≤ 2 * l.length := by
  intro n
  induction n with
  | zero =>
    intro l p h
    have : l = [] := List.eq_nil_of_length_eq_zero (by omega)
    subst this
    rw [scan'_nil]
    exact Nat.zero_le _
  | succ n ih =>
    intro l p h
    by_cases hl : l = []
    · subst hl
      rw [scan'_nil]
      exact Nat.zero_le _
    · by_cases h0 : (tok l).1 = 0
      · rw [scan'_bad p l hl h0]
        exact Nat.zero_le _
      · have hp := tok_pos l h0
        have hle := tok_le l
        have hs := sil_le (l.drop (tok l).2) false
        have hd : (l.drop (tok l).2).length = l.length - (tok l).2 := List.length_drop
        have hd2 : ((l.drop (tok l).2).drop (sil false (l.drop (tok l).2))).length = l.length - (tok l).2 - sil false (l.drop (tok l).2) := by rw [List.length_drop, hd]
        rw [scan'_tok p l hl h0]
        have h1 := ih ((l.drop (tok l).2).drop (sil false (l.drop (tok l).2))) (p + (tok l).2 + sil false (l.drop (tok l).2)) (by omega)
        have h2 : (l.take (tok l).2).length ≤ (tok l).2 := by rw [List.length_take]; omega
        rw [List.map_cons, List.sum_cons]
        simp only
        omega
theorem read_sum (s : List UInt8) : ((read s).1.map fun t => t.text.length + 1).sum ≤ 2 * s.length := by
  unfold read
  by_cases h : 65536 < s.length
  · rw [if_pos h]; exact Nat.zero_le _
  · rw [if_neg h]
    have hs := sil_le s false
    have hd : (s.drop (sil false s)).length = s.length - sil false s := List.length_drop
    have h1 := scan'_sum _ (s.drop (sil false s)) (sil false s) (Nat.le_refl _)
    rw [← all_scan'] at h1
    cases ha : (all s).2 with
    | some p => exact Nat.zero_le _
    | none => simp only; omega
end Go.To
namespace Go.Nd
/-- Tokens' weight. -/
def wt : List Tx → Nat
  | [] => 0
  | s :: r => 1 + s.length + wt r
theorem wt_cons (s : Tx) (r : List Tx) : wt (s :: r) = 1 + s.length + wt r := rfl
theorem wt_le (s : Tx) (r : List Tx) : wt r ≤ wt (s :: r) := by rw [wt_cons]; omega
def Nd.wz (x : Nd) : Nat := 1 + x.text.length + x.l.sz + x.body.sz + x.els.sz
def wl (l : List Nd) : Nat := (l.map Nd.wz).sum
theorem wl_cons (x : Nd) (l : List Nd) : wl (x :: l) = x.wz + wl l := by unfold wl; rw [List.map_cons, List.sum_cons]
theorem sz_of (l : List Nd) : (Ns.of l).sz = wl l := by
  induction l with
  | nil => rfl
  | cons x l ih => show 1 + x.text.length + x.l.sz + x.body.sz + x.els.sz + (Ns.of l).sz = _; rw [ih, wl_cons]; rfl
theorem sz_one (x : Nd) : (Ns.of [x]).sz = x.wz := by rw [sz_of, wl_cons]; rfl
theorem wz_list (l : List Nd) : (⟨3, [], Ns.of l, .nil, .nil⟩ : Nd).wz = 1 + wl l := by unfold Nd.wz; simp only [sz_of]; rfl
theorem wz_call (s : Tx) (l : List Nd) : (⟨4, s, Ns.of l, .nil, .nil⟩ : Nd).wz = 1 + s.length + wl l := by unfold Nd.wz; simp only [sz_of]; rfl
theorem wz_one (k : Nat) (s : Tx) (x : Nd) : (⟨k, s, Ns.of [x], .nil, .nil⟩ : Nd).wz = 1 + s.length + x.wz := by unfold Nd.wz; simp only [sz_one]; rfl
theorem wz_leaf (k : Nat) (s : Tx) : (leaf k s).wz = 1 + s.length := rfl
theorem wz_bin (s : Tx) (a b : Nd) : (bin s a b).wz = 1 + s.length + (a.wz + b.wz) := by unfold Nd.wz bin; simp only [sz_of, wl_cons]; rfl

def HasW {α : Type} (f : α → Nat) (read : List Tx → R α) : Prop := ∀ ts x r, read ts = .ok x r → f x + wt r ≤ wt ts
theorem must_wt {α : Type} {t : Tx} {x y : α} {ts r : List Tx} (h : must t x ts = .ok y r) : 1 + t.length + wt r ≤ wt ts := by
  cases ts with
  | nil => cases h
  | cons s q => unfold must at h; simp only at h; split at h; (rename_i e; subst e; cases h; exact Nat.le_refl _); cases h
theorem number_w : HasW Nd.wz number := by
  intro ts x r h
  cases ts with
  | nil => cases h
  | cons s q => unfold number at h; simp only at h; split at h; (cases h; exact Nat.le_refl _); cases h
theorem commas_w {α : Type} {f : α → Nat} {fin : Tx} {read : List Tx → R α} (h : HasW f read) : ∀ n, HasW (fun l => (l.map f).sum) (commas fin read n) := by
  intro n
  induction n with
  | zero => intro ts x r hr; cases hr
  | succ n ih =>
    intro ts l r hr
    unfold commas at hr
    obtain ⟨x, u, h1, h2⟩ := R.then_ok hr
    have hx := h _ _ _ h1
    cases u with
    | nil => cases h2
    | cons s u =>
      simp only at h2
      have hs := wt_le s u
      split at h2
      · cases h2
        show f x + 0 + wt r ≤ wt ts
        omega
      · split at h2
        · obtain ⟨l', h3, rfl⟩ := R.map_ok h2
          have h4 : (l'.map f).sum + wt r ≤ wt u := ih _ _ _ h3
          show ((x :: l').map f).sum + wt r ≤ wt ts
          rw [List.map_cons, List.sum_cons]
          omega
        · cases h2
theorem several_w {α : Type} {f : α → Nat} {fin : Tx} {read : List Tx → R α} (h : HasW f read) : HasW (fun l => (l.map f).sum) (several fin read) := by
  intro ts l r hr
  cases ts with
  | nil => exact commas_w h 1 _ _ _ hr
  | cons s u =>
    unfold several at hr
    simp only at hr
    split at hr
    · cases hr; show 0 + wt r ≤ _; have := wt_le s r; omega
    · exact commas_w h _ _ _ _ hr
theorem atom_w {ex : List Tx → R Nd} (h : HasW Nd.wz ex) : HasW Nd.wz (atom ex) := by
  intro ts x r hr
  cases ts with
  | nil => cases hr
  | cons s u =>
    unfold atom at hr
    simp only at hr
    have hs := wt_cons s u
    split at hr
    · obtain ⟨a, q, h1, h2⟩ := R.then_ok hr
      obtain rfl := must_ok h2
      have h3 := h _ _ _ h1
      have h4 := must_wt h2
      omega
    · split at hr
      · obtain ⟨l, h1, rfl⟩ := R.map_ok hr
        have h2 : wl l + wt r ≤ wt u := several_w h _ _ _ h1
        rw [wz_list]
        omega
      · split at hr
        · cases u with
          | nil => cases hr; rw [wz_leaf]; omega
          | cons p u =>
            simp only at hr
            split at hr
            · obtain ⟨l, h1, rfl⟩ := R.map_ok hr
              have h2 : wl l + wt r ≤ wt u := several_w h _ _ _ h1
              have := wt_le p u
              rw [wz_call]
              omega
            · cases hr; rw [wz_leaf]; omega
        · exact number_w _ _ _ hr
theorem more_w {sg : List Tx} {read : List Tx → R Nd} (h : HasW Nd.wz read) : ∀ n x ts y r, more sg read n x ts = .ok y r → y.wz + wt r ≤ x.wz + wt ts := by
  intro n
  induction n with
  | zero => intro x ts y r hr; cases hr; exact Nat.le_refl _
  | succ n ih =>
    intro x ts y r hr
    cases ts with
    | nil => cases hr; exact Nat.le_refl _
    | cons s u =>
      unfold more at hr
      split at hr
      · obtain ⟨z, q, h1, h2⟩ := R.then_ok hr
        have h3 := ih _ _ _ _ h2
        have h4 := h _ _ _ h1
        rw [wz_bin] at h3
        rw [wt_cons]
        omega
      · cases hr; exact Nat.le_refl _
theorem row_w {sg : List Tx} {read : List Tx → R Nd} (h : HasW Nd.wz read) (n : Nat) : HasW Nd.wz (row n sg read) := by
  intro ts x r hr
  obtain ⟨a, q, h1, h2⟩ := R.then_ok hr
  have h3 := more_w h n a q x r h2
  have h4 := h _ _ _ h1
  omega
theorem exprOf_w {sg : List Tx → R Nd} (h : HasW Nd.wz sg) : HasW Nd.wz (exprOf sg) := fun ts x r hr => row_w (row_w (row_w h _) _) 1 ts x r hr
theorem signed_w : ∀ n, HasW Nd.wz (signed n) := by
  intro n
  induction n with
  | zero => intro ts x r h; cases h
  | succ n ih =>
    intro ts x r h
    cases ts with
    | nil => cases h
    | cons s u =>
      unfold signed at h
      have hs := wt_cons s u
      split at h
      · obtain ⟨a, h1, rfl⟩ := R.map_ok h
        have h2 := ih _ _ _ h1
        rw [wz_one]
        show 1 + 0 + a.wz + wt r ≤ _
        omega
      · split at h
        · obtain ⟨a, h1, rfl⟩ := R.map_ok h
          have h2 := ih _ _ _ h1
          rw [wz_one]
          show 1 + 0 + a.wz + wt r ≤ _
          omega
        · obtain ⟨a, q, h1, h2⟩ := R.then_ok h
          have h3 := atom_w (exprOf_w ih) _ _ _ h1
          cases q with
          | nil => cases h2; exact h3
          | cons p q =>
            simp only at h2
            split at h2
            · rename_i hp
              obtain ⟨b, h5, rfl⟩ := R.map_ok h2
              have h7 := number_w _ _ _ h5
              rw [wt_cons, hp] at h3
              rw [wz_bin]
              show 1 + 1 + (a.wz + b.wz) + wt r ≤ _
              have e : ([94] : Tx).length = 1 := rfl
              omega
            · cases h2; exact h3
theorem expr_w : HasW Nd.wz expr := fun ts x r h => exprOf_w (signed_w _) ts x r h
theorem ends_w {k : Nat} {t : Tx} {ts r : List Tx} {st : Nd} (h : ends k t ts = .ok st r) : st.wz + wt r ≤ t.length + wt ts := by
  obtain ⟨a, q, h1, h2⟩ := R.then_ok h
  obtain rfl := must_ok h2
  have h3 := expr_w _ _ _ h1
  have h4 := must_wt h2
  rw [wz_one]
  omega
theorem stmtsTo_w {st : List Tx → R Nd} (h : HasW Nd.wz st) : ∀ n, HasW wl (stmtsTo st n) := by
  intro n
  induction n with
  | zero => intro ts l r hr; cases hr
  | succ n ih =>
    intro ts l r hr
    cases ts with
    | nil =>
      unfold stmtsTo at hr
      obtain ⟨a, h1, rfl⟩ := R.map_ok hr
      have := h _ _ _ h1
      rw [wl_cons]
      show a.wz + 0 + wt r ≤ _
      omega
    | cons s u =>
      unfold stmtsTo at hr
      simp only at hr
      split at hr
      · cases hr; show 0 + wt r ≤ _; have := wt_le s r; omega
      · obtain ⟨a, q, h1, h2⟩ := R.then_ok hr
        obtain ⟨l', h3, rfl⟩ := R.map_ok h2
        have h4 := h _ _ _ h1
        have h5 := ih _ _ _ h3
        rw [wl_cons]
        omega
theorem block_w {st : List Tx → R Nd} (h : HasW Nd.wz st) : HasW wl (block st) := by
  intro ts l r hr
  cases ts with
  | nil => cases hr
  | cons s u =>
    unfold block at hr
    simp only at hr
    split at hr
    · have := stmtsTo_w h _ _ _ _ hr
      have := wt_le s u
      omega
    · cases hr
theorem stmt_w (inner : Bool) : ∀ n, HasW Nd.wz (stmt inner n) := by
  intro n
  induction n with
  | zero => intro ts x r h; cases h
  | succ n ih =>
    intro ts x r h
    cases ts with
    | nil =>
      have := ends_w (show ends 13 [] [] = .ok x r from h)
      show x.wz + wt r ≤ _
      simpa using this
    | cons s u =>
      unfold stmt at h
      simp only at h
      have hs := wt_cons s u
      split at h
      · obtain ⟨a, q1, h1, h2⟩ := R.then_ok h
        obtain ⟨b, q2, h3, h4⟩ := R.then_ok h2
        have k1 := expr_w _ _ _ h1
        have k2 := block_w ih _ _ _ h3
        cases q2 with
        | nil =>
          cases h4
          show 1 + 0 + (Ns.of [a]).sz + (Ns.of b).sz + 0 + wt [] ≤ _
          rw [sz_one, sz_of]
          omega
        | cons p q3 =>
          simp only at h4
          split at h4
          · obtain ⟨e, h5, rfl⟩ := R.map_ok h4
            have k3 := block_w ih _ _ _ h5
            have := wt_le p q3
            show 1 + 0 + (Ns.of [a]).sz + (Ns.of b).sz + (Ns.of e).sz + wt r ≤ _
            rw [sz_one, sz_of, sz_of]
            omega
          · cases h4
            show 1 + 0 + (Ns.of [a]).sz + (Ns.of b).sz + 0 + wt (p :: q3) ≤ _
            rw [sz_one, sz_of]
            omega
      · split at h
        · obtain ⟨a, q1, h1, h2⟩ := R.then_ok h
          obtain ⟨b, h3, rfl⟩ := R.map_ok h2
          have k1 := expr_w _ _ _ h1
          have k2 := block_w ih _ _ _ h3
          show 1 + 0 + (Ns.of [a]).sz + (Ns.of b).sz + 0 + wt r ≤ _
          rw [sz_one, sz_of]
          omega
        · split at h
          · have := ends_w h
            simp only [List.length_nil] at this
            omega
          · split at h
            · have := ends_w h
              simp only [List.length_nil] at this
              omega
            · cases u with
              | nil =>
                have := ends_w h
                simp only [List.length_nil] at this
                omega
              | cons p u =>
                simp only at h
                split at h
                · have := ends_w h
                  have := wt_le p u
                  omega
                · have := ends_w h
                  simp only [List.length_nil] at this
                  omega
theorem nameOf_w : HasW (fun s : Tx => s.length + 1) nameOf := by
  intro ts x r h
  cases ts with
  | nil => cases h
  | cons s u => unfold nameOf at h; simp only at h; split at h; (cases h; simp only [wt_cons]; omega); cases h
theorem func_w : HasW fsz func := by
  intro ts x r h
  obtain ⟨n, q1, h1, h2⟩ := R.then_ok h
  obtain ⟨_, q2, h3, h4⟩ := R.then_ok h2
  obtain ⟨as, q3, h5, h6⟩ := R.then_ok h4
  obtain ⟨b, h7, rfl⟩ := R.map_ok h6
  have k1 : n.length + 1 + wt q1 ≤ wt ts := nameOf_w _ _ _ h1
  have k2 := must_wt h3
  have k3 : (as.map (·.length + 1)).sum + wt q3 ≤ wt q2 := several_w nameOf_w _ _ _ h5
  have k4 : wl b + wt r ≤ wt q3 := block_w (stmt_w true _) _ _ _ h7
  show 1 + n.length + (as.map (·.length + 1)).sum + (Ns.of b).sz + wt r ≤ wt ts
  rw [sz_of]
  omega
theorem body_w : ∀ n, HasW wl (body n) := by
  intro n
  induction n with
  | zero => intro ts l r hr; cases hr
  | succ n ih =>
    intro ts l r hr
    cases ts with
    | nil => cases hr; exact Nat.le_refl _
    | cons s u =>
      unfold body at hr
      obtain ⟨a, q, h1, h2⟩ := R.then_ok hr
      obtain ⟨l', h3, rfl⟩ := R.map_ok h2
      have h4 := stmt_w false _ _ _ _ h1
      have h5 := ih _ _ _ h3
      rw [wl_cons]
      omega
theorem prog_w : ∀ n fs ts p r, prog n fs ts = .ok p r → psz p + wt r ≤ (fs.map fsz).sum + wt ts := by
  intro n
  induction n with
  | zero => intro fs ts p r h; cases h
  | succ n ih =>
    intro fs ts p r h
    cases ts with
    | nil => cases h; exact Nat.le_refl _
    | cons s u =>
      unfold prog at h
      simp only at h
      split at h
      · obtain ⟨f, q, h1, h2⟩ := R.then_ok h
        have k1 := func_w _ _ _ h1
        have k2 := ih _ _ _ _ h2
        have := wt_le s u
        rw [List.map_append, List.sum_append] at k2
        simp only [List.map_cons, List.map_nil, List.sum_cons, List.sum_nil] at k2
        omega
      · obtain ⟨b, h1, rfl⟩ := R.map_ok h
        have k1 := body_w _ _ _ _ h1
        unfold psz
        simp only
        rw [sz_of]
        omega
theorem wt_toks (l : List To.T) : wt (l.map (·.text)) = (l.map fun t => t.text.length + 1).sum := by
  induction l with
  | nil => rfl
  | cons t l ih => rw [List.map_cons, wt_cons, ih, List.map_cons, List.sum_cons]; omega
/-- What is parsed is no greater than twice its text. -/
theorem parse_bulk (wrap : Int → Int) (s : Tx) : psz (parse wrap s).1 ≤ 2 * s.length := by
  by_cases h : (To.read s).2.2 = 0
  · cases hp : progT [] ((To.read s).1.map (·.text)) with
    | bad r => rw [parse_bad wrap s h hp]; exact Nat.zero_le _
    | ok p r =>
      rw [parse_ok wrap s h hp]
      split
      · exact Nat.zero_le _
      · have k := prog_w _ _ _ _ _ hp
        rw [wt_toks] at k
        have := To.read_sum s
        simp only [List.map_nil, List.sum_nil] at k
        show psz p ≤ _
        omega
  · rw [parse_bad0 wrap s h]; exact Nat.zero_le _
end Go.Nd

/- Programs as they are written, plainly: brackets in pairs: where one shuts; a text without '{' holds no function. No program in sight. -/
namespace Go.To
theorem scan'_mem : ∀ (n : Nat) (l : List UInt8) (p : Nat), l.length ≤ n → ∀ t ∈ (scan' p l).1, ∀ c ∈ t.text, c ∈ l := by
  intro n
  induction n with
  | zero =>
    intro l p h
    have : l = [] := List.eq_nil_of_length_eq_zero (by omega)
    subst this
    rw [scan'_nil]
    intro t ht; cases ht
  | succ n ih =>
    intro l p h
    by_cases hl : l = []
    · subst hl
      rw [scan'_nil]
      intro t ht; cases ht
    · by_cases h0 : (tok l).1 = 0
      · rw [scan'_bad p l hl h0]
        intro t ht; cases ht
      · have hp := tok_pos l h0
        have hle := tok_le l
        have hd : (l.drop (tok l).2).length = l.length - (tok l).2 := List.length_drop
        have hd2 : ((l.drop (tok l).2).drop (sil false (l.drop (tok l).2))).length = l.length - (tok l).2 - sil false (l.drop (tok l).2) := by rw [List.length_drop, hd]
        rw [scan'_tok p l hl h0]
        intro t ht c hc
        rcases List.mem_cons.1 ht with rfl | ht
        · exact List.mem_of_mem_take hc
        · exact List.mem_of_mem_drop (List.mem_of_mem_drop (ih _ _ (by omega) t ht c hc))
theorem read_mem (s : List UInt8) : ∀ t ∈ (read s).1, ∀ c ∈ t.text, c ∈ s := by
  unfold read
  by_cases h : 65536 < s.length
  · rw [if_pos h]; intro t ht; cases ht
  · rw [if_neg h]
    have h1 := scan'_mem _ (s.drop (sil false s)) (sil false s) (Nat.le_refl _)
    rw [← all_scan'] at h1
    cases ha : (all s).2 with
    | some p => intro t ht; cases ht
    | none => exact fun t ht c hc => List.mem_of_mem_drop (h1 t ht c hc)
end Go.To
namespace Go.Nd
theorem func_brace {ts r : List Tx} {f : Fn} (h : func ts = .ok f r) : [123] ∈ ts := by
  rw [func_is] at h
  obtain ⟨n, q1, h1, h2⟩ := R.then_ok h
  obtain ⟨_, q2, h3, h4⟩ := R.then_ok h2
  obtain ⟨as, q3, h5, h6⟩ := R.then_ok h4
  obtain ⟨b, h7, rfl⟩ := R.map_ok h6
  have k1 := nameOf_down ts
  rw [h1] at k1
  have k2 := must_down [40] () q1
  rw [h3] at k2
  have k3 := several_down0 (fin := [41]) nameOf_down q2
  rw [h5] at k3
  have hsuf : q3 <:+ ts := List.IsSuffix.trans k3 (List.IsSuffix.trans k2.1 k1.1)
  cases q3 with
  | nil => cases h7
  | cons s u =>
    unfold block at h7
    simp only at h7
    split at h7
    · rename_i e
      subst e
      exact hsuf.subset (List.mem_cons_self ..)
    · cases h7
theorem prog_none {ts r : List Tx} {gs : List Fn} {p : Pr} (hn : [123] ∉ ts) : ∀ n, prog n gs ts = .ok p r → p.funcs = gs := by
  intro n h
  cases n with
  | zero => cases h
  | succ n =>
    cases ts with
    | nil => cases h; rfl
    | cons s u =>
      unfold prog at h
      simp only at h
      split at h
      · obtain ⟨f, q, h1, h2⟩ := R.then_ok h
        exact absurd (List.mem_cons_of_mem _ (func_brace h1)) hn
      · obtain ⟨b, h1, rfl⟩ := R.map_ok h
        rfl
theorem no_funcs (wrap : Int → Int) {s : Tx} (h : ∀ c ∈ s, c ≠ 123) : (parse wrap s).1.funcs = [] := by
  have hn : [123] ∉ (To.read s).1.map (·.text) := by
    intro hm
    obtain ⟨t, ht, e⟩ := List.mem_map.1 hm
    exact h 123 (To.read_mem s t ht 123 (by rw [e]; simp)) rfl
  by_cases hr : (To.read s).2.2 = 0
  · cases hp : progT [] ((To.read s).1.map (·.text)) with
    | bad r => rw [parse_bad wrap s hr hp]
    | ok p r =>
      rw [parse_ok wrap s hr hp]
      split
      · rfl
      · exact prog_none hn _ hp
  · rw [parse_bad0 wrap s hr]
theorem without_brace {s : Tx} (h : ∀ c ∈ s, c ≠ 123) (i k : Nat) : ∀ c ∈ without s i k, c ≠ 123 := by
  intro c hc
  unfold without at hc
  simp only [List.mem_append, List.mem_cons, List.not_mem_nil, or_false] at hc
  rcases hc with ((((hc | hc) | hc) | hc) | hc) | hc
  · exact h c (List.mem_of_mem_take hc)
  · subst hc; decide
  · exact h c (List.mem_of_mem_take (List.mem_of_mem_drop hc))
  · subst hc; decide
  · exact h c (List.mem_of_mem_drop hc)
  · subst hc; decide
/-- Without a pair of brackets it is another one, or none. -/
theorem least_one (wrap : Int → Int) (x : Nd) (h : okx x = true) (hl : x.sh.length ≤ 65536) {i k : Nat} (hi : i < k) (hk : k < x.sh.length) (h1 : x.sh[i]? = some 40) (h2 : x.sh[k]? = some 41)
    (he : (parse wrap (without x.sh i k)).2.2 = 0) {st y : Nd} (hb : (parse wrap (without x.sh i k)).1.body.items = [st]) (hy : st.l.items = [y]) : y ≠ x :=
  least_law wrap x h hl hi hk h1 h2 he (no_funcs wrap (without_brace (bal_x x h).br i k)) hb hy

/-! ### Where it shuts -/
/-- How deep it is at k, from i on. -/
def deepAt (s : Tx) (i k : Nat) : Int := net ((s.drop i).take (k - i))
theorem deepAt_start (s : Tx) (i : Nat) : deepAt s i i = 0 := by unfold deepAt; rw [Nat.sub_self, List.take_zero]; rfl
theorem net_one (c : UInt8) : net [c] = if c = 40 then 1 else if c = 41 then -1 else 0 := by
  unfold net
  by_cases h1 : c = 40
  · subst h1; rfl
  · by_cases h2 : c = 41
    · subst h2; rfl
    · rw [if_neg h1, if_neg h2, List.count_eq_zero.2 (by simp; exact fun e => h1 e.symm), List.count_eq_zero.2 (by simp; exact fun e => h2 e.symm)]; rfl
theorem deepAt_step (s : Tx) {i k : Nat} (h1 : i ≤ k) (h2 : k < s.length) : deepAt s i (k + 1) = deepAt s i k + (if s[k] = 40 then 1 else if s[k] = 41 then -1 else 0) := by
  unfold deepAt
  have e : k + 1 - i = (k - i) + 1 := by omega
  have hl : k - i < (s.drop i).length := by rw [List.length_drop]; omega
  rw [e, List.take_succ_eq_append_getElem hl, net_append, net_one]
  have e2 : (s.drop i)[k - i] = s[k] := by rw [List.getElem_drop]; congr 1; omega
  rw [e2]
theorem deepAt_end (s : Tx) (h : Bal s) (i : Nat) : deepAt s i s.length ≤ 0 := by
  unfold deepAt
  rw [show s.length - i = (s.drop i).length by rw [List.length_drop], List.take_length]
  exact h.drop i
theorem deepAt_le (s : Tx) (i k : Nat) : deepAt s i k ≤ s.length ∧ -(s.length : Int) ≤ deepAt s i k := by
  unfold deepAt net
  have h1 : ((s.drop i).take (k - i)).count 40 ≤ s.length := Nat.le_trans List.count_le_length (by rw [List.length_take, List.length_drop]; omega)
  have h2 : ((s.drop i).take (k - i)).count 41 ≤ s.length := Nat.le_trans List.count_le_length (by rw [List.length_take, List.length_drop]; omega)
  omega
end Go.Nd
