/- Programs as trees, plainly: statements that are so deep. No program in sight. -/
import Derived.Test.YtiefpffccmdcoaaDoorTrB1
import Derived.Test.YtiefpffccmdcoaaDoorNdDeepT
namespace Go.Nd

/-- The text, what stands ahead of a number, and behind it; its tokens; what it is. -/
def pre (w : Nat) : Tx := match w with | 0 => [45] | 1 => [91] | 2 => [102, 40, 50, 44, 32] | _ => [40, 49, 32, 43, 32]
def post (w : Nat) : Tx := match w with | 0 => [] | 1 => [93] | 2 => [41] | _ => [41]
def tpre (w : Nat) : List Tx := match w with | 0 => [[45]] | 1 => [[91]] | 2 => [[102], [40], [50], [44]] | _ => [[40], [49], [43]]
def tpost (w : Nat) : List Tx := match w with | 0 => [] | 1 => [[93]] | 2 => [[41]] | _ => [[41]]
def dn (w : Nat) (x : Nd) : Nd := match w with
  | 0 => ⟨6, [], Ns.of [x], .nil, .nil⟩
  | 1 => ⟨3, [], Ns.of [x], .nil, .nil⟩
  | 2 => ⟨4, [102], Ns.of [leaf 1 [50], x], .nil, .nil⟩
  | _ => bin [43] (leaf 1 [49]) x
/-- s, so deep. -/
def ds (w : Nat) : Nat → Tx
  | 0 => [49]
  | k + 1 => pre w ++ ds w k ++ post w
def dt (w : Nat) : Nat → List Tx
  | 0 => [[49]]
  | k + 1 => tpre w ++ dt w k ++ tpost w
def dx (w : Nat) : Nat → Nd
  | 0 => leaf 1 [49]
  | k + 1 => dn w (dx w k)
/-- .. in brackets. -/
def br (s : Tx) : Nat → Tx
  | 0 => s
  | k + 1 => [40] ++ br s k ++ [41]
def tbr (s : List Tx) : Nat → List Tx
  | 0 => s
  | k + 1 => [40] :: tbr s k ++ [[41]]
/-- Loops in loops. -/
def us : Nat → Tx
  | 0 => [49, 59]
  | k + 1 => [119, 104, 105, 108, 101, 32, 49, 32, 123, 32] ++ us k ++ [32, 125]
def ut : Nat → List Tx
  | 0 => [[49], [59]]
  | k + 1 => [119, 104, 105, 108, 101] :: [49] :: [123] :: ut k ++ [[125]]
def ux : Nat → Nd
  | 0 => ⟨13, [], Ns.of [leaf 1 [49]], .nil, .nil⟩
  | k + 1 => ⟨10, [], Ns.of [leaf 1 [49]], Ns.of [ux k], .nil⟩

theorem num1 (s : Tx) (h : s = [49] ∨ s = [50]) : plain s = true ∧ To.name s = false := by rcases h with rfl | rfl <;> decide
theorem closes_of (s : Tx) (q : List Tx) (h : s = [41] ∨ s = [93] ∨ s = [44] ∨ s = [59] ∨ s = [123]) : Closes (s :: q) := Closes.cons (by rcases h with rfl | rfl | rfl | rfl | rfl <;> decide)
theorem dt_head (w k : Nat) (r : List Tx) : (dt w k ++ r).head? = some [49] ∨ (dt w k ++ r).head? = some ((tpre w).headD []) := by
  cases k with
  | zero => exact .inl rfl
  | succ k => right; show (tpre w ++ dt w k ++ tpost w ++ r).head? = _; unfold tpre; split <;> rfl
theorem dt_heads (w k : Nat) (r : List Tx) (s : Tx) (h : s = [41] ∨ s = [93] ∨ s = [125] ∨ s = [102, 110]) : (dt w k ++ r).head? ≠ some s := by
  have h2 : (tpre w).headD [] = [45] ∨ (tpre w).headD [] = [91] ∨ (tpre w).headD [] = [102] ∨ (tpre w).headD [] = [40] := by unfold tpre; split <;> simp
  intro e
  have h3 := dt_head w k r
  rw [e] at h3
  simp only [Option.some.injEq] at h3
  rcases h with rfl | rfl | rfl | rfl <;> rcases h3 with h3 | h3 <;> (try (exact absurd h3 (by decide))) <;> (rw [← h3] at h2; revert h2; decide)

theorem sg_dt (w : Nat) : ∀ (k : Nat) (r : List Tx), Closes r → sg (dt w k ++ r) = .ok (dx w k) r := by
  intro k
  induction k with
  | zero => intro r hr; exact sg_num (by decide) (by decide) hr
  | succ k ih =>
    intro r hr
    match w, ih with
    | 0, ih =>
      show sg (([[45]] ++ dt 0 k ++ []) ++ r) = _
      rw [List.append_nil]
      exact sg_neg (ih r hr)
    | 1, ih =>
      have e : dt 1 (k + 1) ++ r = [91] :: (dt 1 k ++ [93] :: r) := by show ([[91]] ++ dt 1 k ++ [[93]]) ++ r = _; simp
      rw [e]
      exact sg_atom (by decide) (by decide) (atom_list (several_one expr_down (dt_heads 1 k _ _ (by simp)) (expr_sg (ih _ (closes_of _ _ (by simp))) (closes_of _ _ (by simp))))) hr
    | 2, ih =>
      have e : dt 2 (k + 1) ++ r = [102] :: [40] :: ([50] :: [44] :: (dt 2 k ++ [41] :: r)) := by show ([[102], [40], [50], [44]] ++ dt 2 k ++ [[41]]) ++ r = _; simp
      rw [e]
      refine sg_atom (by decide) (by decide) (atom_call (by decide) ?_) hr
      rw [several_first expr_down _ (by simp), expr_sg (sg_num (by decide) (by decide) (closes_of _ _ (by simp))) (closes_of _ _ (by simp))]
      show (sevTail [41] expr ([44] :: (dt 2 k ++ [41] :: r))).map _ = _
      rw [sevTail_comma expr_down (by decide), expr_sg (ih _ (closes_of _ _ (by simp))) (closes_of _ _ (by simp))]
      show ((sevTail [41] expr ([41] :: r)).map _).map _ = _
      rw [sevTail_end]
      rfl
    | (v + 3), ih =>
      have e : dt (v + 3) (k + 1) ++ r = [40] :: ([49] :: [43] :: (dt (v + 3) k ++ [41] :: r)) := by show ([[40], [49], [43]] ++ dt (v + 3) k ++ [[41]]) ++ r = _; simp
      rw [e]
      refine sg_par ?_ hr
      obtain ⟨ts, hts⟩ : ∃ ts, ts = dt (v + 3) k ++ [41] :: r := ⟨_, rfl⟩
      have hsg : sg ts = .ok (dx (v + 3) k) ([41] :: r) := by rw [hts]; exact ih _ (closes_of _ _ (by simp))
      have hcl : Closes ([41] :: r) := closes_of _ _ (by simp)
      rw [← hts, expr_is ([49] :: [43] :: ts).length _ (Nat.le_refl _)]
      refine cmpOf_ok ?_ hcl
      have h1 : sg ([49] :: [43] :: ts) = .ok (leaf 1 [49]) ([43] :: ts) := by
        rw [sg_cons, if_neg (by decide), if_neg (by decide), atom_num (by decide) (by decide)]; rfl
      have h2 : ∀ K, prodOf (K + 1) sg ([49] :: [43] :: ts) = .ok (leaf 1 [49]) ([43] :: ts) := by
        intro K
        unfold prodOf row; rw [h1]
        show more muls sg (K + 1) _ ([43] :: ts) = _
        unfold more
        rw [if_neg (by decide)]
      unfold sumOf row
      rw [List.length_cons, h2]
      show more adds (prodOf _ sg) _ (leaf 1 [49]) ([43] :: ts) = _
      unfold more
      rw [if_pos (by decide), prodOf_ok hsg hcl]
      exact more_closes adds_go _ _ hcl

theorem sg_tbr {t : List Tx} {x : Nd} (h : ∀ r, Closes r → sg (t ++ r) = .ok x r) : ∀ (k : Nat) (r : List Tx), Closes r → sg (tbr t k ++ r) = .ok x r := by
  intro k
  induction k with
  | zero => exact h
  | succ k ih =>
    intro r hr
    have e : tbr t (k + 1) ++ r = [40] :: (tbr t k ++ [41] :: r) := by show ([40] :: tbr t k ++ [[41]]) ++ r = _; simp
    rw [e]
    exact sg_par (expr_sg (ih _ (closes_of _ _ (by simp))) (closes_of _ _ (by simp))) hr

theorem stm_ut (inner : Bool) : ∀ (k : Nat) (r : List Tx), stm inner (ut k ++ r) = .ok (ux k) r := by
  intro k
  induction k with
  | zero =>
    intro r
    show stm inner ([49] :: [59] :: r) = _
    exact stm_do (by decide) (by decide) (by decide) (by decide) (fun q' e => by cases e) (expr_sg (sg_num (by decide) (by decide) (closes_of _ _ (by simp))) (closes_of _ _ (by simp)))
  | succ k ih =>
    intro r
    have e : ut (k + 1) ++ r = [119, 104, 105, 108, 101] :: ([49] :: [123] :: (ut k ++ [125] :: r)) := by show ([119, 104, 105, 108, 101] :: [49] :: [123] :: ut k ++ [[125]]) ++ r = _; simp
    rw [e]
    refine stm_while (expr_sg (sg_num (by decide) (by decide) (closes_of _ _ (by simp))) (closes_of _ _ (by simp))) (block_ok ?_)
    refine stmts_one (stm_down inner) ?_ ?_ (ih _) (stmtsT_end _ _)
    · cases k <;> simp [ut]
    · cases k <;> simp [ut]

/-- Texts' tokens. -/
theorem piece_pre (w : Nat) : ∃ xs, To.Piece (pre w) xs ∧ xs.map (·.text) = tpre w := by
  have b32 : To.Piece [32] [] := To.Piece.blank (by decide)
  unfold pre tpre
  split
  · exact ⟨_, To.Piece.sign (by decide) (by decide) (by decide), rfl⟩
  · exact ⟨_, To.Piece.sign (by decide) (by decide) (by decide), rfl⟩
  · have h44 := (To.Piece.sign (c := 44) (by decide) (by decide) (by decide)).append b32
    have h40 := (To.Piece.sign (c := 40) (by decide) (by decide) (by decide)).append (To.Piece.num (d := 50) (w := []) (c := 44) (q := [32]) (by decide) rfl (by decide) h44)
    exact ⟨_, To.Piece.word (d := 102) (w := []) (c := 40) (q := [50, 44, 32]) (by decide) rfl (by decide) h40, rfl⟩
  · have h43 := b32.append ((To.Piece.sign (c := 43) (by decide) (by decide) (by decide)).append b32)
    have h40 := (To.Piece.sign (c := 40) (by decide) (by decide) (by decide)).append (To.Piece.num (d := 49) (w := []) (c := 32) (q := [43, 32]) (by decide) rfl (by decide) h43)
    exact ⟨_, h40, rfl⟩
theorem piece_post (w : Nat) : ∃ xs, To.Piece (post w) xs ∧ xs.map (·.text) = tpost w := by
  unfold post tpost
  split
  · exact ⟨_, To.Piece.nil, rfl⟩
  · exact ⟨_, To.Piece.sign (by decide) (by decide) (by decide), rfl⟩
  · exact ⟨_, To.Piece.sign (by decide) (by decide) (by decide), rfl⟩
  · exact ⟨_, To.Piece.sign (by decide) (by decide) (by decide), rfl⟩
theorem post_head (w k : Nat) (q : Tx) (c : UInt8) (hc : To.isD c = false) : ∃ d q', To.rep (post w) k ++ c :: q = d :: q' ∧ To.isD d = false := by
  cases k with
  | zero => exact ⟨c, q, rfl, hc⟩
  | succ k =>
    unfold To.rep post
    split
    · have : ∀ k, To.rep ([] : Tx) k = [] := by intro k; induction k with | zero => rfl | succ k ih => rw [To.rep, ih]; rfl
      rw [this]; exact ⟨c, q, rfl, hc⟩
    · exact ⟨93, _, rfl, by decide⟩
    · exact ⟨41, _, rfl, by decide⟩
    · exact ⟨41, _, rfl, by decide⟩
theorem ds_is (w : Nat) : ∀ k, ds w k = To.rep (pre w) k ++ [49] ++ To.rep (post w) k := by
  intro k
  induction k with
  | zero => rfl
  | succ k ih => rw [ds, ih, To.rep_back (post w) k, To.rep]; simp [List.append_assoc]
theorem dt_is (w : Nat) : ∀ k, dt w k = To.rep (tpre w) k ++ [[49]] ++ To.rep (tpost w) k := by
  intro k
  induction k with
  | zero => rfl
  | succ k ih => rw [dt, ih, To.rep_back (tpost w) k, To.rep]; simp [List.append_assoc]
theorem br_is (s : Tx) : ∀ k, br s k = To.rep [40] k ++ s ++ To.rep [41] k := by
  intro k
  induction k with
  | zero => simp [br, To.rep]
  | succ k ih => rw [br, ih, To.rep_back [41] k, To.rep]; simp [List.append_assoc]
theorem tbr_is (s : List Tx) : ∀ k, tbr s k = To.rep [[40]] k ++ s ++ To.rep [[41]] k := by
  intro k
  induction k with
  | zero => simp [tbr, To.rep]
  | succ k ih => rw [tbr, ih, To.rep_back [[41]] k, To.rep]; simp [List.append_assoc]

/-- The tokens of s, in so many brackets, with ';' behind it. -/
theorem read_ds (w k m : Nat) (hl : (br (ds w k) m ++ [59]).length ≤ 65536) : (To.read (br (ds w k) m ++ [59])).2.2 = 0 ∧ (To.read (br (ds w k) m ++ [59])).1.map (·.text) = tbr (dt w k) m ++ [[59]] := by
  obtain ⟨xs, h1, h2⟩ := piece_pre w
  obtain ⟨ys, h3, h4⟩ := piece_post w
  have e40 : To.Piece [40] [⟨3, [40], 0⟩] := To.Piece.sign (by decide) (by decide) (by decide)
  have e41 : To.Piece [41] [⟨3, [41], 0⟩] := To.Piece.sign (by decide) (by decide) (by decide)
  have e59 : To.Piece [59] [⟨3, [59], 0⟩] := To.Piece.sign (by decide) (by decide) (by decide)
  have hend := (h3.rep k).append ((e41.rep m).append e59)
  obtain ⟨c1, q1, hc1, hd1⟩ : ∃ d q', To.rep (post w) k ++ (To.rep [41] m ++ [59]) = d :: q' ∧ To.isD d = false := by
    cases m with
    | zero => exact post_head w k [] 59 (by decide)
    | succ m => exact post_head w k (To.rep [41] m ++ [59]) 41 (by decide)
  rw [hc1] at hend
  have hnum := To.Piece.num (d := 49) (w := []) (by decide) rfl hd1 hend
  have hall := (e40.rep m).append ((h1.rep k).append hnum)
  have et : br (ds w k) m ++ [59] = To.rep [40] m ++ (To.rep (pre w) k ++ ([49] ++ c1 :: q1)) := by
    rw [br_is, ds_is, ← hc1]; simp [List.append_assoc]
  rw [← et] at hall
  refine hall.texts hl ?_
  rw [tbr_is, dt_is]
  simp only [List.map_append, To.T.on_text, List.map_cons, To.reps_text, h2, h4, List.map_nil]
  simp [List.append_assoc, To.T.on]

theorem piece_us : ∀ k, ∃ xs, To.Piece (us k) xs ∧ xs.map (·.text) = ut k := by
  intro k
  have b32 : To.Piece [32] [] := To.Piece.blank (by decide)
  have e59 : To.Piece [59] [⟨3, [59], 0⟩] := To.Piece.sign (by decide) (by decide) (by decide)
  have e123 : To.Piece [123] [⟨3, [123], 0⟩] := To.Piece.sign (by decide) (by decide) (by decide)
  have e125 : To.Piece [125] [⟨3, [125], 0⟩] := To.Piece.sign (by decide) (by decide) (by decide)
  induction k with
  | zero => exact ⟨_, To.Piece.num (d := 49) (w := []) (c := 59) (q := []) (by decide) rfl (by decide) e59, rfl⟩
  | succ k ih =>
    obtain ⟨xs, h1, h2⟩ := ih
    have p1 := b32.append (e123.append b32)
    have p2 := b32.append (To.Piece.num (d := 49) (w := []) (c := 32) (q := [123, 32]) (by decide) rfl (by decide) p1)
    have p3 := To.Piece.word (d := 119) (w := [104, 105, 108, 101]) (c := 32) (q := [49, 32, 123, 32]) (by decide) (by decide) (by decide) p2
    refine ⟨_, (p3.append h1).append (b32.append e125), ?_⟩
    simp only [List.map_append, To.T.on_text, h2, List.map_cons, List.map_nil]
    rfl
theorem read_us (k : Nat) (hl : (us k).length ≤ 65536) : (To.read (us k)).2.2 = 0 ∧ (To.read (us k)).1.map (·.text) = ut k := by
  obtain ⟨xs, h1, h2⟩ := piece_us k
  exact h1.texts hl h2

theorem pre_len (w : Nat) : (pre w).length ≤ 5 ∧ (post w).length ≤ 1 := by unfold pre post; constructor <;> (split <;> decide)
theorem ds_len (w : Nat) : ∀ k, (ds w k).length ≤ 1 + 6 * k := by
  intro k
  induction k with
  | zero => exact Nat.le_refl _
  | succ k ih => rw [ds, List.length_append, List.length_append]; have := pre_len w; omega
theorem br_len (s : Tx) : ∀ k, (br s k).length = s.length + 2 * k := by
  intro k
  induction k with
  | zero => rfl
  | succ k ih => rw [br, List.length_append, List.length_append, ih]; simp; omega
theorem us_len : ∀ k, (us k).length = 2 + 12 * k := by
  intro k
  induction k with
  | zero => rfl
  | succ k ih => rw [us, List.length_append, List.length_append, ih]; simp; omega

theorem tbr_heads (w k m : Nat) (r : List Tx) (s : Tx) (h : s = [125] ∨ s = [102, 110]) : (tbr (dt w k) m ++ r).head? ≠ some s := by
  cases m with
  | zero => exact dt_heads w k r s (by rcases h with rfl | rfl <;> simp)
  | succ m => show ([40] :: tbr (dt w k) m ++ [[41]] ++ r).head? ≠ _; rcases h with rfl | rfl <;> simp
/-- What the statement is: what is in it, with ';' behind. -/
theorem prog_ds (w k m : Nat) : progT [] (tbr (dt w k) m ++ [[59]]) = .ok ⟨[], Ns.of [⟨13, [], Ns.of [dx w k], .nil, .nil⟩]⟩ [] := by
  refine prog_one (tbr_heads w k m _ _ (.inr rfl)) ?_
  have hx : expr (tbr (dt w k) m ++ [[59]]) = .ok (dx w k) [[59]] := expr_sg (sg_tbr (fun r hr => sg_dt w k r hr) m _ (closes_of _ _ (by simp))) (closes_of _ _ (by simp))
  obtain ⟨s, q, he, hs⟩ : ∃ s q, tbr (dt w k) m ++ [[59]] = s :: q ∧ (s = [49] ∨ s = [45] ∨ s = [91] ∨ (s = [102] ∧ q.head? = some [40]) ∨ s = [40]) := by
    cases m with
    | succ m => exact ⟨_, _, rfl, by simp⟩
    | zero =>
      cases k with
      | zero => exact ⟨_, _, rfl, by simp⟩
      | succ k =>
        show ∃ s q, tpre w ++ dt w k ++ tpost w ++ [[59]] = s :: q ∧ _
        unfold tpre
        split
        · exact ⟨_, _, rfl, by simp⟩
        · exact ⟨_, _, rfl, by simp⟩
        · exact ⟨_, _, rfl, .inr (.inr (.inr (.inl ⟨rfl, rfl⟩)))⟩
        · exact ⟨_, _, rfl, by simp⟩
  rw [he] at hx ⊢
  refine stm_do ?_ ?_ ?_ ?_ ?_ hx
  · rcases hs with rfl | rfl | rfl | ⟨rfl, _⟩ | rfl <;> decide
  · rcases hs with rfl | rfl | rfl | ⟨rfl, _⟩ | rfl <;> decide
  · rcases hs with rfl | rfl | rfl | ⟨rfl, _⟩ | rfl <;> decide
  · rcases hs with rfl | rfl | rfl | ⟨rfl, _⟩ | rfl <;> decide
  · intro q' e
    rcases hs with rfl | rfl | rfl | ⟨rfl, hq⟩ | rfl
    · decide
    · decide
    · decide
    · rw [e] at hq; exact absurd hq (by simp)
    · decide
theorem prog_us (k : Nat) : progT [] (ut k) = .ok ⟨[], Ns.of [ux k]⟩ [] := by
  have h := stm_ut false k []
  rw [List.append_nil] at h
  exact prog_one (by cases k <;> simp [ut]) h
end Go.Nd
namespace Go.Proofs.YtiefpffccmdcoaaDoor
open Go.Nd
theorem great_dx : ((List.range 4).all fun w => (List.range 100).all fun k => great wrapI (Ns.of [⟨13, [], Ns.of [dx w k], .nil, .nil⟩]) == decide (63 ≤ k)) = true := by kernel_rfl
theorem great_ux : ((List.range 100).all fun k => great wrapI (Ns.of [ux k]) == decide (63 ≤ k)) = true := by kernel_rfl
theorem parse_ds (w k m : Nat) (hw : w < 4) (hk : k < 100) (hm : m ≤ 100) :
    parse wrapI (br (ds w k) m ++ [59]) = if 63 ≤ k then (⟨[], .nil⟩, 0, 3) else (⟨[], Ns.of [⟨13, [], Ns.of [dx w k], .nil, .nil⟩]⟩, 0, 0) := by
  have hl : (br (ds w k) m ++ [59]).length ≤ 65536 := by
    rw [List.length_append, br_len]; have := ds_len w k; simp only [List.length_cons, List.length_nil]; omega
  obtain ⟨h1, h2⟩ := read_ds w k m hl
  have hg := beq_iff_eq.1 (List.all_eq_true.1 (List.all_eq_true.1 great_dx w (List.mem_range.2 hw)) k (List.mem_range.2 hk))
  rw [parse_ok wrapI _ h1 (by rw [h2]; exact prog_ds w k m)]
  simp only [hg, List.any_nil, Bool.or_false, decide_eq_true_eq]
theorem parse_us (k : Nat) (hk : k < 100) : parse wrapI (us k) = if 63 ≤ k then (⟨[], .nil⟩, 0, 3) else (⟨[], Ns.of [ux k]⟩, 0, 0) := by
  obtain ⟨h1, h2⟩ := read_us k (by rw [us_len]; omega)
  have hg := beq_iff_eq.1 (List.all_eq_true.1 great_ux k (List.mem_range.2 hk))
  rw [parse_ok wrapI _ h1 (by rw [h2]; exact prog_us k)]
  simp only [hg, List.any_nil, Bool.or_false, decide_eq_true_eq]
end Go.Proofs.YtiefpffccmdcoaaDoor
