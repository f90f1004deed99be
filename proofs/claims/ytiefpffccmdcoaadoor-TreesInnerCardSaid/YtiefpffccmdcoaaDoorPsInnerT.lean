/- Programs as trees, plainly: a function of so many arguments, so many statements. No program in sight. -/
import Derived.Test.YtiefpffccmdcoaaDoorTrB1
import Derived.Test.YtiefpffccmdcoaaDoorNdDeepT
namespace Go.Nd

/-- The arguments; a text; its tokens. -/
def aa : Nat → Tx
  | 0 => []
  | 1 => [97]
  | n + 2 => aa (n + 1) ++ [44, 32] ++ [97]
def si (n k : Nat) : Tx := [102, 110, 32, 102, 40] ++ aa n ++ [41, 32, 123] ++ To.rep [32, 114, 101, 116, 117, 114, 110, 32, 97, 59] k
def ta : Nat → List Tx
  | 0 => [[41]]
  | n + 1 => To.rep [[97], [44]] n ++ [[97], [41]]
def tret : List Tx := [[114, 101, 116, 117, 114, 110], [97], [59]]
def ti (n k : Nat) : List Tx := [[102, 110], [102], [40]] ++ ta n ++ [[123]] ++ To.rep tret k
def ret : Nd := ⟨11, [], Ns.of [leaf 2 [97]], .nil, .nil⟩
def fnOf (n k : Nat) : Fn := ⟨[102], List.replicate n [97], Ns.of (List.replicate k ret)⟩

theorem aa_is : ∀ n, aa (n + 1) = To.rep [97, 44, 32] n ++ [97] := by
  intro n
  induction n with
  | zero => rfl
  | succ n ih => rw [aa, ih, To.rep_back]; simp [List.append_assoc]
theorem aa_len : ∀ n, (aa n).length ≤ 3 * n := by
  intro n
  cases n with
  | zero => exact Nat.le_refl _
  | succ n => rw [aa_is, List.length_append, To.rep_len]; simp; omega
theorem si_len (n k : Nat) : (si n k).length ≤ 8 + 3 * n + 10 * k := by
  unfold si
  simp only [List.length_append, To.rep_len]
  have := aa_len n
  simp; omega

theorem piece_si (n k : Nat) : ∃ xs, To.Piece (si n k) xs ∧ xs.map (·.text) = ti n k := by
  have b32 : To.Piece [32] [] := To.Piece.blank (by decide)
  have e40 : To.Piece [40] [⟨3, [40], 0⟩] := To.Piece.sign (by decide) (by decide) (by decide)
  have e41 : To.Piece [41] [⟨3, [41], 0⟩] := To.Piece.sign (by decide) (by decide) (by decide)
  have e44 : To.Piece [44] [⟨3, [44], 0⟩] := To.Piece.sign (by decide) (by decide) (by decide)
  have e59 : To.Piece [59] [⟨3, [59], 0⟩] := To.Piece.sign (by decide) (by decide) (by decide)
  have e123 : To.Piece [123] [⟨3, [123], 0⟩] := To.Piece.sign (by decide) (by decide) (by decide)
  have p1 := To.Piece.word (d := 102) (w := [110]) (c := 32) (q := [102, 40]) (by decide) (by decide) (by decide) (b32.append (To.Piece.word (d := 102) (w := []) (c := 40) (q := []) (by decide) (by decide) (by decide) e40))
  have pa : ∃ ys, To.Piece (aa n ++ [41]) ys ∧ ys.map (·.text) = ta n := by
    cases n with
    | zero => exact ⟨_, e41, rfl⟩
    | succ n =>
      have q1 := (To.Piece.word (d := 97) (w := []) (c := 44) (q := [32]) (by decide) (by decide) (by decide) (e44.append b32)).rep n
      have q2 := q1.append (To.Piece.word (d := 97) (w := []) (c := 41) (q := []) (by decide) (by decide) (by decide) e41)
      refine ⟨_, by rw [aa_is, List.append_assoc]; exact q2, ?_⟩
      simp only [List.map_append, To.reps_text, List.map_cons, List.map_nil]
      rfl
  obtain ⟨ys, h1, h2⟩ := pa
  have p3 := b32.append (To.Piece.word (d := 114) (w := [101, 116, 117, 114, 110]) (c := 32) (q := [97, 59]) (by decide) (by decide) (by decide) (b32.append (To.Piece.word (d := 97) (w := []) (c := 59) (q := []) (by decide) (by decide) (by decide) e59)))
  have hall := p1.append (h1.append ((b32.append e123).append (p3.rep k)))
  have et : si n k = [102, 110, 32, 102, 40] ++ (aa n ++ [41] ++ ([32] ++ [123] ++ To.rep [32, 114, 101, 116, 117, 114, 110, 32, 97, 59] k)) := by unfold si; simp only [List.append_assoc]; rfl
  refine ⟨_, by rw [et]; exact hall, ?_⟩
  simp only [List.map_append, To.T.on_text, To.reps_text, List.map_cons, List.map_nil, h2]
  unfold ti tret
  simp [List.append_assoc, To.T.on]

theorem names_ta : ∀ (n : Nat) (r : List Tx), ((nameOf (To.rep [[97], [44]] n ++ ([97] :: [41] :: r))).then_ fun x q => (sevTail [41] nameOf q).map (x :: ·)) = .ok (List.replicate (n + 1) [97]) r := by
  intro n
  induction n with
  | zero =>
    intro r
    show (sevTail [41] nameOf ([41] :: r)).map _ = _
    rw [sevTail_end]; rfl
  | succ n ih =>
    intro r
    show (sevTail [41] nameOf ([44] :: (To.rep [[97], [44]] n ++ ([97] :: [41] :: r)))).map ([97] :: ·) = _
    rw [sevTail_comma nameOf_down (by decide), ih]; rfl
theorem several_ta (n : Nat) (r : List Tx) : several [41] nameOf (ta n ++ r) = .ok (List.replicate n [97]) r := by
  cases n with
  | zero => exact several_none r
  | succ n =>
    have e : ta (n + 1) ++ r = To.rep [[97], [44]] n ++ ([97] :: [41] :: r) := by unfold ta; simp
    rw [e, several_first nameOf_down _ (by cases n <;> simp [To.rep])]
    exact names_ta n r

theorem closes_59 (q : List Tx) : Closes ([59] :: q) := Closes.cons (by decide)
theorem ret_ok (r : List Tx) : stm true (tret ++ r) = .ok ret r := stm_return (expr_sg (sg_name (by decide) (closes_59 _)) (closes_59 _))
theorem tret_head (r : List Tx) : (tret ++ r).head? ≠ some [125] ∧ tret ++ r ≠ [] := ⟨by simp [tret], by simp [tret]⟩
theorem rets_ok (r : List Tx) : ∀ k, stmtsT (stm true) (To.rep tret k ++ [125] :: r) = .ok (List.replicate k ret) r := by
  intro k
  induction k with
  | zero => exact stmtsT_end _ r
  | succ k ih =>
    rw [To.rep, List.append_assoc]
    exact stmts_one (stm_down true) (tret_head _).1 (tret_head _).2 (ret_ok _) ih
theorem rets_bad : ∀ k, stmtsT (stm true) (To.rep tret k) = .bad [] := by
  intro k
  induction k with
  | zero => rfl
  | succ k ih =>
    rw [To.rep, stmtsT_more (stm_down true) _ (tret_head _).1 (tret_head _).2, ret_ok]
    show (stmtsT (stm true) (To.rep tret k)).map _ = _
    rw [ih]; rfl

theorem nameOf_f (r : List Tx) : nameOf ([102] :: r) = .ok [102] r := by unfold nameOf; simp only; rw [if_pos (by decide)]
theorem must_40 (r : List Tx) : must [40] () ([40] :: r) = .ok () r := by unfold must; simp
theorem func_si (n k : Nat) (r : List Tx) : func ([102] :: [40] :: (ta n ++ ([123] :: (To.rep tret k ++ [125] :: r)))) = .ok (fnOf n k) r := by
  rw [func_is, nameOf_f]
  simp only [R.then_]
  rw [must_40]
  simp only
  rw [several_ta]
  simp only
  rw [block_ok (rets_ok r k)]; rfl
theorem func_bad (n k : Nat) : func ([102] :: [40] :: (ta n ++ ([123] :: To.rep tret k))) = .bad [] := by
  rw [func_is, nameOf_f]
  simp only [R.then_]
  rw [must_40]
  simp only
  rw [several_ta]
  simp only
  have : block (stm true) ([123] :: To.rep tret k) = .bad [] := by unfold block; simp only [if_true]; exact rets_bad k
  rw [this]; rfl
theorem ti_app (n k : Nat) (r : List Tx) : ti n k ++ r = [102, 110] :: [102] :: [40] :: (ta n ++ ([123] :: (To.rep tret k ++ r))) := by unfold ti; simp [List.append_assoc]
theorem prog_good (n k : Nat) : progT [] (ti n k ++ [[125]]) = .ok ⟨[fnOf n k], .nil⟩ [] := by
  rw [ti_app, progT_fn, func_si]; rfl
theorem prog_more (n k : Nat) : progT [] (ti n k ++ ([125] :: tret)) = .bad tret := by
  rw [ti_app, progT_fn, func_si]
  rfl
theorem prog_cut (n k : Nat) : progT [] (ti n k) = .bad [] := by
  have := ti_app n k []
  rw [List.append_nil] at this
  rw [this, progT_fn, List.append_nil, func_bad]; rfl
end Go.Nd
namespace Go.Proofs.YtiefpffccmdcoaaDoor
open Go.Nd
theorem great_si : ((List.range 20).all fun k => great wrapI (Ns.of (List.replicate k ret)) == false) = true := by kernel_rfl
theorem check_si : ((List.range 20).all fun n => (List.range 20).all fun k => check wrapI ⟨[fnOf n k], Ns.of (List.replicate k ret)⟩ == decide (k = 0)) = true := by kernel_rfl
theorem check_good : ((List.range 20).all fun n => (List.range 20).all fun k => check wrapI ⟨[fnOf n k], .nil⟩) = true := by kernel_rfl
theorem check_si' {n k : Nat} (hn : n < 20) (hk : k < 20) : check wrapI ⟨[fnOf n k], Ns.of (List.replicate k ret)⟩ = decide (k = 0) := beq_iff_eq.1 (List.all_eq_true.1 (List.all_eq_true.1 check_si n (List.mem_range.2 hn)) k (List.mem_range.2 hk))
theorem check_good' {n k : Nat} (hn : n < 20) (hk : k < 20) : check wrapI ⟨[fnOf n k], .nil⟩ = true := List.all_eq_true.1 (List.all_eq_true.1 check_good n (List.mem_range.2 hn)) k (List.mem_range.2 hk)

theorem parse_si (n k : Nat) (hn : n < 20) (hk : k < 20) : parse wrapI (si n k ++ [125]) = (⟨[fnOf n k], .nil⟩, 0, 0) := by
  obtain ⟨xs, h1, h2⟩ := piece_si n k
  have e125 : To.Piece [125] [⟨3, [125], 0⟩] := To.Piece.sign (by decide) (by decide) (by decide)
  have hl := si_len n k
  obtain ⟨h3, h4⟩ := (h1.append e125).texts (l := ti n k ++ [[125]]) (by rw [List.length_append]; simp; omega) (by rw [List.map_append, To.T.on_text, h2]; rfl)
  have hg := beq_iff_eq.1 (List.all_eq_true.1 great_si k (List.mem_range.2 hk))
  rw [parse_ok wrapI _ h3 (by rw [h4]; exact prog_good n k)]
  rw [if_neg]
  simp only [List.any_cons, List.any_nil, Bool.or_false, Bool.or_eq_true, not_or]
  refine ⟨?_, ?_⟩
  · show ¬ great wrapI .nil = true; decide
  · show ¬ great wrapI (Ns.of (List.replicate k ret)) = true
    rw [hg]; decide
theorem parse_si_more (n k : Nat) (hn : n < 20) (hk : k < 20) : parse wrapI (si n k ++ [125, 32, 114, 101, 116, 117, 114, 110, 32, 97, 59]) = (⟨[], .nil⟩, (si n k).length + 2, 4) := by
  obtain ⟨xs, h1, h2⟩ := piece_si n k
  have b32 : To.Piece [32] [] := To.Piece.blank (by decide)
  have e59 : To.Piece [59] [⟨3, [59], 0⟩] := To.Piece.sign (by decide) (by decide) (by decide)
  have e125 : To.Piece [125] [⟨3, [125], 0⟩] := To.Piece.sign (by decide) (by decide) (by decide)
  have p3 := e125.append (b32.append (To.Piece.word (d := 114) (w := [101, 116, 117, 114, 110]) (c := 32) (q := [97, 59]) (by decide) (by decide) (by decide) (b32.append (To.Piece.word (d := 97) (w := []) (c := 59) (q := []) (by decide) (by decide) (by decide) e59))))
  have hl := si_len n k
  have hp := h1.append p3
  have hr := hp.read (by rw [List.length_append]; simp; omega)
  have hr' : To.read (si n k ++ [125, 32, 114, 101, 116, 117, 114, 110, 32, 97, 59]) = (xs ++ [⟨3, [125], (si n k).length⟩, ⟨1, [114, 101, 116, 117, 114, 110], 2 + (si n k).length⟩, ⟨1, [97], 9 + (si n k).length⟩, ⟨3, [59], 10 + (si n k).length⟩], 0, 0) := by
    refine hr.trans ?_
    simp [To.T.on]
  have ht : (To.read (si n k ++ [125, 32, 114, 101, 116, 117, 114, 110, 32, 97, 59])).1.map (·.text) = ti n k ++ ([125] :: tret) := by
    rw [hr']; simp only [List.map_append, h2]; rfl
  rw [parse_bad wrapI _ (by rw [hr']) (by rw [ht]; exact prog_more n k)]
  have hpl : placeOf (si n k ++ [125, 32, 114, 101, 116, 117, 114, 110, 32, 97, 59]) (To.read (si n k ++ [125, 32, 114, 101, 116, 117, 114, 110, 32, 97, 59])).1 tret = (si n k).length + 2 := by
    unfold placeOf
    rw [hr']
    have e : (xs ++ [(⟨3, [125], (si n k).length⟩ : To.T), ⟨1, [114, 101, 116, 117, 114, 110], 2 + (si n k).length⟩, ⟨1, [97], 9 + (si n k).length⟩, ⟨3, [59], 10 + (si n k).length⟩]).length - tret.length = xs.length + 1 := by simp [tret]
    rw [e, List.getElem?_append_right (by omega), Nat.add_sub_cancel_left]
    show 2 + (si n k).length = _
    omega
  rw [hpl]
theorem parse_si_cut (n k : Nat) (hn : n < 20) (hk : k < 20) : parse wrapI (si n k) = (⟨[], .nil⟩, (si n k).length, 4) := by
  obtain ⟨xs, h1, h2⟩ := piece_si n k
  have hl := si_len n k
  have hr := h1.read (by omega)
  have ht : (To.read (si n k)).1.map (·.text) = ti n k := by rw [hr]; exact h2
  rw [parse_bad wrapI _ (by rw [hr]) (by rw [ht]; exact prog_cut n k)]
  unfold placeOf
  rw [hr]
  simp only [List.length_nil, Nat.sub_zero]
  rw [List.getElem?_eq_none (Nat.le_refl _)]
end Go.Proofs.YtiefpffccmdcoaaDoor
