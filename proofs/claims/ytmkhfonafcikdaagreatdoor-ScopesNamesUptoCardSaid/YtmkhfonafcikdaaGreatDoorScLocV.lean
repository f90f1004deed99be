/- Scopes: Locals: the names that a function, or the body, has of its own. -/
import Derived.Test.YtmkhfonafcikdaaGreatDoorScCheckV
import Derived.StillTailTactics
namespace Go.Nd
theorem locals_none {wrap : Int → Int} {p : Pr} {f : Int} (h : check wrap p = false) : locals wrap p f = [] := by unfold locals; rw [if_pos (.inl h)]
theorem locals_far {wrap : Int → Int} {p : Pr} {f : Int} (h : (p.funcs.length : Int) ≤ f) : locals wrap p f = [] := by unfold locals; rw [if_pos (.inr h)]
theorem locals_body {wrap : Int → Int} {p : Pr} {f : Int} (h : check wrap p = true) (h2 : f < 0) : locals wrap p f = ownN [] p.body := by
  unfold locals
  rw [if_neg (by rintro (h1 | h1); (rw [h] at h1; cases h1); omega), if_pos h2]
theorem locals_at {wrap : Int → Int} {p : Pr} {i : Nat} (h : check wrap p = true) (hi : i < p.funcs.length) : locals wrap p (i : Int) = ownN (p.funcs[i]).args (p.funcs[i]).body := by
  unfold locals
  rw [if_neg (by rintro (h1 | h1); (rw [h] at h1; cases h1); omega), if_neg (by omega)]
  simp [hi]
end Go.Nd
namespace Go.Proofs.YtmkhfonafcikdaaGreatDoor
open Go.RowKit Go.Maps Go.My Go.Nd Go.WideMaps

theorem nam_list {W : World} {g : Tags} {t nb : Nat} {cur : List Tx} {k : Nat} (h : NamAt W g t nb cur k) : ∃ a c, W.cell? ⟨nb, 0, none⟩ = some (.slice a cur.length c) ∧ Owns W g (t + 1) 9 1 (.slice a cur.length c) cur.length (strCells cur) ∧ ∀ s ∈ cur, s.length ≤ 140737488351232 := by
  obtain ⟨h3, h4, (⟨h5, h6⟩ | ⟨mb, a, c, f, h5⟩)⟩ := h
  · subst h5
    exact ⟨none, 0, cell_of_row W nb 0 _ _ _ h6.row.1, Owns.nil _ _ _ _ _, h4⟩
  · exact ⟨a, c, cell_of_row W nb 0 _ _ _ h5.row.1, h5.list, h4⟩
theorem texts_nil (w : World) (S : Nat → Prop) : TextsIn w S false (.slice none 0 0) [] := ⟨none, 0, rfl, Nat.le_refl _, by decide, by simp, (fun e => by cases e), fun i hi => absurd hi (Nat.not_lt_zero _)⟩

set_option maxRecDepth 100000 in
set_option maxHeartbeats 8000000 in
theorem slocals_t {w : World} {B : Nat} {p : Pr} {v1 v2 : Value} (hB : B ≤ w.heap.size) (h1 : FuncsIn w (· < B) false v1 p.funcs) (h2 : Nodes w (· < B) false v2 p.body) (hS : SmallP p) (f : Int) {Q : Ending → World → Prop}
    (hQ : ∀ v w' g', Since w w' g' → Owns w' g' 701 9 1 v (locals wrapI p f).length (strCells (locals wrapI p f)) → (∀ s ∈ locals wrapI p f, s.length ≤ 140737488351232) → Q (.returned v) w') :
    Calls Tryz.prog 15 #[.agg #[v1, v2], .int .i64 f] w Q := by
  obtain ⟨a1, c1, rfl⟩ := h1.form
  obtain ⟨a2, c2, rfl⟩ := h2.form
  have T0 := Turn.alloc w (fun _ => 0) 720 (.cells #[.slice a1 p.funcs.length c1, .slice a2 p.body.len c2] 25)
  have B0 := Blk.alloc w (fun _ => 0) 720 (.cells #[.slice a1 p.funcs.length c1, .slice a2 p.body.len c2] 25 (0, 0))
  have S0 := (Since.start w).turn T0 (by simp)
  have hAB := S0.below.mono hB
  have HC := Lib.hid (check_t (Nat.le_trans hB S0.below.size) (h1.below hAB) (h2.below hAB))
  have H1 := Lib.hid h1
  have H2 := Lib.hid h2
  have HB := Lib.hid hB
  have HS := Lib.hid hS
  have HQ := Lib.hid hQ
  have hr := hS.funcs
  have l0 : (0 : Int) ≤ (p.funcs.length : Int) := by omega
  have l1 : (p.funcs.length : Int) ≤ 1048576 := by omega
  have H0 := Lib.hid (And.intro S0 B0)
  clear h1 h2 hS T0 B0 S0 hAB hB hr hQ
  go_enter Tryz.func15, Tryz.ntmps15
  go_wp2_with fail
  refine HC.out.mono ?_
  rintro e w1 ⟨rfl, hb⟩
  have TW := Turn.of_below hb ((Tags.ext (fun _ => 0) w.heap.size 720)) 0
  have P1 := Lib.hid (And.intro (H0.out.1.turn TW (by simp)) (H0.out.2.turn TW (by simp)))
  generalize Tags.ext (Tags.ext (fun _ => 0) w.heap.size 720) (w.alloc (.cells #[.slice a1 p.funcs.length c1, .slice a2 p.body.len c2] 25)).heap.size 0 = g1 at P1
  clear TW hb HC H0
  have p0 := cell_of_row w1 w.heap.size 0 _ _ _ P1.out.2.1
  have p1 := cell_of_row w1 w.heap.size 1 _ _ _ P1.out.2.1
  simp at p0 p1
  have HNil := Lib.hid (fun (h : locals wrapI p f = []) => HQ.out (.slice none 0 0) w1 g1 P1.out.1 (by rw [h]; exact Owns.nil _ _ _ _ _) (fun s hs => by rw [h] at hs; cases hs))
  have hBr := Nat.le_trans HB.out P1.out.1.below.size
  have HT := Lib.hid (And.intro hBr (And.intro (H1.out.below (P1.out.1.below.mono HB.out)) (H2.out.below (P1.out.1.below.mono HB.out))))
  clear hBr
  cases hc : check wrapI p with
  | false =>
    have HC := Lib.hid (locals_none (f := f) hc)
    clear hc
    go_wp2_with fail
    exact HNil.out HC.out
  | true =>
    by_cases hf : (p.funcs.length : Int) ≤ f
    · have HC := Lib.hid (locals_far (wrap := wrapI) hf)
      clear hc
      go_wp2_with fail
      exact HNil.out HC.out
    · have hf' : f < (p.funcs.length : Int) := by omega
      by_cases hf0 : f < 0
      · have HC := Lib.hid (locals_body hc hf0)
        clear hc hf
        go_wp2_with fail
        refine sown_t HT.out.1 (texts_nil _ _) HT.out.2.2 (by have := HS.out.body; simp only [List.length_nil]; omega) fun nb w4 g4 k S4 N4 => ?_
        obtain ⟨a5, c5, n0, nO, nl⟩ := nam_list N4
        have X4 := Lib.hid (And.intro S4 (And.intro nO nl))
        clear S4 N4 nO nl p0 p1
        go_wp2_with fail
        refine HQ.out _ w4 (Tags.join w1.heap.size g1 g4) (P1.out.1.turn (X4.out.1.join g1) (by simp)) ?_ ?_
        · rw [HC.out]
          obtain ⟨k0, ho, hk⟩ := X4.out.2.1
          exact ⟨k0, ho, fun b hb => Tags.join_new X4.out.1 g1 (by decide) (hk b hb)⟩
        · rw [HC.out]; exact X4.out.2.2
      · obtain ⟨i, rfl⟩ : ∃ i : Nat, f = (i : Int) := ⟨f.toNat, by omega⟩
        have hi : i < p.funcs.length := by omega
        have HC := Lib.hid (locals_at hc hi)
        obtain ⟨_, _, e1, _, _, _, _, hcc⟩ := HT.out.2.1
        obtain ⟨b, off, v1, v2, e2, hSb, hN⟩ := hcc i hi
        cases e1
        cases e2
        obtain ⟨a3, c3, r1⟩ := hN.args.form
        obtain ⟨a4, c4, r2⟩ := hN.body.form
        subst r1
        subst r2
        have d1 := hN.d1
        have d2 := hN.d2
        have hmem := List.getElem_mem hi
        have HN := Lib.hid (And.intro hN.args (And.intro hN.body (HS.out.each _ hmem)))
        obtain ⟨fn, hfn⟩ : ∃ fn, fn = p.funcs[i] := ⟨_, rfl⟩
        rw [← hfn] at d1 d2 HN HC
        have i0 : (0 : Int) ≤ (i : Int) := by omega
        clear hfn hmem hN hSb hcc hf hf0 hc hi
        go_upto_region 5 with fail
        go_still_tail 12, (by kernel_rfl)
        change wpList _ _ _ _ _ w1.drew
        have TD := Turn.drew w1 g1
        have P2 := Lib.hid (P1.out.1.turn TD (by simp))
        have HT2 := Lib.hid (And.intro (show B ≤ w1.drew.heap.size from HT.out.1) (And.intro (HN.out.1.below ((Below.refl B w1).drew)) (HN.out.2.1.below ((Below.refl B w1).drew))))
        clear TD d1 d2 p0 p1
        generalize w1.drew = w2 at P2 HT2 ⊢
        go_wp2_with fail
        refine sown_t HT2.out.1 HT2.out.2.1 HT2.out.2.2 (by have := HN.out.2.2; omega) fun nb w4 g4 k S4 N4 => ?_
        obtain ⟨a5, c5, n0, nO, nl⟩ := nam_list N4
        have X4 := Lib.hid (And.intro S4 (And.intro nO nl))
        clear S4 N4 nO nl
        go_wp2_with fail
        refine HQ.out _ w4 (Tags.join w2.heap.size g1 g4) (P2.out.turn (X4.out.1.join g1) (by simp)) ?_ ?_
        · rw [HC.out]
          obtain ⟨k0, ho, hk⟩ := X4.out.2.1
          exact ⟨k0, ho, fun b hb => Tags.join_new X4.out.1 g1 (by decide) (hk b hb)⟩
        · rw [HC.out]; exact X4.out.2.2
end Go.Proofs.YtmkhfonafcikdaaGreatDoor
