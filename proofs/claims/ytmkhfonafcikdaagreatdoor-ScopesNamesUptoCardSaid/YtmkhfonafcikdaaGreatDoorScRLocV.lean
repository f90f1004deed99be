/- The document's scopes: Locals. -/
import Derived.Test.YtmkhfonafcikdaaGreatDoorScRLetsV
import Derived.Test.YtmkhfonafcikdaaGreatDoorScLocV
import Derived.Test.YtmkhfonafcikdaaGreatDoorTrC3
namespace Go.Nd
theorem addN_len (l : List Tx) (s : Tx) : (addN l s).length ≤ l.length + 1 := by
  unfold addN; split
  · omega
  · simp
theorem addAll_len (ss : List Tx) : ∀ l : List Tx, (addAll l ss).length ≤ l.length + ss.length := by
  induction ss with
  | nil => intro l; exact Nat.le_refl _
  | cons s ss ih =>
    intro l
    have h1 := ih (addN l s)
    have h2 := addN_len l s
    show (addAll (addN l s) ss).length ≤ _
    simp only [List.length_cons]; omega
theorem check_stmts {wrap : Int → Int} {p : Pr} (h : check wrap p = true) : stmts false p.body = true ∧ ∀ f ∈ p.funcs, stmts true f.body = true := by
  rw [Go.My.check_is] at h
  simp only [Bool.and_eq_true, List.all_eq_true] at h
  refine ⟨h.1.2, fun f hf => ?_⟩
  have := h.1.1 f hf
  unfold Go.My.fnOne at this
  simp only [Bool.and_eq_true] at this
  exact this.2
theorem addAll_step {l : List Tx} {k : Nat} (hk : k < l.length) : addAll [] (l.take (k + 1)) = addN (addAll [] (l.take k)) l[k] := by
  rw [List.take_succ_eq_append_getElem hk, addAll_append]; rfl
end Go.Nd
namespace Go.Proofs.YtmkhfonafcikdaaGreatDoor
open Go.RowKit Go.My Go.Nd

theorem Since.earlier' {w wb w' : World} {g' : Tags} (hb : Below w.heap.size w wb) (h : Since wb w' g') : Since w w' g' := ⟨hb.trans (h.below.mono hb.size), fun b hlt => h.zero b (Nat.lt_of_lt_of_le hlt hb.size)⟩

def LoAt (w1 : World) (args : List Tx) (gk : Nat) (v5 v6 : Value) (wr : World) : Prop :=
  ∃ (k : Nat) (g : Tags), k ≤ args.length ∧ gk = args.length - k ∧ v6 = .int .i64 (k : Int) ∧ NlAt w1 wr g v5 (addAll [] (args.take k))

set_option maxRecDepth 100000 in
set_option maxHeartbeats 8000000 in
theorem rlocals_t {w : World} {B : Nat} {p : Pr} {v1 v2 : Value} (hB : B ≤ w.heap.size) (h1 : FuncsIn w (· < B) false v1 p.funcs) (h2 : Nodes w (· < B) false v2 p.body) (hS : SmallP p) (f : Int) {Q : Ending → World → Prop}
    (hQ : ∀ v w' g', Since w w' g' → Owns w' g' 750 9 1 v (locals wrapI p f).length (strCells (locals wrapI p f)) → (∀ s ∈ locals wrapI p f, s.length ≤ 140737488351232) → Q (.returned v) w') :
    Calls Tryz.prog 19 #[.agg #[v1, v2], .int .i64 f] w Q := by
  obtain ⟨a1, c1, rfl⟩ := h1.form
  obtain ⟨a2, c2, rfl⟩ := h2.form
  have T0 := Turn.alloc w (fun _ => 0) 720 (.cells #[.slice a1 p.funcs.length c1, .slice a2 p.body.len c2] 25)
  have B0 := Blk.alloc w (fun _ => 0) 720 (.cells #[.slice a1 p.funcs.length c1, .slice a2 p.body.len c2] 25 (0, 0))
  have S0 := (Since.start w).turn T0 (by simp)
  have hAB := S0.below.mono hB
  have HC := Lib.hid (rcheck_t (Nat.le_trans hB S0.below.size) (h1.below hAB) (h2.below hAB))
  have H1 := Lib.hid h1
  have H2 := Lib.hid h2
  have HB := Lib.hid hB
  have HS := Lib.hid hS
  have HQ := Lib.hid hQ
  have hr := hS.funcs
  have l0 : (0 : Int) ≤ (p.funcs.length : Int) := by omega
  have l1 : (p.funcs.length : Int) ≤ 1048576 := by omega
  have H0 := Lib.hid (And.intro S0 B0)
  clear h1 h2 hS T0 B0 S0 hAB hB hr hQ
  go_enter Tryz.func19, Tryz.ntmps19
  go_wp2_with fail
  refine HC.out.mono ?_
  rintro e w1 ⟨rfl, hb⟩
  have TW := Turn.of_below hb ((Tags.ext (fun _ => 0) w.heap.size 720)) 0
  have P1 := Lib.hid (And.intro (H0.out.1.turn TW (by simp)) (H0.out.2.turn TW (by simp)))
  generalize Tags.ext (Tags.ext (fun _ => 0) w.heap.size 720) (w.alloc (.cells #[.slice a1 p.funcs.length c1, .slice a2 p.body.len c2] 25)).heap.size 0 = g1 at P1
  clear TW hb HC H0
  have p0 := cell_of_row w1 w.heap.size 0 _ _ _ P1.out.2.1
  have p1 := cell_of_row w1 w.heap.size 1 _ _ _ P1.out.2.1
  simp at p0 p1
  have HNil := Lib.hid (fun (h : locals wrapI p f = []) => HQ.out (.slice none 0 0) w1 g1 P1.out.1 (by rw [h]; exact Owns.nil _ _ _ _ _) (fun s hs => by rw [h] at hs; cases hs))
  have hBr := Nat.le_trans HB.out P1.out.1.below.size
  have HT := Lib.hid (And.intro hBr (And.intro (H1.out.below (P1.out.1.below.mono HB.out)) (H2.out.below (P1.out.1.below.mono HB.out))))
  have N0 := Lib.hid (show NlAt w1 w1 (fun _ => 0) (.slice none 0 0) [] from ⟨Since.start w1, Owns.nil _ _ _ _ _, fun s h => by cases h⟩)
  clear hBr
  cases hc : check wrapI p with
  | false =>
    have HC := Lib.hid (locals_none (f := f) hc)
    clear hc
    go_wp2_with fail
    exact HNil.out HC.out
  | true =>
    have hst := check_stmts hc
    by_cases hf : (p.funcs.length : Int) ≤ f
    · have HC := Lib.hid (locals_far (wrap := wrapI) hf)
      clear hc hst
      go_wp2_with fail
      exact HNil.out HC.out
    · have hf' : f < (p.funcs.length : Int) := by omega
      by_cases hf0 : f < 0
      · have HC := Lib.hid ((locals_body hc hf0).trans (letsR_is p.body false [] hst.1).symm)
        clear hc hf hst
        go_wp2_with fail
        refine rlets_t HT.out.1 p.body w1 (fun _ => 0) _ _ [] N0.out HT.out.2.2 (by have := HS.out.body; simp only [List.length_nil]; omega) _ fun v' w' g' hN => ?_
        obtain ⟨a5, c5, rfl⟩ := hN.own.form
        have HN := Lib.hid hN
        clear hN p0 p1
        go_wp2_with fail
        exact HQ.out _ w' g' (Since.earlier' P1.out.1.below HN.out.since) (by rw [HC.out]; exact HN.out.own) (by rw [HC.out]; exact HN.out.short)
      · obtain ⟨i, rfl⟩ : ∃ i : Nat, f = (i : Int) := ⟨f.toNat, by omega⟩
        have hi : i < p.funcs.length := by omega
        have hC1 := locals_at hc hi
        have hC2 := fun nm => letsR_is (p.funcs[i]).body true nm (hst.2 _ (List.getElem_mem hi))
        obtain ⟨_, _, e1, _, _, _, _, hcc⟩ := HT.out.2.1
        obtain ⟨b, off, v1, v2, e2, hSb, hN⟩ := hcc i hi
        cases e1
        cases e2
        obtain ⟨a3, c3, r1⟩ := hN.args.form
        obtain ⟨a4, c4, r2⟩ := hN.body.form
        subst r1
        subst r2
        have HD := Lib.hid (And.intro hN.d1 (And.intro hN.d2 (Nat.lt_of_lt_of_le hSb HT.out.1)))
        have hmem := List.getElem_mem hi
        have HN := Lib.hid (And.intro hN.args (And.intro hN.body (HS.out.each _ hmem)))
        obtain ⟨fn, hfn⟩ : ∃ fn, fn = p.funcs[i] := ⟨_, rfl⟩
        rw [← hfn] at HD HN hC1 hC2
        have HC := Lib.hid (show locals wrapI p (i : Int) = letsR (addAll [] fn.args) fn.body from by rw [hC1, hC2]; rfl)
        have HUP := Lib.hid (fun (W : World) (h : Below w1.heap.size w1 W) => show W.cell? ⟨w.heap.size, 0, none⟩ = some (.slice (some ⟨b, off, none⟩) p.funcs.length c1) ∧ W.cell? ⟨b, off + i * 3 + 1, none⟩ = some (.slice a3 fn.args.length c3) ∧ W.cell? ⟨b, off + i * 3 + 2, none⟩ = some (.slice a4 fn.body.len c4) from
          ⟨(World.cell?_of_block (h.block _ (World.block_lt_of_cell? _ _ p0))).trans p0, (World.cell?_of_block (h.block _ HD.out.2.2)).trans HD.out.1, (World.cell?_of_block (h.block _ HD.out.2.2)).trans HD.out.2.1⟩)
        have i0 : (0 : Int) ≤ (i : Int) := by omega
        have hdn : decide (p.funcs.length ≤ i) = false := decide_eq_false (by omega)
        have la := HN.out.2.2.1
        have la0 : (0 : Int) ≤ (fn.args.length : Int) := by omega
        have la1 : (fn.args.length : Int) ≤ 1048576 := by omega
        clear hfn hmem hN hSb hcc hf hf0 hc hi hst hC1 hC2 p1 la
        go_wp2_with fail
        clear p0
        go_loopg [5, 6] fn.args.length (fun gk v5 v6 wr => LoAt w1 fn.args gk v5 v6 wr)
        case atStart => exact ⟨0, fun _ => 0, Nat.zero_le _, rfl, rfl, N0.out⟩
        case round =>
          obtain ⟨k, g, hk, rfl, rfl, hL⟩ := hrel
          have k0 : (0 : Int) ≤ (k : Int) := by omega
          obtain ⟨a5, c5, rfl⟩ := hL.own.form
          obtain ⟨p0, d1, d2⟩ := HUP.out wr hL.since.below
          have X := Lib.hid hL
          by_cases hlt : k < fn.args.length
          · have k1 : (k : Int) < (fn.args.length : Int) := by omega
            obtain ⟨_, _, ea, _, _, _, _, hcell⟩ := HN.out.1.below (hL.since.below.mono HT.out.1)
            obtain ⟨b3, o3, eb, hS3, hc3, hl3⟩ := hcell k hlt
            cases ea
            cases eb
            obtain ⟨s, hs⟩ : ∃ s, s = fn.args[k] := ⟨_, rfl⟩
            rw [← hs] at hc3 hl3
            have hstep := addAll_step hlt
            rw [← hs] at hstep
            have hlen := addAll_len (fn.args.take k) []
            rw [List.length_take, List.length_nil] at hlen
            have hkb : k ≤ 1048576 := by omega
            obtain ⟨nm, hnm⟩ : ∃ nm, nm = addAll [] (fn.args.take k) := ⟨_, rfl⟩
            have X1 := X.out
            rw [← hnm] at X1 hstep hlen
            rw [← hnm]
            have X2 := Lib.hid X1
            have hnl : nm.length ≤ 1048576 := by omega
            have HK := Lib.hid (And.intro hlt (And.intro hstep hl3))
            clear hs hstep hlen hcell hS3 hlt hk hL X X1 hnm hl3
            go_wp2_with fail
            refine (rin_t (texts_of_owns X2.out.own X2.out.short (by omega)) s).mono ?_
            rintro e w3 ⟨rfl, hb3⟩
            have T3 := Turn.of_below hb3 g 751
            have N3 := X2.out.turn T3 (by simp) (by simp)
            generalize g.ext wr.heap.size 751 = g3 at N3
            obtain ⟨p0', d1', _⟩ := HUP.out w3 N3.since.below
            have hc3' := (World.cell?_of_block (hb3.block _ (World.block_lt_of_cell? _ _ hc3))).trans hc3
            have NN := Lib.hid N3
            clear T3 hb3 N3 p0 d1 d2 hc3
            cases hin : nm.contains s with
            | true =>
              have HNX := Lib.hid (show addAll [] (fn.args.take (k + 1)) = nm from by rw [HK.out.2.1]; unfold addN; rw [hin]; rfl)
              clear hin
              go_wp2_with fail
              go_roundg (fn.args.length - (k + 1))
              case measure => have := HK.out.1; omega
              case rel => exact ⟨k + 1, g3, HK.out.1, rfl, by go_num, by rw [HNX.out]; exact NN.out⟩
            | false =>
              have HNX := Lib.hid (show addAll [] (fn.args.take (k + 1)) = nm ++ [s] from by rw [HK.out.2.1]; unfold addN; rw [hin]; rfl)
              clear hin
              go_wp2_with (at_builtin; refine wpList_append_t _ rfl (.tmp 45) (.tmp 55) rfl strElR (g := g3.ext w3.heap.size 752) (tg := 750) (v := .slice a5 nm.length c5) (n := nm.length) (xs := strCells nm) rfl (NN.out.own.turn (Turn.alloc w3 g3 752 (.cells #[.string (tx s)] 9)) (by simp)) (y := .slice (some ⟨w3.heap.size, 0, none⟩) 1 1) rfl (Src.lit (n := 1) #[.string (tx s)] 9 rfl rfl) (by simp [Value.oneCell']) (by unfold maxLen; omega) (by omega) ?_; intro ao cap w4 g4 L4 T4; have T24 := (Turn.alloc w3 g3 752 (.cells #[.string (tx s)] 9)).trans T4 (V := [750]) (by simp) (by simp); have S4 := NN.out.since.turn T24 (by simp); have X4 := Lib.hid (And.intro L4 S4); clear L4 T4 T24 S4)
              go_roundg (fn.args.length - (k + 1))
              case measure => have := HK.out.1; omega
              case rel => exact ⟨k + 1, g4, HK.out.1, rfl, by go_num, by
                rw [HNX.out]
                refine ⟨X4.out.2, ?_, fun x hx => ?_⟩
                · have e : strCells (nm ++ [s]) = strCells nm ++ [.string (tx s)] := by unfold strCells; rw [List.map_append]; rfl
                  rw [e, List.length_append]
                  exact X4.out.1
                · rcases List.mem_append.1 hx with hx | hx
                  · exact NN.out.short x hx
                  · simp only [List.mem_cons, List.not_mem_nil, or_false] at hx; subst hx; exact HK.out.2.2⟩
          · obtain rfl : k = fn.args.length := by omega
            rw [List.take_length] at hL X
            rw [List.take_length]
            have hal := addAll_len fn.args []
            have hsz : (addAll [] fn.args).length + fn.body.flat.length ≤ 2000000 := by have := HN.out.2.2; rw [List.length_nil] at hal; omega
            clear hlt hk hL hal
            go_wp2_with fail
            refine rlets_t HT.out.1 fn.body wr g _ _ _ X.out HN.out.2.1 hsz _ fun v' w' g' hN => ?_
            obtain ⟨a6, c6, rfl⟩ := hN.own.form
            have HN2 := Lib.hid hN
            clear hN p0 d1 d2
            go_wp2_with fail
            exact HQ.out _ w' g' (Since.earlier' P1.out.1.below HN2.out.since) (by rw [HC.out]; exact HN2.out.own) (by rw [HC.out]; exact HN2.out.short)
end Go.Proofs.YtmkhfonafcikdaaGreatDoor
