/- The statement ShowsParts: its walk. -/
import Derived.Test.YtobpnjnfpgcpaaaGreatDoorShCanonT
import Derived.Test.YtobpnjnfpgcpaaaGreatDoorNdSizeVT
import Derived.Test.YtobpnjnfpgcpaaaGreatDoorTrA2
import Derived.Test.YtobpnjnfpgcpaaaGreatDoorShFnT
namespace Go.Nd
theorem tot_take : ∀ (l : List Tx) (i : Nat), tot (l.take i) ≤ tot l := by
  intro l
  induction l with
  | nil => intro i; rw [List.take_nil]; exact Nat.le_refl _
  | cons s l ih =>
    intro i
    cases i with
    | zero => exact Nat.zero_le _
    | succ i => show s.length + 2 + tot (l.take i) ≤ s.length + 2 + tot l; have := ih i; omega
theorem sepN_le (xs : Ns) (i : Nat) : (sepN xs.items i).length ≤ 12 * xs.sz := by
  have h1 := sepx_len [44, 32] (by decide) ((xs.items.take i).map Nd.sh)
  have h2 := tot_take (xs.items.map Nd.sh) i
  have h3 := sh_tot xs
  rw [sh_items] at h3
  rw [List.map_take] at h1
  unfold sepN
  rw [List.map_take]
  omega
theorem three_size {xs : Ns} (h : xs.sz ≤ 1000) : psz (threeP xs) ≤ 1048576 := by
  show 0 + (1 + 0 + xs.sz + 0 + 0 + (1 + 1 + xs.sz + 0 + 0 + (1 + 0 + xs.sz + 0 + 0 + 0))) ≤ _; omega
end Go.Nd
namespace Go.Proofs.YtobpnjnfpgcpaaaGreatDoor
open Go.RowKit Go.My Go.Nd

theorem showE_cases (x : Nd) : (showE wrapI x = ([], 1) ∧ check wrapI (stOf x) = false) ∨ (showE wrapI x = (x.sh, 0) ∧ check wrapI (stOf x) = true) := by
  unfold showE
  cases hc : check wrapI (stOf x) with
  | false => exact .inl ⟨rfl, rfl⟩
  | true => exact .inr ⟨rfl, rfl⟩
theorem showP_ok (p : Pr) (h : (showP wrapI p).2 = 0) : (showP wrapI p).1 = progText p := by
  unfold showP at h ⊢
  split
  · rename_i hc
    rw [if_pos hc] at h
    split
    · rename_i hl; rw [if_pos hl] at h; cases h
    · rfl
  · rename_i hc
    rw [if_neg hc] at h; cases h

/-- The program of three statements, as it lies in memory. -/
theorem three_lit {w : World} {B : Nat} {xs : Ns} {a : Option Addr} {c : Nat} (T : TypeId) (h : Nodes w (· < B) false (.slice a xs.len c) xs) (hB : B ≤ w.heap.size) {W : World}
    (hW : W = w.alloc (.cells #[.int .u8 12, .string ⟨#[]⟩, .slice a xs.len c, .slice none 0 0, .slice none 0 0, .int .u8 8, .string ⟨#[120]⟩, .slice a xs.len c, .slice none 0 0, .slice none 0 0, .int .u8 10, .string ⟨#[]⟩, .slice a xs.len c, .slice none 0 0, .slice none 0 0] T)) :
    Nodes W (· < w.heap.size + 1) false (.slice (some ⟨w.heap.size, 0, none⟩) 3 3) (threeP xs).body ∧ Below w.heap.size w W ∧ w.heap.size + 1 ≤ W.heap.size := by
  have A := Below.alloc (Below.refl w.heap.size w) (Nat.le_refl _) (.cells #[.int .u8 12, .string ⟨#[]⟩, .slice a xs.len c, .slice none 0 0, .slice none 0 0, .int .u8 8, .string ⟨#[120]⟩, .slice a xs.len c, .slice none 0 0, .slice none 0 0, .int .u8 10, .string ⟨#[]⟩, .slice a xs.len c, .slice none 0 0, .slice none 0 0] T)
  have z := (Put.new w #[.int .u8 12, .string ⟨#[]⟩, .slice a xs.len c, .slice none 0 0, .slice none 0 0, .int .u8 8, .string ⟨#[120]⟩, .slice a xs.len c, .slice none 0 0, .slice none 0 0, .int .u8 10, .string ⟨#[]⟩, .slice a xs.len c, .slice none 0 0, .slice none 0 0] T).2.2
  have hc : ∀ j, W.cell? ⟨w.heap.size, j, none⟩ = (#[.int .u8 12, .string ⟨#[]⟩, .slice a xs.len c, .slice none 0 0, .slice none 0 0, .int .u8 8, .string ⟨#[120]⟩, .slice a xs.len c, .slice none 0 0, .slice none 0 0, .int .u8 10, .string ⟨#[]⟩, .slice a xs.len c, .slice none 0 0, .slice none 0 0] : Array Value)[j]? := fun j => by
    rw [hW, cell_of_row _ _ _ _ _ _ (heap_alloc_new w _)]
  rw [← hW] at A z
  obtain ⟨a', c', e, r, n⟩ := (h.below (A.mono hB)).mono (T := (· < w.heap.size + 1)) fun b _ hb => Nat.lt_of_lt_of_le hb (by omega)
  cases e
  have r0 : Room false (Ns.nil).len 0 := ⟨Nat.le_refl _, Nat.zero_le _, Nat.zero_le _, fun e => by cases e⟩
  have n0 : NodesAt W (· < w.heap.size + 1) false none .nil := .nil none fun e => by cases e
  exact ⟨⟨some ⟨w.heap.size, 0, none⟩, 3, rfl, ⟨Nat.le_refl _, (by decide), (by show (3 : Nat) * 96 ≤ _; decide), fun e => by cases e⟩,
    .cons (k := 12) (t := []) (Nat.lt_succ_self _) (by decide) (by decide) (hc 0) (hc 1) (hc 2) (hc 3) (hc 4) r r0 r0 n n0 n0 (.cons (k := 8) (t := [120]) (Nat.lt_succ_self _) (by decide) (by decide) (hc 5) (hc 6) (hc 7) (hc 8) (hc 9) r r0 r0 n n0 n0
      (.cons (k := 10) (t := []) (Nat.lt_succ_self _) (by decide) (by decide) (hc 10) (hc 11) (hc 12) (hc 13) (hc 14) r r0 r0 n n0 n0 (.nil _ fun e => by cases e)))⟩, A, by omega⟩

def PartAt (w : World) (xs : Ns) (gk : Nat) (v3 v4 : Value) (wr : World) : Prop :=
  ∃ i, i ≤ xs.items.length ∧ gk = xs.items.length - i ∧ v3 = .string (bs (sepN xs.items i)) ∧ v4 = .int .i64 (i : Int) ∧ Below w.heap.size w wr


set_option maxRecDepth 100000 in
set_option maxHeartbeats 8000000 in
theorem parts_any (w : World) (v : Value) (xs : Ns) (h : Nodes w (fun b => b < w.heap.size) false v xs) (hsz : xs.sz ≤ 1048576) :
    Calls Tryz.prog 6 #[v] w fun e w' => e = .returned (.bool true) ∧ Below w.heap.size w w' := by
  have H0 := Lib.hid h
  obtain ⟨a, c, rfl, hr, hc⟩ := h.open_
  have HC := Lib.hid hc
  have HS := Lib.hid hsz
  have l0 : (0 : Int) ≤ (xs.items.length : Int) := by omega
  have l1 : (xs.items.length : Int) ≤ 140737488351232 := by have := hr.2.2.1; omega
  clear h hsz hc hr
  go_enter Tryz.func6, Tryz.ntmps6
  go_wp2_with fail
  refine alive10_t fun w1 hb => ?_
  have K1 := Lib.hid hb
  clear hb
  by_cases h10 : xs.items.length ≤ 10
  · have h10' : (xs.items.length : Int) ≤ 10 := by omega
    go_wp2_with fail
    refine (size_saidV false xs HS.out w1 w.heap.size _ K1.out.size (H0.out.below K1.out)).mono ?_
    rintro e w2 ⟨n, rfl, hn, hb⟩
    have K2 := Lib.hid (K1.out.trans (hb.mono K1.out.size))
    clear hb
    by_cases hm : n ≤ 1000
    · have HZ := Lib.hid (show xs.sz ≤ 1000 by omega)
      clear hn
      go_wp2_with fail
      go_loopg [3, 4] xs.items.length (fun gk v3 v4 wr => PartAt w2 xs gk v3 v4 wr)
      case atStart => exact ⟨0, Nat.zero_le _, rfl, rfl, rfl, Below.refl _ _⟩
      case round =>
        obtain ⟨i, hi, rfl, rfl, rfl, hb⟩ := hrel
        have i0 : (0 : Int) ≤ (i : Int) := by omega
        have KB := Lib.hid hb
        have KR := Lib.hid (K2.out.trans (hb.mono K2.out.size))
        clear hb hm
        by_cases hlt : i < xs.items.length
        · have i1 : (i : Int) < (xs.items.length : Int) := by omega
          obtain ⟨b, off, v1, v2, v3, rfl, hS, hN⟩ := HC.out i hlt
          have hN' := hN.frame hS fun k hk _ => KR.out.block k hk
          have hsp := sepN_le xs i
          have hsp2 := nd_sh_len (xs.items[i])
          have hsz := sz_of_mem _ (List.getElem_mem hlt)
          have HST := Lib.hid (And.intro (fun h0 : 0 < i => sepN_step hlt h0) (fun h0 : i = 0 => (by subst h0; rw [sepN_zero, List.nil_append]; exact sepN_one hlt : sepN xs.items (i + 1) = sepN xs.items i ++ (xs.items[i]).sh)))
          obtain ⟨x, hx⟩ : ∃ x, x = xs.items[i] := ⟨_, rfl⟩
          rw [← hx] at hN' HST hsz hsp2
          obtain ⟨kd, tt, xl, xb, xe⟩ := x
          have d0 := hN'.d0
          have d1 := hN'.d1
          have d2 := hN'.d2
          have d3 := hN'.d3
          have d4 := hN'.d4
          obtain ⟨a1, c1, e1⟩ := hN'.l.form
          obtain ⟨a2, c2, e2⟩ := hN'.body.form
          obtain ⟨a3, c3, e3⟩ := hN'.els.form
          subst e1 e2 e3
          have NVX := Lib.hid (NodeAt.nv hN')
          simp only at d0 d1 d2 d3 d4 hsz hsp2
          have HX := Lib.hid (And.intro hlt (show 1 + tt.length + xl.sz + xb.sz + xe.sz ≤ 1048576 by have := HS.out; omega))
          have hz1 := HZ.out
          obtain ⟨u, hu⟩ : ∃ u, u = sepN xs.items i := ⟨_, rfl⟩
          rw [← hu] at HST hsp ⊢
          have hul : u.length ≤ 12000 := by omega
          have hxl : (⟨kd, tt, xl, xb, xe⟩ : Nd).sh.length ≤ 12000 := by omega
          clear hN hN' hx hS hu hlt hi hsp hsp2 hsz hz1
          go_wp2_with fail
          refine (showExpr_t (w := wr) (B := w.heap.size) (tw := false) (x := ⟨kd, tt, xl, xb, xe⟩) KR.out.size NVX.out HX.out.2).mono ?_
          rintro e w3 ⟨rfl, hb⟩
          have K3 := Lib.hid (KB.out.trans (hb.mono KB.out.size))
          have K4 := Lib.hid (KR.out.trans (hb.mono KR.out.size))
          clear hb d0 d1 d2 d3 d4
          rcases showE_cases ⟨kd, tt, xl, xb, xe⟩ with ⟨hsh, hck⟩ | ⟨hsh, hck⟩
          · rw [hsh]
            clear hsh hck
            go_wp2_with fail
            go_ret
            exact ⟨rfl, K4.out⟩
          · rw [hsh]
            obtain ⟨s, hs⟩ : ∃ s, s = (⟨kd, tt, xl, xb, xe⟩ : Nd).sh := ⟨_, rfl⟩
            rw [← hs] at HST hxl ⊢
            clear hsh hck hs
            by_cases h0 : i = 0
            · have h0' : (i : Int) ≤ 0 := by omega
              have ad2 : ∀ wx, (Op.stringOp .add (bs u) (bs s)).run Tryz.prog wx = .ok (.string (bs (u ++ s))) wx := add_any u s (by omega)
              have H00 := Lib.hid h0
              clear h0
              go_wp2_with fail
              go_roundg (xs.items.length - (i + 1))
              case measure => have := HX.out.1; omega
              case rel => exact ⟨i + 1, HX.out.1, rfl, by rw [HST.out.2 H00.out], by go_num, K3.out⟩
            · have h0' : (0 : Int) < (i : Int) := by omega
              have ad1 : ∀ wx, (Op.stringOp .add (bs u) ⟨#[44, 32]⟩).run Tryz.prog wx = .ok (.string (bs (u ++ [44, 32]))) wx := add_any u [44, 32] (by simp only [List.length_cons, List.length_nil]; omega)
              have ad2 : ∀ wx, (Op.stringOp .add (bs (u ++ [44, 32])) (bs s)).run Tryz.prog wx = .ok (.string (bs (u ++ [44, 32] ++ s))) wx := add_any (u ++ [44, 32]) s (by simp only [List.length_append, List.length_cons, List.length_nil]; omega)
              have H00 := Lib.hid (Nat.pos_of_ne_zero h0)
              clear h0
              go_wp2_with fail
              go_roundg (xs.items.length - (i + 1))
              case measure => have := HX.out.1; omega
              case rel => exact ⟨i + 1, HX.out.1, rfl, by rw [HST.out.1 H00.out]; simp, by go_num, K3.out⟩
        · obtain rfl : i = xs.items.length := by omega
          have hle := sepN_le xs xs.items.length
          have HU := Lib.hid (parts_text xs)
          rw [sepN_all] at hle ⊢
          obtain ⟨u, hu⟩ : ∃ u, u = sepx [44, 32] (xs.items.map Nd.sh) := ⟨_, rfl⟩
          rw [← hu] at HU hle ⊢
          have hul : u.length ≤ 12000 := by have := HZ.out; omega
          clear hlt hi hu hle
          -- the list, and the call, by themselves
          have al : ∀ wx, (Op.stringOp .add ⟨#[91]⟩ (bs u)).run Tryz.prog wx = .ok (.string (bs ([91] ++ u))) wx := add_any [91] u (by simp only [List.length_cons, List.length_nil]; omega)
          obtain ⟨l1, hl1⟩ : ∃ t : Tx, t = [91] ++ u := ⟨_, rfl⟩
          rw [← hl1] at al HU
          have hll := congrArg List.length hl1
          simp only [List.length_append, List.length_cons, List.length_nil] at hll
          have al2 : ∀ wx, (Op.stringOp .add (bs l1) ⟨#[93]⟩).run Tryz.prog wx = .ok (.string (bs (l1 ++ [93]))) wx := add_any l1 [93] (by simp only [List.length_cons, List.length_nil]; omega)
          obtain ⟨l2, hl2⟩ : ∃ t : Tx, t = l1 ++ [93] := ⟨_, rfl⟩
          rw [← hl2] at al2 HU
          have ac : ∀ wx, (Op.stringOp .add ⟨#[102, 40]⟩ (bs u)).run Tryz.prog wx = .ok (.string (bs ([102, 40] ++ u))) wx := add_any [102, 40] u (by simp only [List.length_cons, List.length_nil]; omega)
          obtain ⟨m1, hm1⟩ : ∃ t : Tx, t = [102, 40] ++ u := ⟨_, rfl⟩
          rw [← hm1] at ac HU
          have hmm := congrArg List.length hm1
          simp only [List.length_append, List.length_cons, List.length_nil] at hmm
          have ac2 : ∀ wx, (Op.stringOp .add (bs m1) ⟨#[41]⟩).run Tryz.prog wx = .ok (.string (bs (m1 ++ [41]))) wx := add_any m1 [41] (by simp only [List.length_cons, List.length_nil]; omega)
          obtain ⟨m2, hm2⟩ : ∃ t : Tx, t = m1 ++ [41] := ⟨_, rfl⟩
          rw [← hm2] at ac2 HU
          have HLM := Lib.hid (And.intro hl1 hl2)
          clear hl1 hl2 hll hm1 hm2 hmm
          have hsl : 1 + xs.sz + 0 + 0 ≤ 1048576 := by have := HZ.out; omega
          have NL := Lib.hid (show NV false wr w.heap.size (.agg #[.int .u8 3, .string ⟨#[]⟩, .slice a xs.items.length c, .slice none 0 0, .slice none 0 0]) (listX xs) from ⟨a, c, none, 0, none, 0, rfl, (by show (3 : Nat) < 256; decide), (by show (0 : Nat) ≤ _; decide), H0.out.below KR.out, nodes_none _ _, nodes_none _ _⟩)
          go_wp2_with fail
          refine (showExpr_t (w := wr) (B := w.heap.size) (tw := false) (x := listX xs) KR.out.size NL.out (by show 1 + 0 + xs.sz + 0 + 0 ≤ _; omega)).mono ?_
          rintro e w3 ⟨rfl, hb⟩
          have K3 := Lib.hid (KR.out.trans (hb.mono KR.out.size))
          clear hb NL
          have NC := Lib.hid (show NV false w3 w.heap.size (.agg #[.int .u8 4, .string ⟨#[102]⟩, .slice a xs.items.length c, .slice none 0 0, .slice none 0 0]) (callX xs) from ⟨a, c, none, 0, none, 0, rfl, (by show (4 : Nat) < 256; decide), (by show (1 : Nat) ≤ _; decide), H0.out.below K3.out, nodes_none _ _, nodes_none _ _⟩)
          obtain ⟨L1, hL1⟩ : ∃ S, S = (showE wrapI (listX xs)).1 := ⟨_, rfl⟩
          obtain ⟨F1, hF1⟩ : ∃ E : Nat, E = (showE wrapI (listX xs)).2 := ⟨_, rfl⟩
          rw [← hL1, ← hF1]
          have HLF := Lib.hid (And.intro hL1 hF1)
          clear hL1 hF1
          go_wp2_with fail
          refine (showExpr_t (w := w3) (B := w.heap.size) (tw := false) (x := callX xs) K3.out.size NC.out (by show 1 + 1 + xs.sz + 0 + 0 ≤ _; have := HZ.out; omega)).mono ?_
          rintro e w4 ⟨rfl, hb⟩
          have K4 := Lib.hid (K3.out.trans (hb.mono K3.out.size))
          clear hb NC
          have hck := parts_check wrapI xs
          rcases showE_cases (listX xs) with ⟨hsh, hcl⟩ | ⟨hsh, hcl⟩
          · rcases showE_cases (callX xs) with ⟨hsc, hcc⟩ | ⟨hsc, hcc⟩
            · rw [hsc]
              obtain rfl : L1 = [] := by rw [HLF.out.1, hsh]
              obtain rfl : F1 = 1 := by rw [HLF.out.2, hsh]
              clear hck hsh hcl hsc hcc
              go_wp2_with fail
              go_ret
              exact ⟨by simp, K4.out⟩
            · rw [hck, hcl] at hcc; cases hcc
          · rcases showE_cases (callX xs) with ⟨hsc, hcc⟩ | ⟨hsc, hcc⟩
            · rw [hck, hcl] at hcc; cases hcc
            · rw [hsc, HU.out.2]
              obtain rfl : L1 = l2 := by rw [HLF.out.1, hsh, HU.out.1]
              obtain rfl : F1 = 0 := by rw [HLF.out.2, hsh]
              clear hck hsh hcl hsc hcc
              by_cases h1 : xs.items.length = 1
              · have HT3 : progText (threeP xs) = [116, 101, 108, 108, 32] ++ u ++ [59, 10, 120, 32, 61, 32] ++ u ++ [59, 10, 119, 104, 105, 108, 101, 32] ++ u ++ [32, 123, 10, 125, 10] := by
                  obtain ⟨x, hx⟩ := one_of (show xs.len = 1 from h1)
                  have e : u = x.sh := by
                    have h2 := HU.out.1
                    rw [hx, (parts_text (Ns.of [x])).1, Ns.items_of, HLM.out.2, HLM.out.1] at h2
                    have h3 : ([91] ++ x.sh ++ [93] : Tx) = [91] ++ u ++ [93] := h2
                    simpa using h3.symm
                  rw [hx, three_text, e]
                obtain ⟨W, hW⟩ : ∃ W, W = w4.alloc (.cells #[.int .u8 12, .string ⟨#[]⟩, .slice a xs.len c, .slice none 0 0, .slice none 0 0, .int .u8 8, .string ⟨#[120]⟩, .slice a xs.len c, .slice none 0 0, .slice none 0 0, .int .u8 10, .string ⟨#[]⟩, .slice a xs.len c, .slice none 0 0, .slice none 0 0] 39) := ⟨_, rfl⟩
                have hX := three_lit 39 (H0.out.below K4.out) K4.out.size hW
                have XB := Lib.hid (K4.out.trans (hX.2.1.mono K4.out.size))
                have X := Lib.hid hX
                clear hX
                obtain ⟨q, hq⟩ : ∃ q, q = w4.heap.size := ⟨_, rfl⟩
                rw [← hq] at X
                have h1' : (xs.items.length : Int) = 1 := by omega
                have HT := Lib.hid HT3
                have HP3 := Lib.hid (three_size HZ.out)
                clear HT3 h1
                go_wp2_with fail
                rw [show w4.alloc (.cells #[.int .u8 12, .string ⟨#[]⟩, .slice a xs.items.length c, .slice none 0 0, .slice none 0 0, .int .u8 8, .string ⟨#[120]⟩, .slice a xs.items.length c, .slice none 0 0, .slice none 0 0, .int .u8 10, .string ⟨#[]⟩, .slice a xs.items.length c, .slice none 0 0, .slice none 0 0] 39) = W from hW.symm, ← hq]
                clear hW hq
                refine (text_t (w := W) (B := q + 1) (p := threeP xs) X.out.2.2 (funcs_none _ _) X.out.1 HP3.out).mono ?_
                rintro e w5 ⟨rfl, hb⟩
                have K5 := Lib.hid (XB.out.trans (hb.mono XB.out.size))
                clear hb
                by_cases hg : (showP wrapI (threeP xs)).2 = 0
                · rw [showP_ok _ hg, hg, HT.out]
                  have a1 : ∀ wx, (Op.stringOp .add ⟨#[116, 101, 108, 108, 32]⟩ (bs u)).run Tryz.prog wx = .ok (.string (bs ([116, 101, 108, 108, 32] ++ u))) wx := add_any [116, 101, 108, 108, 32] u (by simp only [List.length_cons, List.length_nil]; omega)
                  obtain ⟨t1, ht1⟩ : ∃ t : Tx, t = [116, 101, 108, 108, 32] ++ u := ⟨_, rfl⟩
                  rw [← ht1] at a1 ⊢
                  have hl1 := congrArg List.length ht1
                  simp only [List.length_append, List.length_cons, List.length_nil] at hl1
                  have a2 : ∀ wx, (Op.stringOp .add (bs t1) ⟨#[59, 10, 120, 32, 61, 32]⟩).run Tryz.prog wx = .ok (.string (bs (t1 ++ [59, 10, 120, 32, 61, 32]))) wx := add_any t1 [59, 10, 120, 32, 61, 32] (by simp only [List.length_cons, List.length_nil]; omega)
                  obtain ⟨t2, ht2⟩ : ∃ t : Tx, t = t1 ++ [59, 10, 120, 32, 61, 32] := ⟨_, rfl⟩
                  rw [← ht2] at a2 ⊢
                  have hl2 := congrArg List.length ht2
                  simp only [List.length_append, List.length_cons, List.length_nil] at hl2
                  have a3 : ∀ wx, (Op.stringOp .add (bs t2) (bs u)).run Tryz.prog wx = .ok (.string (bs (t2 ++ u))) wx := add_any t2 u (by omega)
                  obtain ⟨t3, ht3⟩ : ∃ t : Tx, t = t2 ++ u := ⟨_, rfl⟩
                  rw [← ht3] at a3 ⊢
                  have hl3 := congrArg List.length ht3
                  rw [List.length_append] at hl3
                  have a4 : ∀ wx, (Op.stringOp .add (bs t3) ⟨#[59, 10, 119, 104, 105, 108, 101, 32]⟩).run Tryz.prog wx = .ok (.string (bs (t3 ++ [59, 10, 119, 104, 105, 108, 101, 32]))) wx := add_any t3 [59, 10, 119, 104, 105, 108, 101, 32] (by simp only [List.length_cons, List.length_nil]; omega)
                  obtain ⟨t4, ht4⟩ : ∃ t : Tx, t = t3 ++ [59, 10, 119, 104, 105, 108, 101, 32] := ⟨_, rfl⟩
                  rw [← ht4] at a4 ⊢
                  have hl4 := congrArg List.length ht4
                  simp only [List.length_append, List.length_cons, List.length_nil] at hl4
                  have a5 : ∀ wx, (Op.stringOp .add (bs t4) (bs u)).run Tryz.prog wx = .ok (.string (bs (t4 ++ u))) wx := add_any t4 u (by omega)
                  obtain ⟨t5, ht5⟩ : ∃ t : Tx, t = t4 ++ u := ⟨_, rfl⟩
                  rw [← ht5] at a5 ⊢
                  have hl5 := congrArg List.length ht5
                  rw [List.length_append] at hl5
                  have a6 : ∀ wx, (Op.stringOp .add (bs t5) ⟨#[32, 123, 10, 125, 10]⟩).run Tryz.prog wx = .ok (.string (bs (t5 ++ [32, 123, 10, 125, 10]))) wx := add_any t5 [32, 123, 10, 125, 10] (by simp only [List.length_cons, List.length_nil]; omega)
                  obtain ⟨t6, ht6⟩ : ∃ t : Tx, t = t5 ++ [32, 123, 10, 125, 10] := ⟨_, rfl⟩
                  rw [← ht6] at a6 ⊢
                  clear ht1 ht2 ht3 ht4 ht5 ht6 hl1 hl2 hl3 hl4 hl5 hg
                  go_wp2_with fail
                  go_ret
                  exact ⟨by simp, K5.out⟩
                · obtain ⟨E3, hE3⟩ : ∃ E : Nat, E = (showP wrapI (threeP xs)).2 := ⟨_, rfl⟩
                  rw [← hE3] at hg ⊢
                  have hg' : ¬ (E3 : Int) = 0 := by omega
                  clear hg hE3
                  go_wp2_with fail
                  go_ret
                  exact ⟨by simp, K5.out⟩
              · have h1' : ¬ (xs.items.length : Int) = 1 := by omega
                clear h1
                go_wp2_with fail
                go_ret
                exact ⟨by simp, K4.out⟩
    · have hm2 : (1000 : Int) < n := by omega
      clear hm hn
      go_wp2_with fail
      refine alive10_t fun w5 hb => ?_
      have K5 := Lib.hid (K2.out.trans (hb.mono K2.out.size))
      clear hb
      go_wp2_with fail
      go_ret
      exact ⟨rfl, K5.out⟩
  · have h10' : (10 : Int) < (xs.items.length : Int) := by omega
    clear h10
    go_wp2_with fail
    refine alive10_t fun w5 hb => ?_
    have K5 := Lib.hid (K1.out.trans (hb.mono K1.out.size))
    clear hb
    go_wp2_with fail
    go_ret
    exact ⟨rfl, K5.out⟩
end Go.Proofs.YtobpnjnfpgcpaaaGreatDoor
