/- The statement ShowsBlocks: its walk. -/
import Derived.Test.YtobpnjnfpgcpaaaGreatDoorShCanonT
import Derived.Test.YtobpnjnfpgcpaaaGreatDoorNdSizeVT
import Derived.Test.YtobpnjnfpgcpaaaGreatDoorTrA2
import Derived.Test.YtobpnjnfpgcpaaaGreatDoorShFnT
namespace Go.Proofs.YtobpnjnfpgcpaaaGreatDoor
open Go.RowKit Go.My Go.Nd

theorem sl_one (s : Tx) (i : Nat) (h : i < s.length) : ∀ wx, (Instr.slice 9 (.string (bs s)) (some (.int .i64 (i : Int))) (some (.int .i64 ((i : Int) + 1))) none).run Tryz.prog wx = .ok (.string (bs [s[i]])) wx := by
  intro wx
  have hs := bs_size s
  rw [run_slice_string_if wx 9 (bs s) .i64 .i64 (i : Int) ((i : Int) + 1) Tryz.underlying9, if_pos ⟨by omega, by omega⟩, if_pos ⟨by omega, by omega⟩]
  have e : ((i : Int) + 1).toNat = i + 1 := by omega
  rw [e, Int.toNat_natCast, bs_cut, Nat.add_sub_cancel_left]
  congr 4
  rw [List.drop_eq_getElem_cons h]
  rfl

theorem beq10 (d : UInt8) : ((d.toNat : Int) == 10) = (d == 10) := by
  rw [Bool.eq_iff_iff, beq_iff_eq, beq_iff_eq]
  constructor
  · intro e
    have e2 : d.toNat = (10 : UInt8).toNat := by show d.toNat = 10; omega
    exact UInt8.toNat_inj.1 e2
  · rintro rfl; rfl

theorem blk_size {xs : Ns} (h : xs.sz ≤ 1000) : psz ⟨[], xs⟩ ≤ 1048576 ∧ psz (blkP xs) ≤ 1048576 := by
  constructor
  · show 0 + xs.sz ≤ _; omega
  · show (1 + 1 + 0 + xs.sz + 0) + (1 + 0 + (1 + 1 + 0 + 0 + 0 + 0) + xs.sz + xs.sz + 0) ≤ _; omega

/-- The program of the two blocks, as it lies in memory. -/
theorem blk_lit {w : World} {B : Nat} {xs : Ns} {v : Value} (T T' : TypeId) (h : Nodes w (· < B) false v xs) (hB : B ≤ w.heap.size) {W : World}
    (hW : W = ((w.alloc (.cells #[.int .u8 1, .string ⟨#[49]⟩, .slice none 0 0, .slice none 0 0, .slice none 0 0] T)).alloc (.cells #[.string ⟨#[102]⟩, .slice none 0 0, v] T')).alloc (.cells #[.int .u8 9, .string ⟨#[]⟩, .slice (some ⟨w.heap.size, 0, none⟩) 1 1, v, v] T)) :
    FuncsIn W (· < w.heap.size + 3) false (.slice (some ⟨w.heap.size + 1, 0, none⟩) 1 1) (blkP xs).funcs ∧ Nodes W (· < w.heap.size + 3) false (.slice (some ⟨w.heap.size + 2, 0, none⟩) 1 1) (blkP xs).body ∧ Below w.heap.size w W ∧ w.heap.size + 3 ≤ W.heap.size := by
  obtain ⟨a, c, rfl⟩ := h.form
  have z1 := (Put.new w #[.int .u8 1, .string ⟨#[49]⟩, .slice none 0 0, .slice none 0 0, .slice none 0 0] T).2.2
  have A1 := Below.alloc (Below.refl w.heap.size w) (Nat.le_refl _) (.cells #[.int .u8 1, .string ⟨#[49]⟩, .slice none 0 0, .slice none 0 0, .slice none 0 0] T)
  have L1 := nodes_lit (w := w) (B := 0) (x := leaf 1 [49]) (c0 := .int .u8 1) (c1 := .string ⟨#[49]⟩) (c2 := .slice none 0 0) (c3 := .slice none 0 0) (c4 := .slice none 0 0) T ⟨none, 0, none, 0, none, 0, rfl, by decide, by decide, nodes_none _ _, nodes_none _ _, nodes_none _ _⟩ (Nat.zero_le _)
  generalize w.alloc (.cells #[.int .u8 1, .string ⟨#[49]⟩, .slice none 0 0, .slice none 0 0, .slice none 0 0] T) = w1 at *
  have z2 := (Put.new w1 #[.string ⟨#[102]⟩, .slice none 0 0, .slice a xs.len c] T').2.2
  have A2 := Below.alloc (Below.refl w1.heap.size w1) (Nat.le_refl _) (.cells #[.string ⟨#[102]⟩, .slice none 0 0, .slice a xs.len c] T')
  have h1 := h.below (A1.mono hB)
  have L2 := funcs_lit (w := w1) (B := w1.heap.size) (f := ⟨[102], [], xs⟩) (v1 := .slice none 0 0) (v2 := .slice a xs.len c) T' (by show (1 : Nat) ≤ _; decide) (texts_none _ _) (h1.mono fun b _ hb => Nat.lt_of_lt_of_le hb (by omega)) (Nat.le_refl _)
  have L1' := L1.below (A2.mono (by omega))
  have h2 := h1.below (A2.mono (by omega))
  rw [show (.string (tx (⟨[102], [], xs⟩ : Nd.Fn).name) : Value) = .string ⟨#[102]⟩ from rfl] at L2
  generalize w1.alloc (.cells #[.string ⟨#[102]⟩, .slice none 0 0, .slice a xs.len c] T') = w2 at *
  have z3 := (Put.new w2 #[.int .u8 9, .string ⟨#[]⟩, .slice (some ⟨w.heap.size, 0, none⟩) 1 1, .slice a xs.len c, .slice a xs.len c] T).2.2
  have A3 := Below.alloc (Below.refl w2.heap.size w2) (Nat.le_refl _) (.cells #[.int .u8 9, .string ⟨#[]⟩, .slice (some ⟨w.heap.size, 0, none⟩) 1 1, .slice a xs.len c, .slice a xs.len c] T)
  have L3 := nodes_lit (w := w2) (B := w.heap.size + 1) (x := ⟨9, [], Ns.of [leaf 1 [49]], xs, xs⟩) (c0 := .int .u8 9) (c1 := .string ⟨#[]⟩) (c2 := .slice (some ⟨w.heap.size, 0, none⟩) 1 1) (c3 := .slice a xs.len c) (c4 := .slice a xs.len c) T
    ⟨_, _, _, _, _, _, rfl, (by show (9 : Nat) < 256; decide), (by show (0 : Nat) ≤ _; decide), L1', h2.mono fun b _ hb => Nat.lt_of_lt_of_le hb (by omega), h2.mono fun b _ hb => Nat.lt_of_lt_of_le hb (by omega)⟩ (by omega)
  rw [← hW] at A3 L3 z3
  have e1 : w1.heap.size = w.heap.size + 1 := z1
  have e2 : w2.heap.size = w.heap.size + 2 := by omega
  rw [e2] at L3
  have L2' : FuncsIn W (· < w.heap.size + 3) false (.slice (some ⟨w.heap.size + 1, 0, none⟩) 1 1) [⟨[102], [], xs⟩] := by
    have := L2.below (w' := W) (A3.mono (by omega))
    rw [e1] at this
    exact this.mono fun b _ hb => Nat.lt_of_lt_of_le hb (by omega)
  exact ⟨L2', L3, A1.trans ((A2.mono (by omega)).trans (A3.mono (by omega))), by omega⟩


def IndAt (w : World) (s : Tx) (gk : Nat) (v8 v9 v10 : Value) (wr : World) : Prop :=
  ∃ i, i ≤ s.length ∧ gk = s.length - i ∧ v8 = .string (bs (indN s i)) ∧ v9 = .bool (begN s i) ∧ v10 = .int .i64 (i : Int) ∧ Below w.heap.size w wr

set_option maxRecDepth 100000 in
set_option maxHeartbeats 8000000 in
theorem blocks_any (w : World) (v : Value) (xs : Ns) (h : Nodes w (fun b => b < w.heap.size) false v xs) (hsz : xs.sz ≤ 1048576) :
    Calls Tryz.prog 7 #[v] w fun e w' => e = .returned (.bool true) ∧ Below w.heap.size w w' := by
  obtain ⟨a, c, rfl⟩ := h.form
  have H0 := Lib.hid h
  have HS := Lib.hid hsz
  clear h hsz
  go_enter Tryz.func7, Tryz.ntmps7
  go_wp2_with fail
  refine alive10_t fun w1 hb => ?_
  have K1 := Lib.hid hb
  clear hb
  go_wp2_with fail
  refine (size_saidV false xs HS.out w1 w.heap.size _ K1.out.size (H0.out.below K1.out)).mono ?_
  rintro e w2 ⟨n, rfl, hn, hb⟩
  have K2 := Lib.hid (K1.out.trans (hb.mono K1.out.size))
  clear hb
  by_cases hm : n ≤ 1000
  · have HZ := Lib.hid (blk_size (xs := xs) (by omega))
    clear hn
    go_wp2_with fail
    refine (text_t (w := w2) (p := ⟨[], xs⟩) K2.out.size (funcs_none _ _) (H0.out.below K2.out) HZ.out.1).mono ?_
    rintro e w3 ⟨rfl, hb⟩
    have K3 := Lib.hid (K2.out.trans (hb.mono K2.out.size))
    clear hb hm
    have HL := blocks_law wrapI xs
    obtain ⟨S1, hS1⟩ : ∃ S, S = (showP wrapI ⟨[], xs⟩).1 := ⟨_, rfl⟩
    obtain ⟨E1, hE1⟩ : ∃ E : Nat, E = (showP wrapI ⟨[], xs⟩).2 := ⟨_, rfl⟩
    rw [← hS1, ← hE1] at HL ⊢
    clear hS1 hE1
    obtain ⟨W, hW⟩ : ∃ W, W = ((w3.alloc (.cells #[.int .u8 1, .string ⟨#[49]⟩, .slice none 0 0, .slice none 0 0, .slice none 0 0] 39)).alloc (.cells #[.string ⟨#[102]⟩, .slice none 0 0, .slice a xs.len c] 50)).alloc (.cells #[.int .u8 9, .string ⟨#[]⟩, .slice (some ⟨w3.heap.size, 0, none⟩) 1 1, .slice a xs.len c, .slice a xs.len c] 39) := ⟨_, rfl⟩
    have hX := blk_lit 39 50 (H0.out.below K3.out) K3.out.size hW
    have XB := Lib.hid (K3.out.trans (hX.2.2.1.mono K3.out.size))
    have X := Lib.hid hX
    clear hX
    obtain ⟨q, hq⟩ : ∃ q, q = w3.heap.size := ⟨_, rfl⟩
    rw [← hq] at X
    have HLL := Lib.hid HL
    clear HL
    go_wp2_with fail
    rw [← hW, ← hq]
    clear hW
    refine (text_t (w := W) (B := q + 3) (p := blkP xs) X.out.2.2.2 X.out.1 X.out.2.1 HZ.out.2).mono ?_
    rintro e w4 ⟨rfl, hb⟩
    have K4 := Lib.hid (XB.out.trans (hb.mono XB.out.size))
    clear hb hq
    obtain ⟨S2, hS2⟩ : ∃ S, S = (showP wrapI (blkP xs)).1 := ⟨_, rfl⟩
    obtain ⟨E2, hE2⟩ : ∃ E : Nat, E = (showP wrapI (blkP xs)).2 := ⟨_, rfl⟩
    rw [← hS2, ← hE2] at HLL ⊢
    clear hS2 hE2
    by_cases h1 : E1 = 0
    · have HB := Lib.hid (HLL.out.2 h1)
      subst h1
      have hs1 : (S1.length : Int) ≤ 65536 := by have := HB.out.1; omega
      have hs2 := bs_size S1
      clear HLL
      go_wp2_with fail
      go_loopg [8, 9, 10] S1.length (fun gk v8 v9 v10 wr => IndAt w4 S1 gk v8 v9 v10 wr)
      case atStart => exact ⟨0, Nat.zero_le _, rfl, rfl, rfl, rfl, Below.refl _ _⟩
      case round =>
        obtain ⟨i, hi, rfl, rfl, rfl, rfl, hb⟩ := hrel
        have i0 : (0 : Int) ≤ (i : Int) := by omega
        have KR := Lib.hid (K4.out.trans (hb.mono K4.out.size))
        have KB := Lib.hid hb
        clear hb
        by_cases hlt : i < S1.length
        · have i1 : (i : Int) < (S1.length : Int) := by omega
          have i2 : IntKind.i64.wrap ((i : Int) + 1) = (i : Int) + 1 := IntWalk.i64_in _ (by omega)
          have hix := ix_s S1 .i64 i rfl hlt
          have hsl := sl_one S1 i hlt
          have hle := indN_le S1 i
          have HN := Lib.hid (And.intro (indN_step hlt) (begN_step hlt))
          obtain ⟨d, hd⟩ : ∃ d, d = S1[i] := ⟨_, rfl⟩
          rw [← hd] at HN hix hsl
          obtain ⟨u, hu⟩ : ∃ u, u = indN S1 i := ⟨_, rfl⟩
          rw [← hu] at HN hle ⊢
          obtain ⟨β, hβ⟩ : ∃ β, β = begN S1 i := ⟨_, rfl⟩
          rw [← hβ] at HN ⊢
          have HLT := Lib.hid hlt
          clear hd hu hβ hlt hi
          cases β with
          | true =>
            have ad1 : ∀ wx, (Op.stringOp .add (bs u) ⟨#[9]⟩).run Tryz.prog wx = .ok (.string (bs (u ++ [9]))) wx := add_any u [9] (by simp only [List.length_cons, List.length_nil]; omega)
            have ad2 : ∀ wx, (Op.stringOp .add (bs (u ++ [9])) (bs [d])).run Tryz.prog wx = .ok (.string (bs (u ++ [9] ++ [d]))) wx := add_any (u ++ [9]) [d] (by simp only [List.length_append, List.length_cons, List.length_nil]; omega)
            go_wp2_with fail
            go_roundg (S1.length - (i + 1))
            case measure => have := HLT.out; omega
            case rel => exact ⟨i + 1, HLT.out, rfl, by rw [HN.out.1]; simp, by rw [HN.out.2, beq10], by go_num, KB.out⟩
          | false =>
            have ad2 : ∀ wx, (Op.stringOp .add (bs u) (bs [d])).run Tryz.prog wx = .ok (.string (bs (u ++ [d]))) wx := add_any u [d] (by simp only [List.length_cons, List.length_nil]; omega)
            go_wp2_with fail
            go_roundg (S1.length - (i + 1))
            case measure => have := HLT.out; omega
            case rel => exact ⟨i + 1, HLT.out, rfl, by rw [HN.out.1]; simp, by rw [HN.out.2, beq10], by go_num, KB.out⟩
        · obtain rfl : i = S1.length := by omega
          have hle := indN_le S1 S1.length
          have HW := Lib.hid (HB.out.2)
          rw [indN_all] at hle ⊢
          obtain ⟨u, hu⟩ : ∃ u, u = indent true S1 := ⟨_, rfl⟩
          rw [← hu] at HW hle ⊢
          clear hlt hi hu
          have ad1 : ∀ wx, (Op.stringOp .add ⟨#[102, 110, 32, 102, 40, 41, 32, 123, 10]⟩ (bs u)).run Tryz.prog wx = .ok (.string (bs ([102, 110, 32, 102, 40, 41, 32, 123, 10] ++ u))) wx := add_any [102, 110, 32, 102, 40, 41, 32, 123, 10] u (by simp only [List.length_cons, List.length_nil]; omega)
          obtain ⟨t1, ht1⟩ : ∃ t : Tx, t = [102, 110, 32, 102, 40, 41, 32, 123, 10] ++ u := ⟨_, rfl⟩
          rw [← ht1] at ad1
          have hl1 := congrArg List.length ht1
          simp only [List.length_append, List.length_cons, List.length_nil] at hl1
          have ad2 : ∀ wx, (Op.stringOp .add (bs t1) ⟨#[125, 10, 105, 102, 32, 49, 32, 123, 10]⟩).run Tryz.prog wx = .ok (.string (bs (t1 ++ [125, 10, 105, 102, 32, 49, 32, 123, 10]))) wx := add_any t1 [125, 10, 105, 102, 32, 49, 32, 123, 10] (by simp only [List.length_cons, List.length_nil]; omega)
          obtain ⟨t2, ht2⟩ : ∃ t : Tx, t = t1 ++ [125, 10, 105, 102, 32, 49, 32, 123, 10] := ⟨_, rfl⟩
          rw [← ht2] at ad2
          have hl2 := congrArg List.length ht2
          simp only [List.length_append, List.length_cons, List.length_nil] at hl2
          have ad3 : ∀ wx, (Op.stringOp .add (bs t2) (bs u)).run Tryz.prog wx = .ok (.string (bs (t2 ++ u))) wx := add_any t2 u (by omega)
          obtain ⟨t3, ht3⟩ : ∃ t : Tx, t = t2 ++ u := ⟨_, rfl⟩
          rw [← ht3] at ad3
          have hl3 := congrArg List.length ht3
          rw [List.length_append] at hl3
          by_cases hx : 0 < xs.len
          · have hx' : (0 : Int) < (xs.len : Int) := by omega
            have ad4 : ∀ wx, (Op.stringOp .add (bs t3) ⟨#[125, 32, 101, 108, 115, 101, 32, 123, 10]⟩).run Tryz.prog wx = .ok (.string (bs (t3 ++ [125, 32, 101, 108, 115, 101, 32, 123, 10]))) wx := add_any t3 [125, 32, 101, 108, 115, 101, 32, 123, 10] (by simp only [List.length_cons, List.length_nil]; omega)
            obtain ⟨t4, ht4⟩ : ∃ t : Tx, t = t3 ++ [125, 32, 101, 108, 115, 101, 32, 123, 10] := ⟨_, rfl⟩
            rw [← ht4] at ad4
            have hl4 := congrArg List.length ht4
            simp only [List.length_append, List.length_cons, List.length_nil] at hl4
            have ad5 : ∀ wx, (Op.stringOp .add (bs t4) (bs u)).run Tryz.prog wx = .ok (.string (bs (t4 ++ u))) wx := add_any t4 u (by omega)
            obtain ⟨t5, ht5⟩ : ∃ t : Tx, t = t4 ++ u := ⟨_, rfl⟩
            rw [← ht5] at ad5
            have hl5 := congrArg List.length ht5
            rw [List.length_append] at hl5
            have ad6 : ∀ wx, (Op.stringOp .add (bs t5) ⟨#[125, 10]⟩).run Tryz.prog wx = .ok (.string (bs (t5 ++ [125, 10]))) wx := add_any t5 [125, 10] (by simp only [List.length_cons, List.length_nil]; omega)
            have hwt : want u (xs.len != 0) = t5 ++ [125, 10] := by
              rw [show (xs.len != 0) = true by simp; omega, ht5, ht4, ht3, ht2, ht1]
              unfold want
              simp only [if_true, List.append_assoc]
            rw [hwt] at HW
            obtain ⟨wt, hwt⟩ : ∃ t : Tx, t = t5 ++ [125, 10] := ⟨_, rfl⟩
            rw [← hwt] at HW ad6
            have HT := Lib.hid (And.intro hs1 hs2)
            clear ht1 ht2 ht3 ht4 ht5 hl1 hl2 hl3 hl4 hl5 hwt hle
            rcases HW.out.2 with ⟨e2, es⟩ | e2 | ⟨e2, el⟩
            · rw [e2, es]
              clear e2 es HW
              go_wp2_with fail
              go_ret
              exact ⟨by simp, KR.out⟩
            · have HCK := Lib.hid HW.out.1
              rw [e2]
              clear e2 HW
              go_wp2_with fail
              refine (check_t (w := wr) (B := w.heap.size) (p := ⟨[], xs⟩) KR.out.size (funcs_none _ _) (H0.out.below KR.out)).mono ?_
              rintro e w5 ⟨rfl, hb⟩
              rw [HCK.out]
              have K5 := Lib.hid (KR.out.trans (hb.mono KR.out.size))
              clear hb
              go_wp2_with fail
              go_ret
              exact ⟨rfl, K5.out⟩
            · have hsz := bs_size wt
              have hl : (65536 : Int) < ((bs wt).size : Int) := by omega
              rw [e2]
              clear e2 el HW hsz
              go_wp2_with fail
              go_ret
              exact ⟨rfl, KR.out⟩
          · have hx' : (xs.len : Int) ≤ 0 := by omega
            have ad6 : ∀ wx, (Op.stringOp .add (bs t3) ⟨#[125, 10]⟩).run Tryz.prog wx = .ok (.string (bs (t3 ++ [125, 10]))) wx := add_any t3 [125, 10] (by simp only [List.length_cons, List.length_nil]; omega)
            have hwt : want u (xs.len != 0) = t3 ++ [125, 10] := by
              rw [show (xs.len != 0) = false by simp; omega, ht3, ht2, ht1]
              unfold want
              simp only [Bool.false_eq_true, if_false, List.append_assoc, List.nil_append]
            rw [hwt] at HW
            obtain ⟨wt, hwt⟩ : ∃ t : Tx, t = t3 ++ [125, 10] := ⟨_, rfl⟩
            rw [← hwt] at HW ad6
            have HT := Lib.hid (And.intro hs1 hs2)
            clear ht1 ht2 ht3 hl1 hl2 hl3 hwt hle
            rcases HW.out.2 with ⟨e2, es⟩ | e2 | ⟨e2, el⟩
            · rw [e2, es]
              clear e2 es HW
              go_wp2_with fail
              go_ret
              exact ⟨by simp, KR.out⟩
            · have HCK := Lib.hid HW.out.1
              rw [e2]
              clear e2 HW
              go_wp2_with fail
              refine (check_t (w := wr) (B := w.heap.size) (p := ⟨[], xs⟩) KR.out.size (funcs_none _ _) (H0.out.below KR.out)).mono ?_
              rintro e w5 ⟨rfl, hb⟩
              rw [HCK.out]
              have K5 := Lib.hid (KR.out.trans (hb.mono KR.out.size))
              clear hb
              go_wp2_with fail
              go_ret
              exact ⟨rfl, K5.out⟩
            · have hsz := bs_size wt
              have hl : (65536 : Int) < ((bs wt).size : Int) := by omega
              rw [e2]
              clear e2 el HW hsz
              go_wp2_with fail
              go_ret
              exact ⟨rfl, KR.out⟩
    · have e1 : ¬ (E1 : Int) = 0 := by omega
      have e2 : ¬ (E2 : Int) = 0 := by have := HLL.out.1 h1; omega
      clear h1 HLL
      go_wp2_with fail
      go_ret
      exact ⟨by simp; omega, K4.out⟩
  · have hm2 : (1000 : Int) < n := by omega
    clear hm hn
    go_wp2_with fail
    refine alive10_t fun w5 hb => ?_
    have K5 := Lib.hid (K2.out.trans (hb.mono K2.out.size))
    clear hb
    go_wp2_with fail
    go_ret
    exact ⟨rfl, K5.out⟩
end Go.Proofs.YtobpnjnfpgcpaaaGreatDoor
