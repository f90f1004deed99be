/- The statement ShowsLong: its walk. -/
import Derived.Test.YtobpnjnfpgcpaaaDoorPxMem2T
import Derived.Test.YtobpnjnfpgcpaaaDoorTrA3
import Derived.Test.YtobpnjnfpgcpaaaDoorShRfTxT
namespace Go.Proofs.YtobpnjnfpgcpaaaDoor
open Go.RowKit Go.My Go.Nd

theorem byteElemL : Elem Tryd.prog 34 5 1 1 (.int .u8 0) := Elem.mk' Tryd.underlying34 (by kernel_rfl) rfl (by decide)
theorem nodeElemL : Elem Tryd.prog 23 25 5 96 (.agg #[.int .u8 0, .string ⟨#[]⟩, .slice none 0 0, .slice none 0 0, .slice none 0 0]) := Elem.mk' Tryd.underlying23 (by kernel_rfl) rfl (by decide)

/-- So many letters. -/
def aas (m : Nat) : Tx := List.replicate m 97
def fillL (m i : Nat) : List Value := List.replicate i (.int .u8 97) ++ List.replicate (m - i) (.int .u8 0)
theorem fillL_len {m i : Nat} (h : i ≤ m) : (fillL m i).length = m := by unfold fillL; rw [List.length_append, List.length_replicate, List.length_replicate]; omega
theorem fillL_step {m i : Nat} (h : i < m) : (fillL m i).toArray.setIfInBounds i (.int .u8 97) = (fillL m (i + 1)).toArray := by
  unfold fillL
  rw [List.setIfInBounds_toArray]
  congr 1
  rw [List.set_append_right _ _ (by rw [List.length_replicate]; exact Nat.le_refl _), List.length_replicate, Nat.sub_self, List.replicate_succ', List.append_assoc]
  congr 1
  obtain ⟨j, hj⟩ : ∃ j, m - i = j + 1 := ⟨m - i - 1, by omega⟩
  rw [hj, show m - (i + 1) = j by omega, List.replicate_succ]
  rfl
theorem fillL_all (m : Nat) : fillL m m = (aas m).map byteCell := by
  unfold fillL aas
  rw [Nat.sub_self, List.replicate_zero, List.append_nil, List.map_replicate]
  rfl

/-- The statement of a name. -/
def stA (m : Nat) : Nd := ⟨13, [], Ns.of [leaf 2 (aas m)], .nil, .nil⟩
def stsA (m i : Nat) : Ns := Ns.of (List.replicate i (stA m))
theorem stsA_sz (m : Nat) : ∀ i, (stsA m i).sz = i * (2 + m) := by
  intro i
  induction i with
  | zero => show 0 = 0 * (2 + m); omega
  | succ i ih =>
    have : (stsA m (i + 1)).sz = 1 + 0 + (1 + (aas m).length + 0 + 0 + 0 + 0) + 0 + 0 + (stsA m i).sz := rfl
    rw [this, ih]
    have h2 : (aas m).length = m := List.length_replicate
    rw [h2, Nat.succ_mul]
    omega

theorem heap_ltL {w : World} {b : Nat} {o : Obj} (h : w.heap[b]? = some o) : b < w.heap.size := (Array.getElem?_eq_some_iff.1 h).1
def FlAt (w : World) (m bb : Nat) (gk : Nat) (v7 : Value) (wr : World) : Prop :=
  ∃ i, i ≤ m ∧ gk = m - i ∧ v7 = .int .i64 (i : Int) ∧ wr.heap[bb]? = some (.cells (fillL m i).toArray 5 (0, 0)) ∧ Below w.heap.size w wr
/-- While the statements are put together. -/
def LgAt (w : World) (m k bb bp : Nat) (gk : Nat) (v9 : Value) (wr : World) : Prop :=
  ∃ i a c, i ≤ k ∧ gk = k - i ∧ v9 = .int .i64 (i : Int) ∧ wr.heap[bb]? = some (.cells (fillL m m).toArray 5 (0, 0)) ∧ wr.heap[bp]? = some (.cells #[.slice none 0 0, .slice a i c] 37 (0, 0)) ∧
    LR wr 25 (bp + 1) wr.heap.size (.slice a i c) (stsA m i) ∧ Below w.heap.size w wr ∧ bp < wr.heap.size

theorem funcs_noneL (w : World) (S : Nat → Prop) : FuncsIn w S false (.slice none 0 0) [] :=
  ⟨none, 0, rfl, Nat.le_refl _, Nat.zero_le _, Nat.zero_le _, (fun e => by cases e), fun i hi => absurd hi (Nat.not_lt_zero _)⟩

/-- What the append of a round wants. -/
theorem lg_step {wr : World} {i j bp : Nat} {a : Option Addr} {c : Nat} (hL : LR wr 25 (bp + 1) wr.heap.size (.slice a j c) (stsA i j)) (hlp : bp < wr.heap.size) (hi : i ≤ 8000 := by omega) :
    LR ((wr.alloc (.cells #[.int .u8 2, .string (bs (aas i)), .slice none 0 0, .slice none 0 0, .slice none 0 0] 25)).alloc (.cells #[.int .u8 13, .string ⟨#[]⟩, .slice (some ⟨wr.heap.size, 0, none⟩) 1 1, .slice none 0 0, .slice none 0 0] 25)) 25 (bp + 1) wr.heap.size (.slice a j c) (Ns.of (List.replicate j (stA i))) ∧
    NR ((wr.alloc (.cells #[.int .u8 2, .string (bs (aas i)), .slice none 0 0, .slice none 0 0, .slice none 0 0] 25)).alloc (.cells #[.int .u8 13, .string ⟨#[]⟩, .slice (some ⟨wr.heap.size, 0, none⟩) 1 1, .slice none 0 0, .slice none 0 0] 25)) 25 wr.heap.size (wr.heap.size + 1) (.agg #[.int .u8 13, .string ⟨#[]⟩, .slice (some ⟨wr.heap.size, 0, none⟩) 1 1, .slice none 0 0, .slice none 0 0]) (stA i) ∧
    Src ((wr.alloc (.cells #[.int .u8 2, .string (bs (aas i)), .slice none 0 0, .slice none 0 0, .slice none 0 0] 25)).alloc (.cells #[.int .u8 13, .string ⟨#[]⟩, .slice (some ⟨wr.heap.size, 0, none⟩) 1 1, .slice none 0 0, .slice none 0 0] 25)) 5 (.slice (some ⟨wr.heap.size + 1, 0, none⟩) 1 1) 1 #[.int .u8 13, .string ⟨#[]⟩, .slice (some ⟨wr.heap.size, 0, none⟩) 1 1, .slice none 0 0, .slice none 0 0].toList ∧
    bp + 1 ≤ wr.heap.size ∧ wr.heap.size + 1 ≤ ((wr.alloc (.cells #[.int .u8 2, .string (bs (aas i)), .slice none 0 0, .slice none 0 0, .slice none 0 0] 25)).alloc (.cells #[.int .u8 13, .string ⟨#[]⟩, .slice (some ⟨wr.heap.size, 0, none⟩) 1 1, .slice none 0 0, .slice none 0 0] 25)).heap.size := by
  have N1 : NR wr 25 wr.heap.size wr.heap.size (.agg #[.int .u8 2, .string (bs (aas i)), .slice none 0 0, .slice none 0 0, .slice none 0 0]) (leaf 2 (aas i)) :=
    NR.mk (k := 2) (by decide) (by show (List.replicate i _).length ≤ _; rw [List.length_replicate]; omega) (LR.nil _ _ _ _) (LR.nil _ _ _ _) (LR.nil _ _ _ _) (Nat.le_refl _) (Nat.le_refl _) (Nat.le_refl _)
  have L1 := LR.one N1 (Nat.le_refl _) (Nat.le_refl _)
  obtain ⟨A1, R1, Z1⟩ := Put.new wr #[.int .u8 2, .string (bs (aas i)), .slice none 0 0, .slice none 0 0, .slice none 0 0] 25
  generalize wr.alloc (.cells #[.int .u8 2, .string (bs (aas i)), .slice none 0 0, .slice none 0 0, .slice none 0 0] 25) = wA at *
  have N2 : NR wA 25 wr.heap.size (wr.heap.size + 1) (.agg #[.int .u8 13, .string ⟨#[]⟩, .slice (some ⟨wr.heap.size, 0, none⟩) 1 1, .slice none 0 0, .slice none 0 0]) (stA i) :=
    NR.mk (k := 13) (t := []) (by decide) (by decide) L1 (LR.nil _ _ _ _) (LR.nil _ _ _ _) (Nat.le_succ _) (Nat.le_refl _) (Nat.le_refl _)
  have hL1 := hL.later A1 (Nat.le_refl _)
  obtain ⟨A2, R2, Z2⟩ := Put.new wA #[.int .u8 13, .string ⟨#[]⟩, .slice (some ⟨wr.heap.size, 0, none⟩) 1 1, .slice none 0 0, .slice none 0 0] 25
  refine ⟨hL1.later A2 (by omega), N2.later A2 (by omega), Src.lit (n := 1) _ _ (by omega) rfl, hlp, by omega⟩

theorem lg_after {w wr w4 : World} {i j bb bp : Nat} {a : Option Addr} {c : Nat} {cs : Array Value} (h4 : Below (bp + 1) ((wr.alloc (.cells #[.int .u8 2, .string (bs (aas i)), .slice none 0 0, .slice none 0 0, .slice none 0 0] 25)).alloc (.cells #[.int .u8 13, .string ⟨#[]⟩, .slice (some ⟨wr.heap.size, 0, none⟩) 1 1, .slice none 0 0, .slice none 0 0] 25)) w4) (hbr : wr.heap[bb]? = some (.cells cs 5 (0, 0))) (hpr : wr.heap[bp]? = some (.cells #[.slice none 0 0, .slice a j c] 37 (0, 0)))
    (h1 : bb < bp) (h2 : w.heap.size ≤ bp) (hlp : bp < wr.heap.size) (hb : Below w.heap.size w wr) :
    w4.heap[bb]? = some (.cells cs 5 (0, 0)) ∧ w4.heap[bp]? = some (.cells #[.slice none 0 0, .slice a j c] 37 (0, 0)) ∧ Below w.heap.size w w4 ∧ bp < w4.heap.size := by
  have A1 := (Put.new wr #[.int .u8 2, .string (bs (aas i)), .slice none 0 0, .slice none 0 0, .slice none 0 0] 25).1
  generalize wr.alloc (.cells #[.int .u8 2, .string (bs (aas i)), .slice none 0 0, .slice none 0 0, .slice none 0 0] 25) = wA at *
  have A2 := (Put.new wA #[.int .u8 13, .string ⟨#[]⟩, .slice (some ⟨wr.heap.size, 0, none⟩) 1 1, .slice none 0 0, .slice none 0 0] 25).1
  generalize wA.alloc (.cells #[.int .u8 13, .string ⟨#[]⟩, .slice (some ⟨wr.heap.size, 0, none⟩) 1 1, .slice none 0 0, .slice none 0 0] 25) = wB at *
  have A := A1.trans (A2.mono A1.size)
  have hs := A.size
  have hs4 := h4.size
  refine ⟨((h4.block bb (by omega)).trans (A.block bb (by omega))).trans hbr, ((h4.block bp (by omega)).trans (A.block bp hlp)).trans hpr, hb.trans ((A.mono hb.size).trans (h4.mono (by omega))), by omega⟩

theorem lg_store {w w4 : World} {n i j bb bp : Nat} {a ao : Option Addr} {c cap : Nat} {cs : Array Value} (hn : n = j + 1) (hL : LR w4 25 (bp + 1) w4.heap.size (.slice ao ((List.replicate j (stA i)).length + 1) cap) (Ns.of (List.replicate j (stA i) ++ [stA i])))
    (r1 : w4.heap[bb]? = some (.cells cs 5 (0, 0))) (r2 : w4.heap[bp]? = some (.cells #[.slice none 0 0, .slice a j c] 37 (0, 0))) (r3 : Below w.heap.size w w4) (r4 : bp < w4.heap.size) (h : w.heap.size ≤ bp ∧ bb < bp) :
    (w4.setCell ⟨bp, 1, none⟩ (.slice ao n cap)).heap[bb]? = some (.cells cs 5 (0, 0)) ∧ (w4.setCell ⟨bp, 1, none⟩ (.slice ao n cap)).heap[bp]? = some (.cells #[.slice none 0 0, .slice ao n cap] 37 (0, 0)) ∧
    LR (w4.setCell ⟨bp, 1, none⟩ (.slice ao n cap)) 25 (bp + 1) (w4.setCell ⟨bp, 1, none⟩ (.slice ao n cap)).heap.size (.slice ao n cap) (stsA i n) ∧ Below w.heap.size w (w4.setCell ⟨bp, 1, none⟩ (.slice ao n cap)) ∧ bp < (w4.setCell ⟨bp, 1, none⟩ (.slice ao n cap)).heap.size := by
  have p := Put.one r2 1 (.slice ao n cap)
  generalize w4.setCell ⟨bp, 1, none⟩ (.slice ao n cap) = w5 at *
  have hz := p.size
  rw [List.length_replicate, ← List.replicate_succ', ← hn] at hL
  exact ⟨(p.oth bb (by omega)).trans r1, p.row, by rw [hz]; exact hL.frame fun b hb _ => p.oth b (by omega), p.below r3 h.1, by omega⟩

set_option maxRecDepth 100000 in
set_option maxHeartbeats 8000000 in
theorem long_law (w : World) (n many : Nat) (hn : n < 65536) : Calls Tryd.prog 4 #[.int .u16 (n : Int), .int .u8 (many : Int)] w fun e w' => e = .returned (.bool true) ∧ Below w.heap.size w w' := by
  obtain ⟨k0, hk0⟩ : ∃ k0 : Nat, k0 = many % 40 := ⟨_, rfl⟩
  obtain ⟨m0, hm0⟩ : ∃ m0 : Nat, m0 = n % 8000 := ⟨_, rfl⟩
  have ek : Int.tmod (many : Int) 40 = (k0 : Int) := by rw [hk0]; rfl
  have ek' : (many : Int) % 40 = (k0 : Int) := by omega
  have em : Int.tmod (n : Int) 8000 = (m0 : Int) := by rw [hm0]; rfl
  have em' : (n : Int) % 8000 = (m0 : Int) := by omega
  have k1 : (k0 : Int) < 40 := by omega
  have m1 : (m0 : Int) < 8000 := by omega
  have kw : IntKind.i64.wrap (1 + (k0 : Int)) = 1 + (k0 : Int) := IntWalk.i64_in _ (by omega)
  have mw : IntKind.i64.wrap (1 + (m0 : Int)) = 1 + (m0 : Int) := IntWalk.i64_in _ (by omega)
  obtain ⟨k, hk⟩ : ∃ k : Nat, k = 1 + k0 := ⟨_, rfl⟩
  obtain ⟨m, hmm⟩ : ∃ m : Nat, m = 1 + m0 := ⟨_, rfl⟩
  have ke : 1 + (k0 : Int) = (k : Int) := by omega
  have me : 1 + (m0 : Int) = (m : Int) := by omega
  have k4 : (k : Int) ≤ 40 := by omega
  have m4 : (m : Int) ≤ 8000 := by omega
  have mp : (0 : Int) ≤ (m : Int) := by omega
  have kp : (0 : Int) ≤ (k : Int) := by omega
  rw [ke] at kw
  rw [me] at mw
  clear hk0 hm0 hk hmm
  go_enter Tryd.func4, Tryd.ntmps4
  go_wp2_with (refine wpList_make _ rfl (.tmp 21) (.tmp 21) rfl byteElemL rfl rfl (by omega) (Int.le_refl _) (by omega) (by omega) ?_)
  have hrow : (w.alloc (.cells (madeCells #[.int .u8 0] m) 5)).heap[w.heap.size]? = some (.cells (fillL m 0).toArray 5 (0, 0)) := by
    rw [heap_alloc_new, madeCells_one]; rfl
  have hA := Below.alloc (Below.refl w.heap.size w) (Nat.le_refl _) (.cells (madeCells #[.int .u8 0] m) 5)
  obtain ⟨bb, hbb⟩ : ∃ bb, bb = w.heap.size := ⟨_, rfl⟩
  obtain ⟨w0, hw0⟩ : ∃ w0, w0 = w.alloc (.cells (madeCells #[.int .u8 0] m) 5) := ⟨_, rfl⟩
  rw [← hw0, ← hbb] at hrow
  rw [← hw0] at hA
  rw [← hw0, ← hbb]
  have X0 := Lib.hid (And.intro hrow (And.intro hA hbb))
  clear hrow hA hbb hw0 ek ek' em em' k1 m1
  go_loopg [7] m (fun gk v7 wr => FlAt w m bb gk v7 wr)
  case atStart => exact ⟨0, Nat.zero_le _, rfl, rfl, X0.out.1, X0.out.2.1⟩
  case round =>
    obtain ⟨i, hi, rfl, rfl, hrow, hb⟩ := hrel
    have i0 : (0 : Int) ≤ (i : Int) := by omega
    by_cases hlt : i < m
    · have i1 : (i : Int) < (m : Int) := by omega
      have c0 : wr.cell? ⟨bb, i, none⟩ = some (.int .u8 0) := by
        rw [cell_of_row wr bb i _ _ _ hrow]
        rw [List.getElem?_toArray]
        unfold fillL
        rw [List.getElem?_append_right (by rw [List.length_replicate]; exact Nat.le_refl _), List.length_replicate, Nat.sub_self, List.getElem?_replicate, if_pos (by omega)]
      have f0 := frozen_of_row wr bb i _ _ hrow
      have hp := Put.one hrow i (.int .u8 97)
      rw [fillL_step hlt] at hp
      have HP := Lib.hid (And.intro hp (And.intro hlt (hp.below hb (Nat.le_of_eq X0.out.2.2.symm))))
      clear hp hrow hb hlt hi
      go_wp2_with fail
      go_roundg (m - (i + 1))
      case measure => have := HP.out.2.1; omega
      case rel => exact ⟨i + 1, HP.out.2.1, rfl, by go_num, HP.out.1.row, HP.out.2.2⟩
    · obtain rfl : i = m := by omega
      obtain ⟨hA, hn2, hz⟩ := Put.new wr #[.slice none 0 0, .slice none 0 0] 37
      obtain ⟨bp, hbp⟩ : ∃ bp, bp = wr.heap.size := ⟨_, rfl⟩
      obtain ⟨w1, hw1⟩ : ∃ w1, w1 = wr.alloc (.cells #[.slice none 0 0, .slice none 0 0] 37) := ⟨_, rfl⟩
      rw [← hw1] at hA hn2 hz
      rw [← hbp] at hn2 hz
      have X1 := Lib.hid (show LgAt w i k bb bp (k - 0) (.int .i64 0) w1 from ⟨0, none, 0, Nat.zero_le _, rfl, rfl, (hA.block bb (heap_ltL hrow)).trans hrow, hn2, LR.nil _ _ _ _, hb.trans (hA.mono hb.size), by omega⟩)
      have X2 := Lib.hid (show w.heap.size ≤ bp ∧ bb < bp from ⟨hbp ▸ hb.size, hbp ▸ heap_ltL hrow⟩)
      clear hA hn2 hz hrow hb hlt hi X0
      go_upto_region 8 with fail
      rw [← hw1, ← hbp]
      clear hw1 hbp
      go_wp2_with fail
      go_loopg [9] k (fun gk v9 wr => LgAt w i k bb bp gk v9 wr)
      case atStart => exact X1.out
      case round =>
        obtain ⟨j, a, c, hj, rfl, rfl, hbr, hpr, hL, hb, hlp⟩ := hrel
        have j0 : (0 : Int) ≤ (j : Int) := by omega
        clear X1
        have c1 := cell_of_row wr bp 1 _ _ _ hpr
        have c0 := cell_of_row wr bp 0 _ _ _ hpr
        simp at c0 c1
        by_cases hlt : j < k
        · have j1 : (j : Int) < (k : Int) := by omega
          have hconv : (convert 34 9 (.slice (some ⟨bb, 0, none⟩) i i)).run Tryd.prog wr = .ok (.string (bs (aas i))) wr := by
            have hlen : (aas i).length = i := List.length_replicate
            refine string_of_bytes wr (S := fun b => b = bb) Tryd.underlying34 Tryd.underlying5 Tryd.underlying9 ⟨some ⟨bb, 0, none⟩, i, by rw [List.length_map, hlen], by rw [List.length_map, hlen]; exact Nat.le_refl _, (by unfold maxLen; omega), (fun h => by cases h), fun _ => ⟨bb, 0, rfl, rfl, fun q u hq => ?_⟩⟩
            rw [Nat.zero_add, cell_of_row wr bb q _ _ _ hbr, fillL_all]
            simpa using hq
          have Y := lg_step (i := i) (j := j) hL (show bp < wr.heap.size from hlp)
          have HB := Lib.hid (fun (w4 : World) (h4 : Below (bp + 1) ((wr.alloc (.cells #[.int .u8 2, .string (bs (aas i)), .slice none 0 0, .slice none 0 0, .slice none 0 0] 25)).alloc (.cells #[.int .u8 13, .string ⟨#[]⟩, .slice (some ⟨wr.heap.size, 0, none⟩) 1 1, .slice none 0 0, .slice none 0 0] 25)) w4) => lg_after (w := w) h4 hbr hpr X2.out.2 X2.out.1 hlp hb)
          have HY := Lib.hid Y
          have HJ := Lib.hid (And.intro hlt (show (List.replicate j (stA i)).length + 1 ≤ 41 by rw [List.length_replicate]; omega))
          clear Y hL hbr hpr hb hlp hlt hj
          go_wp2_with (refine wpList_node _ rfl (.tmp 38) (.tmp 44) rfl nodeElemL (v := .slice a j c) (l := List.replicate j (stA i)) (lo := bp + 1) (hi := wr.heap.size) (hi2 := wr.heap.size + 1) (cs := #[.int .u8 13, .string ⟨#[]⟩, .slice (some ⟨wr.heap.size, 0, none⟩) 1 1, .slice none 0 0, .slice none 0 0]) (nd := stA i) rfl HY.out.1 HY.out.2.1 (y := .slice (some ⟨wr.heap.size + 1, 0, none⟩) 1 1) rfl HY.out.2.2.1 HY.out.2.2.2.1 (Nat.le_succ _) HY.out.2.2.2.2 (by have := HJ.out.2; omega) ?_; intro ao cap w4 hL4 hb4; obtain ⟨r1, r2, r3, r4⟩ := HB.out w4 hb4; have d1 := cell_of_row w4 bp 1 _ _ _ r2; have e1 := frozen_of_row w4 bp 1 _ _ r2; simp at d1; have X4 := Lib.hid (And.intro hL4 (And.intro r1 (And.intro r2 (And.intro r3 r4)))); clear hL4 hb4 r1 r2 r3 r4 c1 c0)
          have HP := Lib.hid (lg_store (n := j + 1) rfl X4.out.1 X4.out.2.1 X4.out.2.2.1 X4.out.2.2.2.1 X4.out.2.2.2.2 X2.out)
          go_roundg (k - (j + 1))
          case measure => have := HJ.out.1; omega
          case rel => exact ⟨j + 1, ao, cap, HJ.out.1, rfl, by go_num, HP.out.1, HP.out.2.1, HP.out.2.2.1, HP.out.2.2.2.1, HP.out.2.2.2.2⟩
        · obtain rfl : j = k := by omega
          have hps : psz ⟨[], stsA i j⟩ ≤ 1048576 := by
            show 0 + (stsA i j).sz ≤ _
            rw [stsA_sz]
            have h1 : j * (2 + i) ≤ 40 * 8002 := Nat.mul_le_mul (by omega) (by omega)
            omega
          have hN : Nodes wr (· < wr.heap.size) false (.slice a j c) (stsA i j) := hL.nodes fun b _ h => h
          have HE := Lib.hid (And.intro hps (And.intro hN hb))
          have HRW := Lib.hid (fun (w5 : World) (h5 : Below wr.heap.size wr w5) => (h5.block bp hlp).trans hpr)
          obtain ⟨st, hst⟩ : ∃ st, st = (showP wrapI ⟨[], stsA i j⟩).1 := ⟨_, rfl⟩
          obtain ⟨se, hse⟩ : ∃ se : Nat, se = (showP wrapI ⟨[], stsA i j⟩).2 := ⟨_, rfl⟩
          have HCC := Lib.hid (And.intro hst hse)
          clear hps hN hb hL hbr hpr hlp hlt hj hst hse
          go_wp2_with fail
          refine (text_t (w := wr) (B := wr.heap.size) (p := ⟨[], stsA i j⟩) (Nat.le_refl _) (funcs_noneL _ _) HE.out.2.1 HE.out.1).mono ?_
          rintro e w5 ⟨rfl, hb5⟩
          rw [← HCC.out.1, ← HCC.out.2]
          have K5 := Lib.hid hb5
          have hrow5 := HRW.out w5 hb5
          have d1 := cell_of_row w5 bp 1 _ _ _ hrow5
          have d0 := cell_of_row w5 bp 0 _ _ _ hrow5
          simp at d0 d1
          clear hb5 hrow5 c0 c1
          go_wp2_with fail
          refine (rtext_t (w := w5) (B := wr.heap.size) (p := ⟨[], stsA i j⟩) K5.out.size (funcs_noneL _ _) (HE.out.2.1.below K5.out) HE.out.1).mono ?_
          rintro e w6 ⟨rfl, hb6⟩
          rw [← HCC.out.1, ← HCC.out.2]
          have K6 := Lib.hid (HE.out.2.2.trans ((K5.out.trans (hb6.mono K5.out.size)).mono HE.out.2.2.size))
          clear hb6 d0 d1
          go_wp2_with fail
          go_ret
          exact ⟨rfl, K6.out⟩
theorem long_any (w : World) (x : Int) (hx : (Lit.int .u16 x).wf = true) (y : Int) (hy : (Lit.int .u8 y).wf = true) : Calls Tryd.prog 4 #[.int .u16 x, .int .u8 y] w fun e w' => e = .returned (.bool true) ∧ Below w.heap.size w w' := by
  simp [Lit.wf, IntKind.min, IntKind.max, IntKind.signed, IntKind.bits] at hx hy
  obtain ⟨x, rfl⟩ : ∃ k : Nat, x = (k : Int) := ⟨x.toNat, by omega⟩
  obtain ⟨y, rfl⟩ : ∃ k : Nat, y = (k : Int) := ⟨y.toNat, by omega⟩
  exact long_law w x y (by omega)
end Go.Proofs.YtobpnjnfpgcpaaaDoor
