/- Tokens: the walk of TokensSigns. -/
import Derived.Test.YtmohejemgpnclaaDoorToPlaces
import Derived.Test.YtmohejemgpnclaaDoorToSiPlain
namespace Go.Proofs.YtmohejemgpnclaaDoor
open Go.RowKit Go.My

theorem bs_tl' (l : List UInt8) : (bs l).toList = l := by rw [ByteArray.toList_eq, bs_list]
theorem bs_app (a b : List UInt8) : bs a ++ bs b = bs (a ++ b) := by
  apply ByteArray.ext
  simp [bs]

theorem add_s (a b : List UInt8) (h : a.length + b.length ≤ 1000000) : ∀ wx, (Op.stringOp .add (bs a) (bs b)).run Tryd.prog wx = .ok (.string (bs (a ++ b))) wx := fun wx => by
  rw [run_string_add_sum wx _ _ (by rw [bs_size, bs_size]; omega), bs_app]

theorem conv_t {w : World} (c : Nat) (x : UInt8) (hx : x.toNat = c) :
    (convert 34 9 (.slice (some ⟨w.heap.size, 0, none⟩) 1 1)).run Tryd.prog (w.alloc (.cells #[.int .u8 (c : Int)] 5)) = .ok (.string (bs [x])) (w.alloc (.cells #[.int .u8 (c : Int)] 5)) := by
  have hb : BytesIn (w.alloc (.cells #[.int .u8 (c : Int)] 5)) (fun _ => True) (.slice (some ⟨w.heap.size, 0, none⟩) 1 1) [x] := by
    refine ⟨_, 1, rfl, by simp, by decide, by simp, fun _ => ⟨w.heap.size, 0, rfl, trivial, fun j u hj => ?_⟩⟩
    rw [cell_of_row _ w.heap.size (0 + j) _ _ _ (heap_alloc_new w (.cells #[.int .u8 (c : Int)] 5))]
    cases j with
    | zero => rw [← hj]; simp [byteCell, hx]
    | succ j => simp at hj
  exact string_of_bytes _ Tryd.underlying34 Tryd.underlying5 Tryd.underlying9 hb

def BuildAt (w1 : World) (k gk : Nat) (v5 v7 : Value) (wr : World) : Prop :=
  ∃ i : Nat, i ≤ k ∧ gk = k - i ∧ v5 = .string (bs (List.replicate i 61)) ∧ v7 = .int .i64 (i : Int) ∧ Below w1.heap.size w1 wr

def LookAt (w1 : World) (n gk : Nat) (v : Value) (wr : World) : Prop :=
  ∃ i : Nat, i ≤ n ∧ gk = n - i ∧ v = .int .i64 (i : Int) ∧ wr = w1

set_option maxRecDepth 100000 in
set_option maxHeartbeats 8000000 in
theorem signs_t {w : World} (n : Nat) (hn : n < 256) (c : Nat) (hc : c < 256) {Q : Ending → World → Prop} (h : ∀ w' g', Turn w (fun _ => 0) w' g' [] → Q (.returned (.bool true)) w') :
    Calls Tryd.prog 8 #[.int .u8 (n : Int), .int .u8 (c : Int)] w Q := by
  have H := Lib.hid h
  clear h
  obtain ⟨k, hk⟩ : ∃ k, k = n % 40 := ⟨_, rfl⟩
  have hk40 : k < 40 := by omega
  have hki : (n : Int) % 40 = (k : Int) := by omega
  have n0 : (0 : Int) ≤ (n : Int) := by omega
  have n1 : (n : Int) ≤ 255 := by omega
  have k0 : (0 : Int) ≤ (k : Int) := by omega
  have k1 : (k : Int) < 40 := by omega
  clear hk
  go_enter Tryd.func8, Tryd.ntmps8
  go_wp2_with fail
  clear hki
  go_loopg [5, 7] k (fun gk v5 v7 wr => BuildAt w k gk v5 v7 wr)
  case atStart => exact ⟨0, by omega, rfl, rfl, rfl, Below.refl _ _⟩
  case round =>
    obtain ⟨i, hi, rfl, rfl, rfl, hB⟩ := hrel
    have HB := Lib.hid hB
    have i0 : (0 : Int) ≤ (i : Int) := by omega
    clear hB
    by_cases hlt : i < k
    · have i1 : (i : Int) < (k : Int) := by omega
      have hadd : ∀ wx, (Op.stringOp .add (bs (List.replicate i 61)) ⟨#[61]⟩).run Tryd.prog wx = .ok (.string (bs (List.replicate i 61 ++ [61]))) wx := add_s _ [61] (by simp; omega)
      go_wp2_with fail
      go_roundg (k - (i + 1))
      case measure => omega
      case rel => exact ⟨i + 1, by omega, rfl, by rw [List.replicate_succ'], by go_num, HB.out⟩
    · obtain rfl : k = i := by omega
      clear hlt
      obtain ⟨xs, hxs⟩ : ∃ xs, xs = To.signToks k := ⟨_, rfl⟩
      have hr : To.read (List.replicate k 61) = (xs, 0, 0) := by rw [hxs]; exact To.signs_read ⟨k, hk40⟩
      have hxl : xs.length = (k + 1) / 2 := by rw [hxs, To.signToks_len]
      have hat : ∀ i (hi : i < xs.length), xs[i] = ⟨3, if 2 * i + 1 < k then [61, 61] else [61], 2 * i⟩ := by subst hxs; exact To.signToks_at k
      have HX := Lib.hid hat
      have HL := Lib.hid hxl
      have hq : ((k : Int) + 1) / 2 = (xs.length : Int) := by omega
      have hq2 : Int.tdiv ((k : Int) + 1) 2 = (xs.length : Int) := by rw [Int.tdiv_eq_ediv_of_nonneg (by omega)]; omega
      clear hat hxs hxl
      go_wp2_with fail
      refine read_k (Tags.ext (fun _ => 0) w.heap.size 600) 601 (List.replicate k 61) fun a2 c2 w2 g2 T2 K2 => ?_
      rw [hr] at K2 ⊢
      have X2 := Lib.hid (And.intro ((Turn.of_below HB.out (fun _ => 0) 600).trans T2 (V := []) (by simp) (by simp)) K2)
      clear T2 K2 hr HB
      go_wp2_with fail
      clear hq hq2
      go_loopg [11] xs.length (fun gk v wr => LookAt w2 xs.length gk v wr)
      case atStart => exact ⟨0, Nat.zero_le _, rfl, rfl, rfl⟩
      case round =>
        obtain ⟨i, hi, rfl, rfl, rfl⟩ := hrel
        have i0' : (0 : Int) ≤ (i : Int) := by omega
        by_cases hlt : i < xs.length
        · have i2 : (i : Int) < (xs.length : Int) := by omega
          have i3 : (xs.length : Int) ≤ 40 := by have := HL.out; omega
          obtain ⟨ao, cap, hv, _, _, hc⟩ := X2.out.2
          cases hv
          obtain ⟨b, off, rfl, _, _, hc⟩ := hc (by omega)
          obtain ⟨d0, d1, d2⟩ := hc i hlt
          rw [HX.out i hlt] at d0 d1 d2
          have d0' : wr.cell? ⟨b, off + i * 3, none⟩ = some (.int .u8 3) := d0
          have d2' : wr.cell? ⟨b, off + i * 3 + 2, none⟩ = some (.int .i64 (2 * (i : Int))) := by rw [d2]; simp only; congr 2
          have hwr : IntKind.i64.wrap (2 * (i : Int)) = 2 * (i : Int) := IntWalk.i64_in _ (by omega)
          have hwr2 : IntKind.i64.wrap ((xs.length : Int) - 1) = (xs.length : Int) - 1 := IntWalk.i64_in _ (by omega)
          clear hc d0 d2
          by_cases h2 : 2 * i + 1 < k
          · rw [if_pos h2] at d1
            have e1 : (bs [61, 61]).toList = [61, 61] := bs_tl' _
            clear h2
            go_wp2_with fail
            go_roundg (xs.length - (i + 1))
            case measure => omega
            case rel => exact ⟨i + 1, by omega, rfl, by go_num, rfl⟩
          · rw [if_neg h2] at d1
            have e1 : (bs [61]).toList = [61] := bs_tl' _
            have e2 : ((i : Int) == (xs.length : Int) - 1) = true := by have := HL.out; simp; omega
            have e3 : (k : Int) % 2 = 1 := by have := HL.out; omega
            clear h2
            go_wp2_with fail
            go_roundg (xs.length - (i + 1))
            case measure => omega
            case rel => exact ⟨i + 1, by omega, rfl, by go_num, rfl⟩
        · obtain rfl : xs.length = i := by omega
          clear hlt
          obtain ⟨x, hx⟩ : ∃ x, x = UInt8.ofNat c := ⟨_, rfl⟩
          have hxc : x.toNat = c := by rw [hx]; simp; omega
          have hcv := conv_t (w := wr) c x hxc
          have ha1 : ∀ wx, (Op.stringOp .add ⟨#[40]⟩ (bs [x])).run Tryd.prog wx = .ok (.string (bs ([40] ++ [x]))) wx := add_s [40] [x] (by simp)
          have ha2 : ∀ wx, (Op.stringOp .add (bs ([40] ++ [x])) ⟨#[40]⟩).run Tryd.prog wx = .ok (.string (bs ([40] ++ [x] ++ [40]))) wx := add_s ([40] ++ [x]) [40] (by simp)
          have hbr := To.byte_read ⟨c, hc⟩
          simp only at hbr
          rw [← hx] at hbr
          have HBR := Lib.hid hbr
          have HXC := Lib.hid hxc
          clear hbr hx hxc
          go_wp2_with fail
          have T3 := Turn.alloc wr g2 602 (.cells #[.int .u8 (c : Int)] 5)
          have X3 := Lib.hid (X2.out.1.trans T3 (V := []) (by simp) (by simp))
          clear T3 X2
          refine read_k (g2.ext wr.heap.size 602) 603 [40, x, 40] fun a4 c4 w4 g4 T4 _ => ?_
          have X4 := Lib.hid (X3.out.trans T4 (V := []) (by simp) (by simp))
          clear T4 X3 hcv ha1 ha2
          by_cases hb : To.badSign c = true
          · rw [HBR.out.1 hb]
            have hcase : c = 33 ∨ c = 62 ∨ c = 95 ∨ (126 < c ∧ c ≠ 33 ∧ c ≠ 62 ∧ c ≠ 95) ∨ (c < 32 ∧ c ≠ 32 ∧ c ≠ 9 ∧ c ≠ 10 ∧ c ≠ 13) := by
              unfold To.badSign at hb; simp at hb; omega
            clear hb HBR
            rcases hcase with rfl | rfl | rfl | ⟨h1, h2, h3, h4⟩ | ⟨h1, h2, h3, h4, h5⟩
            · go_wp2_with fail
              refine alive_t g4 fun w5 g5 T5 => ?_
              have X5 := Lib.hid (X4.out.trans T5 (V := []) (by simp) (by simp))
              clear T5
              go_wp2_with fail
              exact H.out w5 g5 X5.out
            · go_wp2_with fail
              refine alive_t g4 fun w5 g5 T5 => ?_
              have X5 := Lib.hid (X4.out.trans T5 (V := []) (by simp) (by simp))
              clear T5
              go_wp2_with fail
              exact H.out w5 g5 X5.out
            · go_wp2_with fail
              refine alive_t g4 fun w5 g5 T5 => ?_
              have X5 := Lib.hid (X4.out.trans T5 (V := []) (by simp) (by simp))
              clear T5
              go_wp2_with fail
              exact H.out w5 g5 X5.out
            · have e1 : ((c : Int) == 33) = false := by simp; omega
              have e2 : ((c : Int) == 62) = false := by simp; omega
              have e3 : ((c : Int) == 95) = false := by simp; omega
              have e4 : (126 : Int) < (c : Int) := by omega
              clear h1 h2 h3 h4
              go_wp2_with fail
              refine alive_t g4 fun w5 g5 T5 => ?_
              have X5 := Lib.hid (X4.out.trans T5 (V := []) (by simp) (by simp))
              clear T5
              go_wp2_with fail
              exact H.out w5 g5 X5.out
            · have e1 : ((c : Int) == 33) = false := by simp; omega
              have e2 : ((c : Int) == 62) = false := by simp; omega
              have e3 : ((c : Int) == 95) = false := by simp; omega
              have e4 : (c : Int) ≤ 126 := by omega
              have e5 : (c : Int) < 32 := by omega
              have hB := Lib.hid (show To.isB x = false by unfold To.isB; rw [HXC.out]; simp; omega)
              clear h1 h2 h3 h4 h5
              go_wp2_with fail
              refine silent_t x (by rw [HXC.out]) hB.out ?_
              go_wp2_with fail
              refine alive_t g4 fun w5 g5 T5 => ?_
              have X5 := Lib.hid (X4.out.trans T5 (V := []) (by simp) (by simp))
              clear T5
              go_wp2_with fail
              exact H.out w5 g5 X5.out
          · have hb' : To.badSign c = false := by simpa using hb
            have hor := HBR.out.2 hb'
            have hcase : c ≠ 33 ∧ c ≠ 62 ∧ c ≠ 95 ∧ c ≤ 126 ∧ (32 ≤ c ∨ (c < 32 ∧ (c = 9 ∨ c = 10 ∨ c = 13))) := by
              unfold To.badSign at hb'; simp at hb'; omega
            obtain ⟨r, hr⟩ : ∃ r, r = To.read [40, x, 40] := ⟨_, rfl⟩
            rw [← hr] at hor ⊢
            clear hr hb hb' HBR
            obtain ⟨ys, p, e⟩ := r
            simp only at hor ⊢
            obtain ⟨h1, h2, h3, h4, h5⟩ := hcase
            have e1 : ((c : Int) == 33) = false := by simp; omega
            have e2 : ((c : Int) == 62) = false := by simp; omega
            have e3 : ((c : Int) == 95) = false := by simp; omega
            have e4 : (c : Int) ≤ 126 := by omega
            clear h1 h2 h3 h4
            rcases h5 with h5 | ⟨h5, h6⟩
            · have e5 : (32 : Int) ≤ (c : Int) := by omega
              clear h5
              rcases hor with rfl | ⟨rfl, rfl⟩
              · go_wp2_with fail
                refine alive_t g4 fun w5 g5 T5 => ?_
                have X5 := Lib.hid (X4.out.trans T5 (V := []) (by simp) (by simp))
                clear T5
                go_wp2_with fail
                exact H.out w5 g5 X5.out
              · go_wp2_with fail
                refine alive_t g4 fun w5 g5 T5 => ?_
                have X5 := Lib.hid (X4.out.trans T5 (V := []) (by simp) (by simp))
                clear T5
                go_wp2_with fail
                exact H.out w5 g5 X5.out
            · have e5 : (c : Int) < 32 := by omega
              have hB := Lib.hid (show To.isB x = true by unfold To.isB; rw [HXC.out]; simp; omega)
              clear h5 h6
              rcases hor with rfl | ⟨rfl, rfl⟩
              · go_wp2_with fail
                refine silent_t x (by rw [HXC.out]) hB.out ?_
                go_wp2_with fail
                refine alive_t g4 fun w5 g5 T5 => ?_
                have X5 := Lib.hid (X4.out.trans T5 (V := []) (by simp) (by simp))
                clear T5
                go_wp2_with fail
                exact H.out w5 g5 X5.out
              · go_wp2_with fail
                refine silent_t x (by rw [HXC.out]) hB.out ?_
                go_wp2_with fail
                refine alive_t g4 fun w5 g5 T5 => ?_
                have X5 := Lib.hid (X4.out.trans T5 (V := []) (by simp) (by simp))
                clear T5
                go_wp2_with fail
                exact H.out w5 g5 X5.out

theorem signs_any (w : World) (n : Int) (hn : (Lit.int .u8 n).wf = true) (c : Int) (hc : (Lit.int .u8 c).wf = true) : Calls Tryd.prog 8 #[.int .u8 n, .int .u8 c] w fun e w' => e = .returned (.bool true) ∧ Below w.heap.size w w' := by
  simp [Lit.wf, IntKind.min, IntKind.max, IntKind.signed, IntKind.bits] at hn hc
  obtain ⟨n, rfl⟩ : ∃ k : Nat, n = (k : Int) := ⟨n.toNat, by omega⟩
  obtain ⟨c, rfl⟩ : ∃ k : Nat, c = (k : Int) := ⟨c.toNat, by omega⟩
  exact signs_t n (by omega) c (by omega) fun w' g' T => ⟨rfl, below_of' T⟩
end Go.Proofs.YtmohejemgpnclaaDoor
