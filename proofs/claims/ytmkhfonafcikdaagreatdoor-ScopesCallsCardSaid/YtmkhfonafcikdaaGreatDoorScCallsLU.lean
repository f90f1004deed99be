/- The statement ScopesCalls: its walk. -/
import Derived.Test.YtmkhfonafcikdaaGreatDoorScStmtU
namespace Go.Proofs.YtmkhfonafcikdaaGreatDoor
open Go.RowKit Go.My Go.Nd


def nmL : List Tx := lib10.map (·.1)
def manyL : List Nat := lib10.map (·.2)
theorem nmL_len : ∀ s ∈ nmL, s.length ≤ 140737488351232 := by decide
theorem many_cells : ∀ (q : Nat) (h : q < 10), (#[.int .i64 2, .int .i64 3, .int .i64 1, .int .i64 1, .int .i64 1, .int .i64 2, .int .i64 2, .int .i64 1, .int .i64 2, .int .i64 2] : Array Value)[q]? = some (.int .i64 ((manyL[q]'h : Nat) : Int)) := by
  intro q h
  match q, h with
  | 0, _ => rfl
  | 1, _ => rfl
  | 2, _ => rfl
  | 3, _ => rfl
  | 4, _ => rfl
  | 5, _ => rfl
  | 6, _ => rfl
  | 7, _ => rfl
  | 8, _ => rfl
  | 9, _ => rfl
theorem bs_appc (a b : List UInt8) : bs a ++ bs b = bs (a ++ b) := by
  apply ByteArray.ext
  simp [bs]
theorem arg_facts : ∀ i : Nat, i < 6 → IntKind.u8.wrap (i : Int) = (i : Int) ∧ IntKind.u8.wrap (97 + (i : Int)) = 97 + (i : Int) ∧ ((UInt8.ofNat (97 + i)).toNat : Int) = 97 + (i : Int) ∧ args6[i]? = some [97, UInt8.ofNat (97 + i)] := by
  intro i h
  match i, h with
  | 0, _ => exact ⟨by decide, by decide, by decide, rfl⟩
  | 1, _ => exact ⟨by decide, by decide, by decide, rfl⟩
  | 2, _ => exact ⟨by decide, by decide, by decide, rfl⟩
  | 3, _ => exact ⟨by decide, by decide, by decide, rfl⟩
  | 4, _ => exact ⟨by decide, by decide, by decide, rfl⟩
  | 5, _ => exact ⟨by decide, by decide, by decide, rfl⟩
theorem arg_conv (w : World) (i : Nat) (h : i < 6) : (convert 63 9 (.slice (some ⟨w.heap.size, 0, none⟩) 1 1)).run Tryz.prog (w.alloc (.cells #[.int .u8 (97 + (i : Int))] 5)) = .ok (.string (bs [UInt8.ofNat (97 + i)])) (w.alloc (.cells #[.int .u8 (97 + (i : Int))] 5)) := by
  refine string_of_bytes _ (S := fun _ => True) Tryz.underlying63 Tryz.underlying5 Tryz.underlying9 (l := [UInt8.ofNat (97 + i)]) ⟨some ⟨w.heap.size, 0, none⟩, 1, rfl, Nat.le_refl _, by decide, (fun h => by cases h), fun _ => ⟨w.heap.size, 0, rfl, trivial, fun q u hq => ?_⟩⟩
  rw [Nat.zero_add, cell_of_row _ _ q _ _ _ (heap_alloc_new w _)]
  have e := (arg_facts i h).2.2.1
  cases q with
  | zero =>
    simp [byteCell] at hq
    rw [← hq]
    simp only [List.getElem?_toArray, List.getElem?_cons_zero]
    rw [← e]; simp
  | succ q => simp at hq
theorem arg_add (i : Nat) (h : i < 6) : ∀ wx, (Op.stringOp .add ⟨#[97]⟩ (bs [UInt8.ofNat (97 + i)])).run Tryz.prog wx = .ok (.string (tx (args6[i]'h))) wx := fun wx => by
  have e : args6[i]'h = [97, UInt8.ofNat (97 + i)] := by
    have := (arg_facts i h).2.2.2
    rw [List.getElem?_eq_getElem h] at this
    exact Option.some.inj this
  rw [e]
  show (Op.stringOp .add (bs [97]) (bs [UInt8.ofNat (97 + i)])).run Tryz.prog wx = _
  rw [run_string_add_sum wx _ _ (by rw [bs_size, bs_size]; simp), bs_appc]
  rfl
def ClAt (w0 : World) (fb cb lb : Nat) (nm : Tx) (n k : Nat) (gk : Nat) (v14 : Value) (wr : World) : Prop :=
  ∃ (i : Nat) (g : Tags) (va vc vl : Value), i ≤ 6 ∧ gk = 6 - i ∧ v14 = .int .i64 (i : Int) ∧ ClSt w0 wr g fb cb lb nm va vc vl (min i n) (min i k)

set_option maxRecDepth 100000 in
set_option maxHeartbeats 16000000 in
theorem calls_t {w : World} (x y z : Nat) (hx : x < 256) (hy : y < 256) (hz : z < 256) : Calls Tryz.prog 7 #[.int .u8 (x : Int), .int .u8 (y : Int), .int .u8 (z : Int)] w fun e w' => e = .returned (.bool true) ∧ Below w.heap.size w w' := by
  obtain ⟨n, hn⟩ : ∃ n, n = x % 6 := ⟨_, rfl⟩
  obtain ⟨k, hk⟩ : ∃ k, k = y % 6 := ⟨_, rfl⟩
  obtain ⟨q, hq⟩ : ∃ q, q = z % 10 := ⟨_, rfl⟩
  have hn6 : n < 6 := by omega
  have hk6 : k < 6 := by omega
  have hq10 : q < 10 := by omega
  have mn : (x : Int) % 6 = (n : Int) := by omega
  have mn2 : Int.tmod (x : Int) 6 = (n : Int) := by rw [Int.tmod_eq_emod_of_nonneg (by omega)]; exact mn
  have mk : (y : Int) % 6 = (k : Int) := by omega
  have mk2 : Int.tmod (y : Int) 6 = (k : Int) := by rw [Int.tmod_eq_emod_of_nonneg (by omega)]; exact mk
  have mq : (z : Int) % 10 = (q : Int) := by omega
  have mq2 : Int.tmod (z : Int) 10 = (q : Int) := by rw [Int.tmod_eq_emod_of_nonneg (by omega)]; exact mq
  have n0 : (0 : Int) ≤ (n : Int) := by omega
  have n6 : (n : Int) < 6 := by omega
  have k0 : (0 : Int) ≤ (k : Int) := by omega
  have k6 : (k : Int) < 6 := by omega
  have q0 : (0 : Int) ≤ (q : Int) := by omega
  have q9 : (q : Int) < 10 := by omega
  have nw : IntKind.i64.wrap (n : Int) = (n : Int) := IntWalk.i64_in _ (by omega)
  have kw : IntKind.i64.wrap (k : Int) = (k : Int) := IntWalk.i64_in _ (by omega)
  obtain ⟨s, hs⟩ : ∃ s, s = nmL[q]'hq10 := ⟨_, rfl⟩
  obtain ⟨m, hm⟩ : ∃ m, m = manyL[q]'hq10 := ⟨_, rfl⟩
  have hN := texts_lit (w := w) #[.string ⟨#[103, 99, 100]⟩, .string ⟨#[114, 101, 115]⟩, .string ⟨#[115, 113, 102]⟩, .string ⟨#[102, 97, 99]⟩, .string ⟨#[98, 97, 115, 105, 115]⟩, .string ⟨#[100, 101, 103]⟩, .string ⟨#[115, 108, 111, 112, 101]⟩, .string ⟨#[108, 101, 110]⟩, .string ⟨#[97, 116]⟩, .string ⟨#[97, 100, 100]⟩] 9 nmL rfl nmL_len (by decide)
  obtain ⟨_, _, e1, _, _, _, _, hcell⟩ := hN
  obtain ⟨b1, o1, e2, hs1, c1, hl1⟩ := hcell q hq10
  cases e1
  cases e2
  rw [Nat.zero_add] at c1
  rw [← hs] at c1 hl1
  have HSM := Lib.hid (And.intro (show ∃ h : q < 10, s = nmL[q]'h from ⟨hq10, hs⟩) (And.intro (show ∃ h : q < 10, m = manyL[q]'h from ⟨hq10, hm⟩) hl1))
  clear hcell hs1 hs hm hl1 hn hk hq hx hy hz hn6 hk6 hq10
  go_enter Tryz.func7, Tryz.ntmps7
  go_upto_region 5 with fail
  have hb1 := Below.alloc (Below.refl w.heap.size w) (Nat.le_refl _) (.cells #[.string ⟨#[103, 99, 100]⟩, .string ⟨#[114, 101, 115]⟩, .string ⟨#[115, 113, 102]⟩, .string ⟨#[102, 97, 99]⟩, .string ⟨#[98, 97, 115, 105, 115]⟩, .string ⟨#[100, 101, 103]⟩, .string ⟨#[115, 108, 111, 112, 101]⟩, .string ⟨#[108, 101, 110]⟩, .string ⟨#[97, 116]⟩, .string ⟨#[97, 100, 100]⟩] 9)
  obtain ⟨w1, hw1⟩ : ∃ w1, w1 = w.alloc (.cells #[.string ⟨#[103, 99, 100]⟩, .string ⟨#[114, 101, 115]⟩, .string ⟨#[115, 113, 102]⟩, .string ⟨#[102, 97, 99]⟩, .string ⟨#[98, 97, 115, 105, 115]⟩, .string ⟨#[100, 101, 103]⟩, .string ⟨#[115, 108, 111, 112, 101]⟩, .string ⟨#[108, 101, 110]⟩, .string ⟨#[97, 116]⟩, .string ⟨#[97, 100, 100]⟩] 9) := ⟨_, rfl⟩
  have z1 : w1.heap.size = w.heap.size + 1 := by rw [hw1]; exact World.size_alloc _ _
  rw [← hw1] at c1 hb1
  rw [← hw1, ← z1]
  have hb2 := Below.alloc (Below.refl w1.heap.size w1) (Nat.le_refl _) (.cells #[.int .i64 2, .int .i64 3, .int .i64 1, .int .i64 1, .int .i64 1, .int .i64 2, .int .i64 2, .int .i64 1, .int .i64 2, .int .i64 2] 3)
  have c2 : (w1.alloc (.cells #[.int .i64 2, .int .i64 3, .int .i64 1, .int .i64 1, .int .i64 1, .int .i64 2, .int .i64 2, .int .i64 1, .int .i64 2, .int .i64 2] 3)).cell? ⟨w1.heap.size, q, none⟩ = some (.int .i64 (m : Int)) := by
    rw [cell_of_row _ _ _ _ _ _ (heap_alloc_new w1 (.cells #[.int .i64 2, .int .i64 3, .int .i64 1, .int .i64 1, .int .i64 1, .int .i64 2, .int .i64 2, .int .i64 1, .int .i64 2, .int .i64 2] 3))]
    obtain ⟨h, e⟩ := HSM.out.2.1
    rw [e]; exact many_cells q h
  have c1' := (World.cell?_of_block (hb2.block _ (World.block_lt_of_cell? _ _ c1))).trans c1
  obtain ⟨w2, hw2⟩ : ∃ w2, w2 = w1.alloc (.cells #[.int .i64 2, .int .i64 3, .int .i64 1, .int .i64 1, .int .i64 1, .int .i64 2, .int .i64 2, .int .i64 1, .int .i64 2, .int .i64 2] 3) := ⟨_, rfl⟩
  rw [← hw2] at c2 c1' hb2
  rw [← hw2]
  have HB := Lib.hid (And.intro (hb1.trans (hb2.mono hb1.size)) (And.intro c1' c2))
  obtain ⟨nb, hnb⟩ : ∃ nb, nb = w1.heap.size := ⟨_, rfl⟩
  rw [← hnb] at HB
  rw [← hnb]
  clear hw1 z1 hb1 hb2 c1 c2 hw2 hnb
  have UP := Lib.hid (fun (W : World) (h : Below w2.heap.size w2 W) => show W.cell? ⟨w.heap.size, q, none⟩ = some (.string (tx s)) ∧ W.cell? ⟨nb, q, none⟩ = some (.int .i64 (m : Int)) from ⟨(World.cell?_of_block (h.block _ (World.block_lt_of_cell? _ _ HB.out.2.1))).trans HB.out.2.1, (World.cell?_of_block (h.block _ (World.block_lt_of_cell? _ _ HB.out.2.2))).trans HB.out.2.2⟩)
  have d1 : ((w2.alloc (.cells #[.string ⟨#[102]⟩, .slice none 0 0, .slice none 0 0] 57)).alloc (.cells #[.int .u8 4, .string ⟨#[102]⟩, .slice none 0 0, .slice none 0 0, .slice none 0 0] 61)).cell? ⟨w.heap.size, q, none⟩ = some (.string (tx s)) := (UP.out _ ((Below.alloc (Below.refl w2.heap.size w2) (Nat.le_refl _) _).alloc (by simp) _)).1
  obtain ⟨g5, hst⟩ := cl_start (w := w2) s
  obtain ⟨fb, hfb⟩ : ∃ fb, fb = w2.heap.size := ⟨_, rfl⟩
  rw [← hfb] at hst
  have X0 := Lib.hid hst
  clear hst c1'
  go_upto_region 8 with fail
  rw [← hfb]
  clear hfb d1
  obtain ⟨w5, hw5⟩ : ∃ w5, w5 = ((w2.alloc (.cells #[.string ⟨#[102]⟩, .slice none 0 0, .slice none 0 0] 57)).alloc (.cells #[.int .u8 4, .string ⟨#[102]⟩, .slice none 0 0, .slice none 0 0, .slice none 0 0] 61)).alloc (.cells #[.int .u8 4, .string (tx s), .slice none 0 0, .slice none 0 0, .slice none 0 0] 61) := ⟨_, rfl⟩
  rw [← hw5] at X0
  rw [← hw5]
  clear hw5
  go_wp2_with fail
  go_loopg [14] 6 (fun gk v14 wr => ClAt w2 fb (fb + 1) (fb + 1 + 1) s n k gk v14 wr)
  case atStart => exact ⟨0, g5, _, _, _, by omega, rfl, rfl, by rw [Nat.zero_min, Nat.zero_min]; exact X0.out⟩
  case round =>
    obtain ⟨i, g, va, vc, vl, hi, rfl, rfl, hS⟩ := hrel
    have i0 : (0 : Int) ≤ (i : Int) := by omega
    by_cases hlt : i < 6
    · have i1 : (i : Int) < 6 := by omega
      by_cases hin : i < n
      · have i3 : (i : Int) < (n : Int) := by omega
        obtain ⟨af, cf, rfl⟩ := hS.args.form
        have em0 : min i n = i := by omega
        have em1 : min (i + 1) n = i + 1 := by omega
        rw [em0] at hS
        have r2 := cell_of_row wr fb 1 _ _ _ hS.fbox.1
        have r3 := frozen_of_row wr fb 1 _ _ hS.fbox.1
        simp at r2
        obtain ⟨hu1, hu2, _, _⟩ := arg_facts i hlt
        have hcv := arg_conv wr i hlt
        obtain ⟨bi, hbi⟩ : ∃ bi, bi = UInt8.ofNat (97 + i) := ⟨_, rfl⟩
        rw [← hbi] at hcv
        have SF := Lib.hid (And.intro hS (show i < 6 from hlt))
        have HAG := Lib.hid (show ∃ h : i < 6, (⟨#[97]⟩ ++ bs [bi] : ByteArray) = tx (args6[i]'h) from ⟨hlt, by
          have e : args6[i]'hlt = [97, UInt8.ofNat (97 + i)] := by
            have := (arg_facts i hlt).2.2.2
            rw [List.getElem?_eq_getElem hlt] at this
            exact Option.some.inj this
          rw [e, hbi]
          exact bs_appc [97] [UInt8.ofNat (97 + i)]⟩)
        have HM1 := Lib.hid em1
        have r2' : ((wr.alloc (.cells #[.int .u8 (97 + (i : Int))] 5)).cell? ⟨fb, 1, none⟩) = some (.slice af i cf) := by
          have := cell_of_row _ fb 1 _ _ _ (hS.fbox.turn (Turn.alloc wr g 781 (.cells #[.int .u8 (97 + (i : Int))] 5)) (by simp)).1
          simpa using this
        have z1 : (wr.alloc (.cells #[.int .u8 (97 + (i : Int))] 5)).heap.size = wr.heap.size + 1 := World.size_alloc _ _
        clear hS em0 em1 hbi hin
        have TB := Turn.alloc wr g 781 (.cells #[.int .u8 (97 + (i : Int))] 5)
        have SB := Lib.hid (SF.out.1.turn TB (by simp))
        have SBO := Lib.hid (SB.out.args.turn (Turn.alloc (wr.alloc (.cells #[.int .u8 (97 + (i : Int))] 5)) (g.ext wr.heap.size 781) 782 (.cells #[.string (⟨#[97]⟩ ++ bs [bi])] 9)) (by simp))
        clear TB z1
        go_upto_region 13 with (at_builtin; go_loud (refine wpList_append_t _ rfl (.tmp 45) (.tmp 52) rfl strElN (g := (g.ext wr.heap.size 781).ext (wr.alloc (.cells #[.int .u8 (97 + (i : Int))] 5)).heap.size 782) (tg := 773) (v := .slice af i cf) (n := i) rfl SBO.out rfl (Src.lit (n := 1) #[.string (⟨#[97]⟩ ++ bs [bi])] 9 (by simp) rfl) (by simp [Value.oneCell']) (by unfold maxLen; omega) (by omega) ?_); intro ao4 cap4 w4 g4 O4 T4; have T6 := (Turn.alloc (wr.alloc (.cells #[.int .u8 (97 + (i : Int))] 5)) (g.ext wr.heap.size 781) 782 (.cells #[.string (⟨#[97]⟩ ++ bs [bi])] 9)).trans T4 (V := [773]) (by simp) (by simp); have b6 := SB.out.fbox.turn T6 (by simp); have e0 := cell_of_row w4 fb 1 _ _ _ b6.1; have e1 := frozen_of_row w4 fb 1 _ _ b6.1; simp at e0; have X4 := Lib.hid (And.intro T6 O4); clear O4 T4 T6 b6)
        have SQ : ClSt w2 (w4.setCell ⟨fb, 1, none⟩ (.slice ao4 (i + 1) cap4)) g4 fb (fb + 1) (fb + 1 + 1) s (.slice ao4 (i + 1) cap4) vc vl (min (i + 1) n) (min i k) := by
          rw [HM1.out]
          obtain ⟨h6, e6⟩ := HAG.out
          have o4 := X4.out.2
          rw [e6] at o4
          exact cl_arg SB.out h6 X4.out.1 o4
        have SA := Lib.hid SQ
        clear SQ e0 e1 r2 r3 r2' hcv hu1 hu2
        obtain ⟨wq, hwq⟩ : ∃ wq, wq = w4.setCell ⟨fb, 1, none⟩ (.slice ao4 (i + 1) cap4) := ⟨_, rfl⟩
        obtain ⟨gq, hgq⟩ : ∃ gq, gq = g4 := ⟨_, rfl⟩
        rw [← hwq, ← hgq] at SA
        rw [← hwq]
        clear hwq hgq
        obtain ⟨ac, cc, rfl⟩ := SA.out.call.form
        obtain ⟨al, cl, rfl⟩ := SA.out.lib.form
        have r0 := cell_of_row wq (fb + 1) 2 _ _ _ SA.out.cbox.1
        have r1 := frozen_of_row wq (fb + 1) 2 _ _ SA.out.cbox.1
        simp at r0
        by_cases hik : i < k
        · have i2 : (i : Int) < (k : Int) := by omega
          have em : min i k = i := by omega
          have em2 : min (i + 1) k = i + 1 := by omega
          have HEM := Lib.hid (And.intro hik em2)
          have SB := SA.out
          rw [em] at SB r0
          have SC := Lib.hid SB
          clear SB hik em em2
          go_wp2_with (first
            | (at_builtin; refine wpList_append_t _ rfl (.tmp 59) (.tmp 61) rfl nodeEl (g := gq.ext wq.heap.size 780) (tg := 774) (v := .slice ac i cc) (n := i) rfl (SC.out.call.turn (Turn.alloc wq gq 780 (.cells #[.int .u8 1, .string ⟨#[49]⟩, .slice none 0 0, .slice none 0 0, .slice none 0 0] 61)) (by simp)) rfl (Src.lit (n := 1) #[.int .u8 1, .string ⟨#[49]⟩, .slice none 0 0, .slice none 0 0, .slice none 0 0] 61 rfl rfl) (by simp [Value.oneCell']) (by unfold maxLen; omega) (by omega) ?_; intro ao6 cap6 w6 g6 O6 T6; have T7 := (Turn.alloc wq gq 780 (.cells #[.int .u8 1, .string ⟨#[49]⟩, .slice none 0 0, .slice none 0 0, .slice none 0 0] 61)).trans T6 (V := [774]) (by simp) (by simp); have b6 := SC.out.cbox.turn T7 (by simp); have e0 := cell_of_row w6 (fb + 1) 2 _ _ _ b6.1; have e1 := frozen_of_row w6 (fb + 1) 2 _ _ b6.1; simp at e0; have X6 := Lib.hid (cl_call SC.out T7 O6); have l6 := SC.out.lbox.turn (X6.out.1) (by simp); have l0 := cell_of_row _ (fb + 1 + 1) 2 _ _ _ l6.1; simp at l0; clear O6 T6 T7 b6 l6)
            | (at_builtin; refine wpList_append_t _ rfl (.tmp 65) (.tmp 67) rfl nodeEl (g := g6.ext (w6.setCell ⟨fb + 1, 2, none⟩ (.slice ao6 (i + 1) cap6)).heap.size 780) (tg := 775) (v := .slice al i cl) (n := i) rfl ((SC.out.lib.turn X6.out.1 (by simp)).turn (Turn.alloc _ g6 780 (.cells #[.int .u8 2, .string ⟨#[120]⟩, .slice none 0 0, .slice none 0 0, .slice none 0 0] 61)) (by simp)) rfl (Src.lit (n := 1) #[.int .u8 2, .string ⟨#[120]⟩, .slice none 0 0, .slice none 0 0, .slice none 0 0] 61 (by simp) rfl) (by simp [Value.oneCell']) (by unfold maxLen; omega) (by omega) ?_; intro ao8 cap8 w8 g8 O8 T8; have T9 := (Turn.alloc _ g6 780 (.cells #[.int .u8 2, .string ⟨#[120]⟩, .slice none 0 0, .slice none 0 0, .slice none 0 0] 61)).trans T8 (V := [775]) (by simp) (by simp); have b8 := (SC.out.lbox.turn X6.out.1 (by simp)).turn T9 (by simp); have e2 := cell_of_row w8 (fb + 1 + 1) 2 _ _ _ b8.1; have e3 := frozen_of_row w8 (fb + 1 + 1) 2 _ _ b8.1; simp at e2; have X8 := Lib.hid (cl_lib SC.out X6.out.1 X6.out.2.1 X6.out.2.2 T9 O8); clear O8 T8 T9 b8))
          go_roundg (6 - (i + 1))
          case measure => omega
          case rel => exact ⟨i + 1, g8, _, _, _, by omega, rfl, by go_num, by rw [HEM.out.2]; exact X8.out⟩
        · have i2 : (k : Int) ≤ (i : Int) := by omega
          have em : min (i + 1) k = min i k := by omega
          have HEM := Lib.hid em
          clear hik em
          go_wp2_with fail
          go_roundg (6 - (i + 1))
          case measure => omega
          case rel => exact ⟨i + 1, gq, _, _, _, by omega, rfl, by go_num, by rw [HEM.out]; exact SA.out⟩
      · have i3 : (n : Int) ≤ (i : Int) := by omega
        have em0 : min i n = min (i + 1) n := by omega
        rw [em0] at hS
        have SA := Lib.hid hS
        obtain ⟨wq, hwq⟩ : ∃ wq, wq = wr := ⟨_, rfl⟩
        obtain ⟨gq, hgq⟩ : ∃ gq, gq = g := ⟨_, rfl⟩
        rw [← hwq, ← hgq] at SA
        rw [← hwq]
        clear hS em0 hin hwq hgq
        obtain ⟨ac, cc, rfl⟩ := SA.out.call.form
        obtain ⟨al, cl, rfl⟩ := SA.out.lib.form
        have r0 := cell_of_row wq (fb + 1) 2 _ _ _ SA.out.cbox.1
        have r1 := frozen_of_row wq (fb + 1) 2 _ _ SA.out.cbox.1
        simp at r0
        by_cases hik : i < k
        · have i2 : (i : Int) < (k : Int) := by omega
          have em : min i k = i := by omega
          have em2 : min (i + 1) k = i + 1 := by omega
          have HEM := Lib.hid (And.intro hik em2)
          have SB := SA.out
          rw [em] at SB r0
          have SC := Lib.hid SB
          clear SB hik em em2
          go_wp2_with (first
            | (at_builtin; refine wpList_append_t _ rfl (.tmp 59) (.tmp 61) rfl nodeEl (g := gq.ext wq.heap.size 780) (tg := 774) (v := .slice ac i cc) (n := i) rfl (SC.out.call.turn (Turn.alloc wq gq 780 (.cells #[.int .u8 1, .string ⟨#[49]⟩, .slice none 0 0, .slice none 0 0, .slice none 0 0] 61)) (by simp)) rfl (Src.lit (n := 1) #[.int .u8 1, .string ⟨#[49]⟩, .slice none 0 0, .slice none 0 0, .slice none 0 0] 61 rfl rfl) (by simp [Value.oneCell']) (by unfold maxLen; omega) (by omega) ?_; intro ao6 cap6 w6 g6 O6 T6; have T7 := (Turn.alloc wq gq 780 (.cells #[.int .u8 1, .string ⟨#[49]⟩, .slice none 0 0, .slice none 0 0, .slice none 0 0] 61)).trans T6 (V := [774]) (by simp) (by simp); have b6 := SC.out.cbox.turn T7 (by simp); have e0 := cell_of_row w6 (fb + 1) 2 _ _ _ b6.1; have e1 := frozen_of_row w6 (fb + 1) 2 _ _ b6.1; simp at e0; have X6 := Lib.hid (cl_call SC.out T7 O6); have l6 := SC.out.lbox.turn (X6.out.1) (by simp); have l0 := cell_of_row _ (fb + 1 + 1) 2 _ _ _ l6.1; simp at l0; clear O6 T6 T7 b6 l6)
            | (at_builtin; refine wpList_append_t _ rfl (.tmp 65) (.tmp 67) rfl nodeEl (g := g6.ext (w6.setCell ⟨fb + 1, 2, none⟩ (.slice ao6 (i + 1) cap6)).heap.size 780) (tg := 775) (v := .slice al i cl) (n := i) rfl ((SC.out.lib.turn X6.out.1 (by simp)).turn (Turn.alloc _ g6 780 (.cells #[.int .u8 2, .string ⟨#[120]⟩, .slice none 0 0, .slice none 0 0, .slice none 0 0] 61)) (by simp)) rfl (Src.lit (n := 1) #[.int .u8 2, .string ⟨#[120]⟩, .slice none 0 0, .slice none 0 0, .slice none 0 0] 61 (by simp) rfl) (by simp [Value.oneCell']) (by unfold maxLen; omega) (by omega) ?_; intro ao8 cap8 w8 g8 O8 T8; have T9 := (Turn.alloc _ g6 780 (.cells #[.int .u8 2, .string ⟨#[120]⟩, .slice none 0 0, .slice none 0 0, .slice none 0 0] 61)).trans T8 (V := [775]) (by simp) (by simp); have b8 := (SC.out.lbox.turn X6.out.1 (by simp)).turn T9 (by simp); have e2 := cell_of_row w8 (fb + 1 + 1) 2 _ _ _ b8.1; have e3 := frozen_of_row w8 (fb + 1 + 1) 2 _ _ b8.1; simp at e2; have X8 := Lib.hid (cl_lib SC.out X6.out.1 X6.out.2.1 X6.out.2.2 T9 O8); clear O8 T8 T9 b8))
          go_roundg (6 - (i + 1))
          case measure => omega
          case rel => exact ⟨i + 1, g8, _, _, _, by omega, rfl, by go_num, by rw [HEM.out.2]; exact X8.out⟩
        · have i2 : (k : Int) ≤ (i : Int) := by omega
          have em : min (i + 1) k = min i k := by omega
          have HEM := Lib.hid em
          clear hik em
          go_wp2_with fail
          go_roundg (6 - (i + 1))
          case measure => omega
          case rel => exact ⟨i + 1, gq, _, _, _, by omega, rfl, by go_num, by rw [HEM.out]; exact SA.out⟩
    · obtain rfl : i = 6 := by omega
      have en : min 6 n = n := by omega
      have ek : min 6 k = k := by omega
      rw [en, ek] at hS
      obtain ⟨vaa, vac, rfl⟩ := hS.args.form
      obtain ⟨vca, vcc, rfl⟩ := hS.call.form
      obtain ⟨vla, vlc, rfl⟩ := hS.lib.form
      have S := Lib.hid hS
      clear hlt hi hS en ek i0
      have c0 := cell_of_row wr (fb + 1) 0 _ _ _ S.out.cbox.1
      have c1 := cell_of_row wr (fb + 1) 1 _ _ _ S.out.cbox.1
      have c2 := cell_of_row wr (fb + 1) 2 _ _ _ S.out.cbox.1
      have c3 := cell_of_row wr (fb + 1) 3 _ _ _ S.out.cbox.1
      have c4 := cell_of_row wr (fb + 1) 4 _ _ _ S.out.cbox.1
      simp at c0 c1 c2 c3 c4
      have T1 := Turn.alloc wr g 783 (.cells #[.int .u8 4, .string ⟨#[102]⟩, .slice vca k vcc, .slice none 0 0, .slice none 0 0] 61)
      have T2 := Turn.alloc (wr.alloc (.cells #[.int .u8 4, .string ⟨#[102]⟩, .slice vca k vcc, .slice none 0 0, .slice none 0 0] 61)) (g.ext wr.heap.size 783) 783 (.cells #[.int .u8 11, .string ⟨#[]⟩, .slice (some ⟨wr.heap.size, 0, none⟩) 1 1, .slice none 0 0, .slice none 0 0] 61)
      have T12 := T1.trans T2 (V := []) (by simp) (by simp)
      have b2 := S.out.fbox.turn T12 (by simp)
      have e0 := cell_of_row _ fb 2 _ _ _ b2.1
      have e1 := frozen_of_row _ fb 2 _ _ b2.1
      simp at e0
      have X2 := Lib.hid T12
      clear T1 T2 T12 b2
      go_upto_region 17 with fail
      have hk6 : k ≤ 6 := by omega
      have hn6 : n ≤ 6 := by omega
      obtain ⟨g6, hE⟩ := cl_end S.out hn6 hk6
      obtain ⟨w6, hw6⟩ : ∃ w6, w6 = ((wr.alloc (.cells #[.int .u8 4, .string ⟨#[102]⟩, .slice vca k vcc, .slice none 0 0, .slice none 0 0] 61)).alloc (.cells #[.int .u8 11, .string ⟨#[]⟩, .slice (some ⟨wr.heap.size, 0, none⟩) 1 1, .slice none 0 0, .slice none 0 0] 61)).setCell ⟨fb, 2, none⟩ (.slice (some ⟨wr.heap.size + 1, 0, none⟩) 1 1) := ⟨_, rfl⟩
      obtain ⟨vb, hvb⟩ : ∃ vb, vb = wr.heap.size + 1 := ⟨_, rfl⟩
      rw [← hw6, ← hvb] at hE
      rw [← hw6]
      have E6 := Lib.hid hE
      clear hE hw6 hvb e0 e1 c0 c1 c2 c3 c4 X2 S
      have f2 := cell_of_row w6 fb 2 _ _ _ E6.out.fbox.1
      simp at f2
      go_upto_region 18 with fail
      have hbG := Below.alloc (Below.refl w6.heap.size w6) (Nat.le_refl _) (.cells #[.string ⟨#[103]⟩, .slice none 0 0, .slice (some ⟨vb, 0, none⟩) 1 1] 57)
      have hg := heap_alloc_new w6 (.cells #[.string ⟨#[103]⟩, .slice none 0 0, .slice (some ⟨vb, 0, none⟩) 1 1] 57)
      have E7 := Lib.hid (E6.out.later hbG)
      obtain ⟨gb, hgb⟩ : ∃ gb, gb = w6.heap.size := ⟨_, rfl⟩
      obtain ⟨w7, hw7⟩ : ∃ w7, w7 = w6.alloc (.cells #[.string ⟨#[103]⟩, .slice none 0 0, .slice (some ⟨vb, 0, none⟩) 1 1] 57) := ⟨_, rfl⟩
      rw [← hw7] at E7 hg
      rw [← hw7]
      rw [← hgb] at hg
      rw [← hgb]
      generalize g6.ext w6.heap.size 790 = g7 at *
      have h0 := cell_of_row w7 gb 0 _ _ _ hg
      have h1 := cell_of_row w7 gb 1 _ _ _ hg
      have h2 := cell_of_row w7 gb 2 _ _ _ hg
      simp at h0 h1 h2
      have f0 := cell_of_row w7 fb 0 _ _ _ E7.out.fbox.1
      have f1 := cell_of_row w7 fb 1 _ _ _ E7.out.fbox.1
      have f2 := cell_of_row w7 fb 2 _ _ _ E7.out.fbox.1
      simp at f0 f1 f2
      clear hw7 hgb hbG hg E6
      have hbF := Below.alloc (Below.refl w7.heap.size w7) (Nat.le_refl _) (.cells #[.string ⟨#[103]⟩, .slice none 0 0, .slice (some ⟨vb, 0, none⟩) 1 1, .string ⟨#[102]⟩, .slice vaa n vac, .slice (some ⟨vb, 0, none⟩) 1 1] 57)
      have E8 := Lib.hid (E7.out.later hbF)
      have c0 := cell_of_row _ (fb + 1) 0 _ _ _ E8.out.cbox.1
      have c1 := cell_of_row _ (fb + 1) 1 _ _ _ E8.out.cbox.1
      have c2 := cell_of_row _ (fb + 1) 2 _ _ _ E8.out.cbox.1
      have c3 := cell_of_row _ (fb + 1) 3 _ _ _ E8.out.cbox.1
      have c4 := cell_of_row _ (fb + 1) 4 _ _ _ E8.out.cbox.1
      simp at c0 c1 c2 c3 c4
      have hFn := funcs_lit (w := w7) (B := w7.heap.size) 57 [⟨[103], .slice none 0 0, .slice (some ⟨vb, 0, none⟩) 1 1⟩, ⟨[102], .slice vaa n vac, .slice (some ⟨vb, 0, none⟩) 1 1⟩] [⟨[103], [], oneSt 11 (callN k)⟩, ⟨[102], args6.take n, oneSt 11 (callN k)⟩] #[.string ⟨#[103]⟩, .slice none 0 0, .slice (some ⟨vb, 0, none⟩) 1 1, .string ⟨#[102]⟩, .slice vaa n vac, .slice (some ⟨vb, 0, none⟩) 1 1] rfl rfl (by simp)
        (fun j h1 h2 => by
          have h4 : j < 2 := h1
          match j, h4 with
          | 0, _ => exact ⟨⟨rfl, (show (1 : Nat) ≤ 140737488351232 by decide)⟩, texts_nil _ _, E7.out.body⟩
          | 1, _ => exact ⟨⟨rfl, (show (1 : Nat) ≤ 140737488351232 by decide)⟩, E7.out.args, E7.out.body⟩) (Nat.le_refl _) (by simp)
      have z8 : (w7.alloc (.cells #[.string ⟨#[103]⟩, .slice none 0 0, .slice (some ⟨vb, 0, none⟩) 1 1, .string ⟨#[102]⟩, .slice vaa n vac, .slice (some ⟨vb, 0, none⟩) 1 1] 57)).heap.size = w7.heap.size + 1 := World.size_alloc _ _
      have hO := one_lit (W := w7.alloc (.cells #[.string ⟨#[103]⟩, .slice none 0 0, .slice (some ⟨vb, 0, none⟩) 1 1, .string ⟨#[102]⟩, .slice vaa n vac, .slice (some ⟨vb, 0, none⟩) 1 1] 57)) (k := 4) (t := [102]) (cs := #[.int .u8 4, .string ⟨#[102]⟩, .slice vca k vcc, .slice none 0 0, .slice none 0 0]) (cs2 := #[.int .u8 12, .string ⟨#[]⟩, .slice (some ⟨w7.heap.size + 1, 0, none⟩) 1 1, .slice none 0 0, .slice none 0 0]) 12 (by decide) (by decide) (by decide) E8.out.call rfl (by rw [z8]; rfl)
      rw [z8] at hO
      have HO := Lib.hid (And.intro hO hFn)
      clear hFn hO hbF z8
      go_wp2_with fail
      refine (scheck_t (p := callP n k) (Nat.le_refl _) ((HO.out.2.below HO.out.1.1).mono fun b hb _ => hb) HO.out.1.2 (callP_small n k hn6 hk6)).mono ?_
      rintro e w11 ⟨rfl, hb11⟩
      have E11 := Lib.hid ((E8.out.later (HO.out.1.1.mono (Nat.le_of_eq (World.size_alloc _ _)))).later hb11)
      clear hb11 f0 f1 f2 h0 h1 h2 c0 c1 c2 c3 c4 HO E7 E8
      generalize Tags.ext _ _ 790 = g11 at *
      obtain ⟨EE, hEE⟩ : ∃ EE, EE = scheck wrapI (callP n k) := ⟨_, rfl⟩
      rw [← hEE]
      have c0 := cell_of_row _ (fb + 1 + 1) 0 _ _ _ E11.out.lbox.1
      have c1 := cell_of_row _ (fb + 1 + 1) 1 _ _ _ E11.out.lbox.1
      have c2 := cell_of_row _ (fb + 1 + 1) 2 _ _ _ E11.out.lbox.1
      have c3 := cell_of_row _ (fb + 1 + 1) 3 _ _ _ E11.out.lbox.1
      have c4 := cell_of_row _ (fb + 1 + 1) 4 _ _ _ E11.out.lbox.1
      simp at c0 c1 c2 c3 c4
      have HEE := Lib.hid hEE
      have HO := Lib.hid (one_lit (W := w11) (k := 4) (t := s) (cs := #[.int .u8 4, .string (tx s), .slice vla k vlc, .slice none 0 0, .slice none 0 0]) (cs2 := #[.int .u8 13, .string ⟨#[]⟩, .slice (some ⟨w11.heap.size, 0, none⟩) 1 1, .slice none 0 0, .slice none 0 0]) 13 (by decide) (by decide) HSM.out.2.2 E11.out.lib rfl rfl)
      clear hEE
      go_wp2_with fail
      refine (scheck_t (p := libP s k) (Nat.le_refl _) (funcs_none _ _) HO.out.2 (one_small (flat_one 13 2 k s [120] 4 hk6))).mono ?_
      rintro e w12 ⟨rfl, hb12⟩
      have E12 := Lib.hid ((E11.out.later HO.out.1).later hb12)
      clear hb12 c0 c1 c2 c3 c4 HO E11
      generalize Tags.ext _ _ 790 = g12 at *
      obtain ⟨GG, hGG⟩ : ∃ GG, GG = scheck wrapI (libP s k) := ⟨_, rfl⟩
      rw [← hGG]
      have c0 := cell_of_row _ (fb + 1) 0 _ _ _ E12.out.cbox.1
      have c1 := cell_of_row _ (fb + 1) 1 _ _ _ E12.out.cbox.1
      have c2 := cell_of_row _ (fb + 1) 2 _ _ _ E12.out.cbox.1
      have c3 := cell_of_row _ (fb + 1) 3 _ _ _ E12.out.cbox.1
      have c4 := cell_of_row _ (fb + 1) 4 _ _ _ E12.out.cbox.1
      simp at c0 c1 c2 c3 c4
      have HGG := Lib.hid hGG
      have HO := Lib.hid (one_lit (W := w12) (k := 4) (t := [102]) (cs := #[.int .u8 4, .string ⟨#[102]⟩, .slice vca k vcc, .slice none 0 0, .slice none 0 0]) (cs2 := #[.int .u8 13, .string ⟨#[]⟩, .slice (some ⟨w12.heap.size, 0, none⟩) 1 1, .slice none 0 0, .slice none 0 0]) 13 (by decide) (by decide) (by decide) E12.out.call rfl rfl)
      clear hGG
      go_wp2_with fail
      refine (scheck_t (p := loneP k) (Nat.le_refl _) (funcs_none _ _) HO.out.2 (one_small (flat_one 13 1 k [102] [49] 4 hk6))).mono ?_
      rintro e w13 ⟨rfl, hb13⟩
      have E13 := Lib.hid ((E12.out.later HO.out.1).later hb13)
      clear hb13 c0 c1 c2 c3 c4 HO E12
      generalize Tags.ext _ _ 790 = g13 at *
      obtain ⟨d0, d1⟩ := UP.out w13 E13.out.since.below
      go_wp2_with fail
      refine (lib_t s HSM.out.2.2).mono ?_
      rintro e w14 ⟨rfl, hb14⟩
      have hcs : callsOk n k s m = true := by
        obtain ⟨hq1, e1⟩ := HSM.out.1
        obtain ⟨hq2, e2⟩ := HSM.out.2.1
        have h1 := List.all_eq_true.1 calls_all n (List.mem_range.2 (by omega))
        have h2 := List.all_eq_true.1 h1 k (List.mem_range.2 (by omega))
        have h3 := List.all_eq_true.1 h2 (lib10[q]'hq1) (List.getElem_mem _)
        have e3 : nmL[q]'hq1 = (lib10[q]'hq1).1 := List.getElem_map ..
        have e4 : manyL[q]'hq2 = (lib10[q]'hq1).2 := List.getElem_map ..
        rw [e1, e2, e3, e4]
        exact h3
      unfold callsOk at hcs
      simp only [Bool.and_eq_true, ← HEE.out, ← HGG.out] at hcs
      obtain ⟨⟨⟨⟨⟨hc1, hc2⟩, hc3⟩, hc4⟩, hc5⟩, hc6⟩ := hcs
      have hl4 : libOf s = some m := by simpa using hc4
      have hh7 : scheck wrapI (loneP k) = 7 := by simpa using hc3
      rw [hl4, hh7]
      simp only [Option.isSome_some, Option.getD_some]
      have E14 := Lib.hid (E13.out.later hb14)
      generalize Tags.ext _ _ 790 = g14 at *
      clear hb14 E13 HEE HGG hc3 hc4 hl4 hh7 d0 d1
      go_upto_region 22 with fail
      have HC := Lib.hid (And.intro hc1 (And.intro hc2 (And.intro hc5 hc6)))
      clear hc1 hc2 hc5 hc6
      go_wp2_with fail
      refine (alive11_t (w := w14)).mono ?_
      rintro e w15 ⟨rfl, hb15⟩
      have E15 := Lib.hid (E14.out.later hb15)
      obtain ⟨d0, d1⟩ := UP.out w15 E15.out.since.below
      have HBZ := Lib.hid (HB.out.1.trans (E15.out.since.below.mono HB.out.1.size))
      clear hb15 E14 d0
      have hcc := HC.out
      by_cases hnk : n = k
      · by_cases hmk : m = k
        · have hEG : EE = 0 ∧ GG = 0 := by
            rw [hnk, hmk] at hcc
            simp at hcc
            omega
          obtain ⟨rfl, rfl⟩ := hEG
          subst hmk
          subst hnk
          clear hcc HC
          go_wp2_with fail
          go_ret
          exact ⟨by simp, HBZ.out⟩
        · have hEG : EE = 0 ∧ GG = 7 := by
            have hq : (m == k) = false := by simp [hmk]
            rw [hnk, hq] at hcc
            simp at hcc
            omega
          obtain ⟨rfl, rfl⟩ := hEG
          have hmk2 : ((m : Int) == (k : Int)) = false := by rw [beq_eq_false_iff_ne]; omega
          have hmk3 : ¬ (m : Int) = (k : Int) := by omega
          subst hnk
          clear hcc HC hmk
          go_wp2_with fail
          go_ret
          exact ⟨by simp, HBZ.out⟩
      · have hnk2 : ((n : Int) == (k : Int)) = false := by rw [beq_eq_false_iff_ne]; omega
        have hnk3 : ¬ (n : Int) = (k : Int) := by omega
        have hq0 : (n == k) = false := by simp [hnk]
        by_cases hmk : m = k
        · have hEG : EE = 7 ∧ GG = 0 := by
            rw [hq0, hmk] at hcc
            simp at hcc
            omega
          obtain ⟨rfl, rfl⟩ := hEG
          subst hmk
          clear hcc HC hnk hq0
          go_wp2_with fail
          go_ret
          exact ⟨by simp, HBZ.out⟩
        · have hEG : EE = 7 ∧ GG = 7 := by
            have hq : (m == k) = false := by simp [hmk]
            rw [hq0, hq] at hcc
            simp at hcc
            omega
          obtain ⟨rfl, rfl⟩ := hEG
          have hmk2 : ((m : Int) == (k : Int)) = false := by rw [beq_eq_false_iff_ne]; omega
          have hmk3 : ¬ (m : Int) = (k : Int) := by omega
          clear hcc HC hnk hq0 hmk
          go_wp2_with fail
          go_ret
          exact ⟨by simp, HBZ.out⟩

theorem calls_any (w : World) (x : Int) (hx : (Lit.int .u8 x).wf = true) (y : Int) (hy : (Lit.int .u8 y).wf = true) (z : Int) (hz : (Lit.int .u8 z).wf = true) : Calls Tryz.prog 7 #[.int .u8 x, .int .u8 y, .int .u8 z] w fun e w' => e = .returned (.bool true) ∧ Below w.heap.size w w' := by
  simp [Lit.wf, IntKind.min, IntKind.max, IntKind.signed, IntKind.bits] at hx hy hz
  obtain ⟨n, rfl⟩ : ∃ k : Nat, x = (k : Int) := ⟨x.toNat, by omega⟩
  obtain ⟨c, rfl⟩ : ∃ k : Nat, y = (k : Int) := ⟨y.toNat, by omega⟩
  obtain ⟨d, rfl⟩ : ∃ k : Nat, z = (k : Int) := ⟨z.toNat, by omega⟩
  exact calls_t n c d (by omega) (by omega) (by omega)
end Go.Proofs.YtmkhfonafcikdaaGreatDoor
