/- Links: the walk of LinksOrder. -/
import Derived.Test.YtoedalocfepkoaaLiAlive
import Derived.Test.YtoedalocfepkoaaLiOrd
namespace Go.Proofs.Ytoedalocfepkoaa
open Go.RowKit Go.My

def boolCells (C : Nat → Bool) : Array Value := ((List.range 16).map fun j => Value.bool (C j)).toArray

/-- The statement's own array. -/
def Arr (w : World) (g : Tags) (cb : Nat) (C : Nat → Bool) : Prop := w.heap[cb]? = some (.cells (boolCells C) 50 (0, 0)) ∧ g cb = 60

theorem Arr.turn {w w' : World} {g g' : Tags} {T : List Nat} {cb : Nat} {C : Nat → Bool} (h : Arr w g cb C) (k : Turn w g w' g' T) (ht : 60 ∉ T) : Arr w' g' cb C := by
  have hlt : cb < w.heap.size := (Array.getElem?_eq_some_iff.1 h.1).1
  exact ⟨(k.block cb hlt (by rw [h.2]; exact ht)).trans h.1, (k.old cb hlt).trans h.2⟩
theorem Arr.cell {w : World} {g : Tags} {cb : Nat} {C : Nat → Bool} (h : Arr w g cb C) (j : Nat) (hj : j < 16) : w.cell? ⟨cb, j, none⟩ = some (.bool (C j)) ∧ w.frozen? ⟨cb, j, none⟩ = false := by
  refine ⟨?_, frozen_of_row w cb j _ _ h.1⟩
  rw [cell_of_row w cb j _ _ _ h.1]
  simp [boolCells, hj]
theorem Arr.store {w : World} {g : Tags} {cb : Nat} {C : Nat → Bool} (h : Arr w g cb C) (j : Nat) (hj : j < 16) : Turn w g (w.setCell ⟨cb, j, none⟩ (.bool true)) g [60] ∧ Arr (w.setCell ⟨cb, j, none⟩ (.bool true)) g cb (Li.mark C j) := by
  refine ⟨Turn.store w g _ _ h.2, ?_, h.2⟩
  rw [_root_.Go.heap_setCell_same w cb j _ _ (.bool true) h.1]
  congr 2
  apply Array.ext
  · simp [boolCells]
  · intro i h1 h2
    have hi : i < 16 := by simpa [boolCells] using h1
    by_cases e : j = i
    · subst e; simp [boolCells, Li.mark]
    · simp [boolCells, Li.mark, e, Ne.symm e, Array.getElem_setIfInBounds]

theorem ord_lit {w : World} {g : Tags} (k : Nat) (hk : k < 16) :
    Bytes (w.alloc (.cells #[Value.int .u8 68, .int .u8 0, .int .u8 0, .int .u8 0, .int .u8 (k : Int), .int .u8 (100 + (k : Int))] 5)) (g.ext w.heap.size 30) 30 (.slice (some ⟨w.heap.size, 0, none⟩) 6 6) (Li.packet 68 k (Li.msg k)) :=
  lit_t g 30 (Li.packet 68 k (Li.msg k)) rfl (Li.length_packet 68 k _).symm (by rw [Li.length_packet]; exact Nat.le_of_ble_eq_true rfl) (by
    simp [Li.packet, Li.be4, Li.msg, byteCell]
    omega) (0, 0)

def OrdAt (w : World) (ea cb : Nat) (v : Value) (b : List UInt8) (gk : Nat) (vn vi : Value) (wr : World) : Prop :=
  ∃ (i a : Nat) (C : Nat → Bool) (gr : Tags), i ≤ b.length ∧ gk = b.length - i ∧ vi = .int .i64 (i : Int) ∧ vn = .int .i64 (a : Int) ∧ EndIs wr gr 10 ea (Li.ord C a false) i ∧ Arr wr gr cb C ∧ Li.OrdInv C a ∧ Since w wr gr ∧ Bytes wr gr 0 v b

def TellAt (w : World) (a d gk : Nat) (vn vj : Value) (wr : World) : Prop := ∃ j, j ≤ d ∧ gk = d - j ∧ vj = .int .i64 (j : Int) ∧ vn = .int .i64 ((a + j : Nat) : Int) ∧ w = wr

set_option maxRecDepth 100000 in
set_option maxHeartbeats 8000000 in
theorem order_in (w : World) (v : Value) (b : List UInt8) (hv : BytesIn w (fun b => b < w.heap.size) v b) (hl : b.length ≤ 100) :
    Calls Try.prog 6 #[v] w fun e w' => e = .returned (.bool true) ∧ Below w.heap.size w w' := by
  obtain ⟨ao, cap, e0, hc1, hm, _, hz⟩ := hv.open_
  subst e0
  have h1 : (b.length : Int) ≤ 100 := by omega
  have C0 := Lib.hid (And.intro (Since.start w) (show Bytes w (fun _ => 0) 0 (.slice ao b.length cap) b from BytesIn.mono hv (fun _ _ _ => rfl)))
  clear hv hz hm hc1
  go_enter Try.func6, Try.ntmps6
  go_wp2_with fail
  refine alive_t _ (fun _ => 0) 9 fun w1 g1 T1 => ?_
  have C1 := Lib.hid (And.intro (C0.out.1.turn T1 (by decide)) (C0.out.2.turn T1 (by decide)))
  clear T1 C0
  go_wp2_with fail
  refine new_t w1 g1 10 fun ea w2 g2 T2 E2 => ?_
  have C2 := Lib.hid (And.intro (C1.out.1.turn T2 (by decide)) (And.intro (C1.out.2.turn T2 (by decide)) E2))
  clear T2 E2 C1
  go_wp2_with fail
  obtain ⟨cb, hcb⟩ : ∃ cb, cb = w2.heap.size := ⟨_, rfl⟩
  rw [← hcb]
  have HA := Lib.hid (show OrdAt w ea cb (.slice ao b.length cap) b b.length (.int .i64 0) (.int .i64 0) (w2.alloc (.cells #[Value.bool false, .bool false, .bool false, .bool false, .bool false, .bool false, .bool false, .bool false, .bool false, .bool false, .bool false, .bool false, .bool false, .bool false, .bool false, .bool false] 50)) by
    have T := Turn.alloc w2 g2 60 (.cells #[Value.bool false, .bool false, .bool false, .bool false, .bool false, .bool false, .bool false, .bool false, .bool false, .bool false, .bool false, .bool false, .bool false, .bool false, .bool false, .bool false] 50)
    refine ⟨0, 0, fun _ => false, g2.ext w2.heap.size 60, Nat.zero_le _, rfl, rfl, rfl, ?_, ⟨?_, ?_⟩, Li.inv_fresh, C2.out.1.turn T (by decide), C2.out.2.1.turn T (by decide)⟩
    · rw [← Li.ord_fresh]; exact C2.out.2.2.turn T (by decide)
    · rw [hcb]; exact _root_.Go.heap_alloc_new w2 _
    · rw [hcb]; exact Tags.ext_new _ _ _ _ (Nat.le_refl _))
  clear C2 hcb
  go_loopg [5, 6] b.length (fun gk vn vi wr => OrdAt w ea cb (.slice ao b.length cap) b gk vn vi wr)
  case atStart => exact HA.out
  case round =>
    obtain ⟨i, a, C, gr, hi, rfl, rfl, rfl, hE, hA, hI, hS, hb⟩ := hrel
    have HX := Lib.hid (And.intro hE (And.intro hA (And.intro hI (And.intro hS hb))))
    have ha := hI.le
    clear hE hA hI hS hb HA
    have i0 : (0 : Int) ≤ (i : Int) := by omega
    by_cases hlt : i < b.length
    · have i1 : (i : Int) < (b.length : Int) := by omega
      obtain ⟨bb, off, rfl, _, hc⟩ := BytesIn.cells HX.out.2.2.2.2 (by omega)
      have c1 := hc i hlt
      have hx := (b[i]).toNat_lt
      generalize (b[i]).toNat = x at *
      obtain ⟨k, hk⟩ : ∃ k : Nat, k = x % 16 := ⟨_, rfl⟩
      have hk1 : (x : Int) % 16 = (k : Int) := by omega
      have hk2 : k < 16 := by omega
      have hk3 : (k : Int) ≤ 15 := by omega
      clear hc hk
      go_wp2_with fail
      clear hk1 c1
      obtain ⟨d, hd, hI2⟩ := Li.came_ord C a k HX.out.2.2.1 hk2
      have HI2 := Lib.hid hI2
      have HD := Lib.hid hd
      clear hI2 hd
      refine came_k 50 (HX.out.1.turn (Turn.alloc wr gr 30 _) (by decide)) (ord_lit (w := wr) (g := gr) k hk2) (by omega) (by decide) (by decide) HD.out rfl fun al cl w5 g5 T5 L5 E5 => ?_
      have C5 := Lib.hid (And.intro ((HX.out.2.1.turn (Turn.alloc wr gr 30 _) (by decide)).turn T5 (by decide)) (And.intro ((HX.out.2.2.2.1.turn (Turn.alloc wr gr 30 _) (by decide)).turn T5 (by decide)) (And.intro ((HX.out.2.2.2.2.turn (Turn.alloc wr gr 30 _) (by decide)).turn T5 (by decide)) (And.intro L5 E5))))
      rw [Li.msgs_length]
      rw [Li.msgs_length] at C5
      clear T5 L5 E5 HX HD
      obtain ⟨_, c5f⟩ := C5.out.1.cell k hk2
      go_wp2_with fail
      obtain ⟨T6, A6⟩ := C5.out.1.store k hk2
      have C6 := Lib.hid (And.intro A6 (And.intro (C5.out.2.1.turn T6 (by decide)) (And.intro (C5.out.2.2.1.turn T6 (by decide)) (And.intro (C5.out.2.2.2.1.turn T6 (by decide) (by decide)) (C5.out.2.2.2.2.turn T6 (by decide))))))
      clear T6 A6 C5 c5f
      obtain ⟨w6, hw6⟩ : ∃ w6, w6 = w5.setCell ⟨cb, k, none⟩ (.bool true) := ⟨_, rfl⟩
      rw [← hw6] at C6 ⊢
      clear hw6
      have had := HI2.out.le
      go_loopg [5, 10] d (fun gk vn vj wr => TellAt w6 a d gk vn vj wr)
      case atStart => exact ⟨0, Nat.zero_le _, rfl, rfl, rfl, rfl⟩
      case round =>
        obtain ⟨j, hj, rfl, rfl, rfl, rfl⟩ := hrel
        have j0 : (0 : Int) ≤ (j : Int) := by omega
        by_cases hjd : j < d
        · have j1 : (j : Int) < (d : Int) := by omega
          obtain ⟨n, hn⟩ : ∃ n, n = a + j := ⟨_, rfl⟩
          rw [← hn]
          have hn1 : (n : Int) ≤ 15 := by omega
          have hn2 : n ≤ 15 := by omega
          obtain ⟨lb, lo, rfl, hlc⟩ := lists_cells C6.out.2.2.2.1 (by rw [Li.msgs_length]; omega)
          obtain ⟨u, hu, hub⟩ := hlc j (by rw [Li.msgs_length]; exact hjd)
          rw [Li.msgs_get a d j hjd, ← hn] at hub
          obtain ⟨ua, uc, rfl⟩ := bytes_form hub
          have hu2 : w6.cell? ⟨lb, lo + j, none⟩ = some (.slice ua 1 uc) := hu
          obtain ⟨bq, oq, rfl, _, hq⟩ := BytesIn.cells hub (by exact Nat.one_pos)
          have d0 : w6.cell? ⟨bq, oq, none⟩ = some (.int .u8 (100 + (n : Int))) := by
            have := hq 0 (by exact Nat.one_pos)
            rw [Nat.add_zero] at this
            rw [this]
            show some (Value.int .u8 (((UInt8.ofNat (100 + n)).toNat : Nat) : Int)) = _
            congr 2
            simp
            omega
          have d1 := (C6.out.1.cell n (by omega)).1
          rw [HI2.out.all n (by omega)] at d1
          have HN := Lib.hid hn
          clear hlc hub hq hu hn
          go_wp2_with fail
          go_roundg (d - (j + 1))
          case measure => omega
          case rel => exact ⟨j + 1, by omega, rfl, by go_num, by rw [HN.out]; go_num, rfl⟩
        · obtain rfl : j = d := by omega
          obtain ⟨n, hn⟩ : ∃ n, n = a + j := ⟨_, rfl⟩
          rw [← hn] at C6 HI2 ⊢
          have hn1 : n ≤ 16 := by omega
          have hsz := hi
          clear hn had hjd hj j0
          by_cases h16 : n < 16
          · have hn2 : (n : Int) < 16 := by omega
            have d1 := (C6.out.1.cell n h16).1
            rw [HI2.out.stop h16] at d1
            go_wp2_with fail
            clear d1
            refine packets_k 40 41 C6.out.2.2.2.2 (by decide) (by decide) (by decide) (by decide) (by decide) (by decide) (Li.packets_ord _ _) fun ap cp w7 g7 T7 L7 E7 => ?_
            have C7 := Lib.hid (And.intro (C6.out.1.turn T7 (by decide)) (And.intro (C6.out.2.1.turn T7 (by decide)) (And.intro (C6.out.2.2.1.turn T7 (by decide)) (And.intro E7 HI2.out))))
            obtain ⟨bp, op, a0, c0, rfl, e0, e1⟩ := lists_one L7
            obtain ⟨bq, oq, rfl, _, hq⟩ := BytesIn.cells e1 (by rw [Li.length_packet]; exact Nat.succ_pos _)
            have q4 : w7.cell? ⟨bq, oq + 4, none⟩ = some (.int .u8 (n : Int)) := by
              have := hq 4 (by rw [Li.length_packet]; exact Nat.lt_succ_self 4)
              rw [this]
              show some (Value.int .u8 (((UInt8.ofNat n).toNat : Nat) : Int)) = _
              congr 2
              simp
              omega
            have q0' : w7.cell? ⟨bq, oq, none⟩ = some (.int .u8 65) := by
              have := hq 0 (by rw [Li.length_packet]; exact Nat.succ_pos _)
              rw [Nat.add_zero] at this
              exact this
            clear hq e1 T7 L7 E7 C6
            go_wp2_with fail
            go_roundg (b.length - (i + 1))
            case measure => omega
            case rel => exact ⟨i + 1, n, Li.mark C k, g7, by omega, rfl, by go_num, rfl, C7.out.2.2.2.1, C7.out.1, C7.out.2.2.2.2, C7.out.2.1, C7.out.2.2.1⟩
          · have hn2 : (16 : Int) ≤ (n : Int) := by omega
            have d1 : True := trivial
            go_wp2_with fail
            clear d1
            refine packets_k 40 41 C6.out.2.2.2.2 (by decide) (by decide) (by decide) (by decide) (by decide) (by decide) (Li.packets_ord _ _) fun ap cp w7 g7 T7 L7 E7 => ?_
            have C7 := Lib.hid (And.intro (C6.out.1.turn T7 (by decide)) (And.intro (C6.out.2.1.turn T7 (by decide)) (And.intro (C6.out.2.2.1.turn T7 (by decide)) (And.intro E7 HI2.out))))
            obtain ⟨bp, op, a0, c0, rfl, e0, e1⟩ := lists_one L7
            obtain ⟨bq, oq, rfl, _, hq⟩ := BytesIn.cells e1 (by rw [Li.length_packet]; exact Nat.succ_pos _)
            have q4 : w7.cell? ⟨bq, oq + 4, none⟩ = some (.int .u8 (n : Int)) := by
              have := hq 4 (by rw [Li.length_packet]; exact Nat.lt_succ_self 4)
              rw [this]
              show some (Value.int .u8 (((UInt8.ofNat n).toNat : Nat) : Int)) = _
              congr 2
              simp
              omega
            have q0' : w7.cell? ⟨bq, oq, none⟩ = some (.int .u8 65) := by
              have := hq 0 (by rw [Li.length_packet]; exact Nat.succ_pos _)
              rw [Nat.add_zero] at this
              exact this
            clear hq e1 T7 L7 E7 C6
            go_wp2_with fail
            go_roundg (b.length - (i + 1))
            case measure => omega
            case rel => exact ⟨i + 1, n, Li.mark C k, g7, by omega, rfl, by go_num, rfl, C7.out.2.2.2.1, C7.out.1, C7.out.2.2.2.2, C7.out.2.1, C7.out.2.2.1⟩
    · obtain rfl : i = b.length := by omega
      go_wp2_with fail
      go_ret
      exact ⟨rfl, HX.out.2.2.2.1.below⟩
end Go.Proofs.Ytoedalocfepkoaa
