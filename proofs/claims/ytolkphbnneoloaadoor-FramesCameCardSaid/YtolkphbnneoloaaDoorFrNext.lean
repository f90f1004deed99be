/- Frames: what next computes. -/
import Derived.Test.YtolkphbnneoloaaDoorFrPut
namespace Go.Proofs.YtolkphbnneoloaaDoor
open Go.RowKit Go.My

/-- A reader at block rb: its bytes are owned in block g. -/
def Rd (w : World) (rb : Nat) (v : Value) (g : Option Nat) (buf : List UInt8) (broken : Bool) : Prop :=
  w.heap[rb]? = some (.cells #[v, .bool true, .bool broken] 61 (0, 0)) ∧ Own w 5 1 v buf.length (buf.map byteCell) g ∧ g ≠ some rb

theorem Rd.cell {w : World} {rb : Nat} {v : Value} {g : Option Nat} {buf : List UInt8} {broken : Bool} (h : Rd w rb v g buf broken) :
    w.cell? ⟨rb, 0, none⟩ = some v ∧ w.cell? ⟨rb, 1, none⟩ = some (.bool true) ∧ w.cell? ⟨rb, 2, none⟩ = some (.bool broken) ∧ ∀ i, w.frozen? ⟨rb, i, none⟩ = false := by
  refine ⟨?_, ?_, ?_, fun i => frozen_of_row w rb i _ _ h.1⟩ <;> rw [cell_of_row w rb _ _ _ _ h.1] <;> rfl

theorem bytes_own {w : World} {v : Value} {g : Option Nat} {buf : List UInt8} (h : Own w 5 1 v buf.length (buf.map byteCell) g) : BytesIn w (fun b => g = some b) v buf := h.row

theorem next_short (w : World) (rb : Nat) (v : Value) (g : Option Nat) (buf : List UInt8) (broken : Bool) (h : Rd w rb v g buf broken) (hl : buf.length < 4) :
    Calls Tryd.prog 59 #[.pointer (some ⟨rb, 0, none⟩)] w fun e w' => e = .returned (.tuple #[.slice none 0 0, .bool false, .bool true]) ∧ w = w' := by
  obtain ⟨h0, _, _, _⟩ := h.cell
  obtain ⟨ao, cap, rfl, hc1, hc2, _, _⟩ := (bytes_own h.2.1).open_
  have hlt : (buf.length : Int) < 4 := by omega
  clear h
  go_enter Tryd.func59, Tryd.ntmps59
  go_wp2
  exact bodyPost_ret (v := .tuple #[.slice none 0 0, .bool false, .bool true]) (by simp [results, Tryd.results18, go_sem]) rfl ⟨rfl, rfl⟩

theorem or_step (a : Nat) (ha : a < 16777216) (x : UInt8) : bits BinOp.or IntKind.u32 ((a : Int) * 256 % 4294967296) (x.toNat : Int) = ((a * 256 + x.toNat : Nat) : Int) := by
  have hx := x.toNat_lt
  have e : (a : Int) * 256 % 4294967296 = ((a * 256 : Nat) : Int) := by omega
  rw [e, u32_or_nat _ _ (by omega) (by omega)]
  congr 1
  have := Nat.shiftLeft_add_eq_or_of_lt (i := 8) (b := x.toNat) (by omega) a
  rw [Nat.shiftLeft_eq] at this
  exact this.symm

theorem pre_lt3 (b : List UInt8) (k : Nat) (hk : k < 4) : Fr.pre b k < 16777216 := by
  have := Fr.pre_lt b k
  have h2 : 256 ^ k ≤ 256 ^ 3 := Nat.pow_le_pow_right (by decide) (by omega)
  have h3 : (256 : Nat) ^ 3 = 16777216 := by decide
  omega

set_option maxRecDepth 100000 in
set_option maxHeartbeats 1000000 in
theorem next_great (w : World) (rb : Nat) (v : Value) (g : Option Nat) (buf : List UInt8) (broken : Bool) (h : Rd w rb v g buf broken) (hl : 4 ≤ buf.length) (hn : Fr.most < Fr.num4 buf) :
    Calls Tryd.prog 59 #[.pointer (some ⟨rb, 0, none⟩)] w fun e w' => e = .returned (.tuple #[.slice none 0 0, .bool false, .bool false]) ∧ w = w' := by
  obtain ⟨h0, _, _, _⟩ := h.cell
  obtain ⟨ao, cap, rfl, hc1, hc2, _, hb⟩ := (bytes_own h.2.1).open_
  obtain ⟨b, off, rfl, hg, hc⟩ := hb (by omega)
  have hlt : ¬ (buf.length : Int) < 4 := by omega
  have hcap : (4 : Int) ≤ cap := by omega
  have HC := Lib.hid hc
  have HN := Lib.hid hn
  clear h hn hc hb
  go_enter Tryd.func59, Tryd.ntmps59
  go_wp2
  go_loop [5, 21] (fun n i => ∃ k : Nat, k ≤ 4 ∧ i = .int .i64 k ∧ n = .int .u32 (Fr.pre buf k)) (fun _ i => 4 - (intOf i).toNat)
  case atStart => exact ⟨0, by omega, rfl, rfl⟩
  case round =>
    obtain ⟨k, hk, rfl, rfl⟩ := hrel
    by_cases hlt4 : k < 4
    · have hcell := HC.out k (by omega)
      have hs := or_step (Fr.pre buf k) (pre_lt3 buf k hlt4) buf[k]
      have hpre : Fr.pre buf (k + 1) = Fr.pre buf k * 256 + (buf[k]).toNat := by simp only [Fr.pre]; rw [List.getElem?_eq_getElem (by omega)]; rfl
      rw [← hpre] at hs
      have HS := Lib.hid hs
      clear hs hpre
      generalize buf[k] = x at *
      have hx := x.toNat_lt
      obtain ⟨p0, hp0⟩ : ∃ p0, p0 = Fr.pre buf k := ⟨_, rfl⟩
      rw [← hp0] at HS ⊢
      clear hp0
      go_wp2
      go_round
      case rel => exact ⟨k + 1, by omega, by go_num, by rw [HS.out]⟩
      case measure => simp [intOf]; omega
    · obtain rfl : k = 4 := by omega
      have hp : (65536 : Int) < Fr.pre buf 4 := by have := HN.out; rw [← Fr.pre4] at this; unfold Fr.most at this; omega
      generalize Fr.pre buf 4 = p at *
      go_wp2
      exact bodyPost_ret (v := .tuple #[.slice none 0 0, .bool false, .bool false]) (by simp [results, Tryd.results18, go_sem]) rfl ⟨rfl, rfl⟩
set_option maxRecDepth 100000 in
set_option maxHeartbeats 1000000 in
theorem next_part (w : World) (rb : Nat) (v : Value) (g : Option Nat) (buf : List UInt8) (broken : Bool) (h : Rd w rb v g buf broken) (hl : 4 ≤ buf.length) (hn : Fr.num4 buf ≤ Fr.most) (hs : buf.length < 4 + Fr.num4 buf) :
    Calls Tryd.prog 59 #[.pointer (some ⟨rb, 0, none⟩)] w fun e w' => e = .returned (.tuple #[.slice none 0 0, .bool false, .bool true]) ∧ w = w' := by
  obtain ⟨h0, _, _, _⟩ := h.cell
  obtain ⟨ao, cap, rfl, hc1, hc2, _, hb⟩ := (bytes_own h.2.1).open_
  obtain ⟨b, off, rfl, hg, hc⟩ := hb (by omega)
  have hlt : ¬ (buf.length : Int) < 4 := by omega
  have hcap : (4 : Int) ≤ cap := by omega
  have HC := Lib.hid hc
  have HN := Lib.hid hn
  have HM := Lib.hid hs
  clear h hn hs hc hb
  go_enter Tryd.func59, Tryd.ntmps59
  go_wp2
  go_loop [5, 21] (fun n i => ∃ k : Nat, k ≤ 4 ∧ i = .int .i64 k ∧ n = .int .u32 (Fr.pre buf k)) (fun _ i => 4 - (intOf i).toNat)
  case atStart => exact ⟨0, by omega, rfl, rfl⟩
  case round =>
    obtain ⟨k, hk, rfl, rfl⟩ := hrel
    by_cases hlt4 : k < 4
    · have hcell := HC.out k (by omega)
      have hs := or_step (Fr.pre buf k) (pre_lt3 buf k hlt4) buf[k]
      have hpre : Fr.pre buf (k + 1) = Fr.pre buf k * 256 + (buf[k]).toNat := by simp only [Fr.pre]; rw [List.getElem?_eq_getElem (by omega)]; rfl
      rw [← hpre] at hs
      have HS := Lib.hid hs
      clear hs hpre
      generalize buf[k] = x at *
      have hx := x.toNat_lt
      obtain ⟨p0, hp0⟩ : ∃ p0, p0 = Fr.pre buf k := ⟨_, rfl⟩
      rw [← hp0] at HS ⊢
      clear hp0
      go_wp2
      go_round
      case rel => exact ⟨k + 1, by omega, by go_num, by rw [HS.out]⟩
      case measure => simp [intOf]; omega
    · obtain rfl : k = 4 := by omega
      have hp : ¬ (65536 : Int) < Fr.pre buf 4 := by have := HN.out; rw [← Fr.pre4] at this; unfold Fr.most at this; omega
      have hp2 : (buf.length : Int) < 4 + Fr.pre buf 4 := by have := HM.out; rw [← Fr.pre4] at this; omega
      generalize Fr.pre buf 4 = p at *
      go_wp2
      exact bodyPost_ret (v := .tuple #[.slice none 0 0, .bool false, .bool true]) (by simp [results, Tryd.results18, go_sem]) rfl ⟨rfl, rfl⟩
theorem put_step1' {w w1 : World} {A : Obj} (hs : Step (w.alloc A) w1 (some w.heap.size)) : Below w.heap.size w w1 :=
  ((Below.refl _ w).alloc (Nat.le_refl _) A).trans (hs.below (by simp) (fun k e => by cases e; exact Nat.le_refl _))

/-- What next leaves where a frame is whole. -/
def WholePost (w : World) (rb : Nat) (g : Option Nat) (buf : List UInt8) (broken : Bool) (e : Ending) (w' : World) : Prop :=
  ∃ g1 v1, e = .returned (.tuple #[.slice (some ⟨g1, 0, none⟩) (Fr.num4 buf) (Fr.num4 buf), .bool true, .bool true]) ∧ w.heap.size ≤ g1 ∧
    w'.heap[g1]? = some (.cells (((buf.drop 4).take (Fr.num4 buf)).map byteCell).toArray 5 (0, 0)) ∧ Rd w' rb v1 g (buf.drop (4 + Fr.num4 buf)) broken ∧ (∀ k, k < w.heap.size → k ≠ rb → w'.heap[k]? = w.heap[k]?) ∧ Step w w' (some rb)

theorem next_end {w w1 : World} {rb b off cap p : Nat} {g : Option Nat} {buf : List UInt8} {broken : Bool} {A : Obj} {ad2 : Addr} (hp : p = Fr.num4 buf) (hl : 4 + p ≤ buf.length)
    (hR : Rd w rb (.slice (some ⟨b, off, none⟩) buf.length cap) g buf broken)
    (hg : w1.heap[w.heap.size]? = some (.cells (splice (List.replicate p (Value.int .u8 0)) 0 (((buf.drop 4).take p).map byteCell)).toArray 5 (0, 0)))
    (hs : Step (w.alloc A) w1 (some w.heap.size)) (h2 : 4 + p < cap → ad2 = ⟨b, off + (4 + p), none⟩) (h3 : 4 + p = cap → ad2 = ⟨b, off, none⟩) :
    WholePost w rb g buf broken (Ending.returned (Value.tuple #[Value.slice (some ⟨w.heap.size, 0, none⟩) p p, Value.bool true, Value.bool true])) (w1.setCell ⟨rb, 0, none⟩ (.slice (some ad2) (buf.length - (4 + p)) (cap - (4 + p)))) := by
  have hb := put_step1' hs
  have hrb : rb < w.heap.size := (Array.getElem?_eq_some_iff.1 hR.1).1
  have hst : Step w (w1.setCell ⟨rb, 0, none⟩ (.slice (some ad2) (buf.length - (4 + p)) (cap - (4 + p)))) (some rb) :=
    ⟨hb.os, hb.tape, hb.output, by simpa using hb.size, fun k hk hn => (Below.heap_setCell _ _ _ _ (fun e => hn (by simp [e]))).trans (hb.block k hk)⟩
  have hcap : buf.length ≤ cap := by
    rcases hR.2.1.2 with ⟨hv, _⟩ | ⟨_, _, _, _, hv, _, _, h, _⟩
    · cases hv
    · cases hv; exact h
  refine ⟨w.heap.size, .slice (some ad2) (buf.length - (4 + p)) (cap - (4 + p)), by rw [hp], Nat.le_refl _, ?_, ⟨?_, ?_, hR.2.2⟩, fun k hk hn => hst.block k hk (fun e => hn (by cases e; rfl)), hst⟩
  · rw [Below.heap_setCell _ _ _ _ (by simp; omega), hg, ← hp]
    congr 3
    simp [splice]
    omega
  · have h1 : w1.heap[rb]? = some (.cells #[.slice (some ⟨b, off, none⟩) buf.length cap, .bool true, .bool broken] 61 (0, 0)) := (hb.block rb hrb).trans hR.1
    rw [heap_setCell_same w1 rb 0 _ 61 _ h1]
    rfl
  · have ho : Own w 5 1 (.slice (some ad2) (buf.length - (4 + p)) (cap - (4 + p))) (buf.length - (4 + p)) ((buf.map byteCell).drop (4 + p)) g := by
      by_cases hc : 4 + p = cap
      · rw [h3 hc]; exact hR.2.1.drop_all (4 + p) hc hl
      · rw [h2 (by omega)]; exact hR.2.1.drop (4 + p) hl
    rw [← hp, List.length_drop, List.map_drop]
    refine ho.frame fun k hk => hst.block k (hR.2.1.lt k hk) (fun e => hR.2.2 (by rw [hk]; exact e))

set_option maxRecDepth 100000 in
set_option maxHeartbeats 1000000 in
theorem next_whole (w : World) (rb : Nat) (v : Value) (g : Option Nat) (buf : List UInt8) (broken : Bool) (h : Rd w rb v g buf broken) (hl : 4 ≤ buf.length) (hn : Fr.num4 buf ≤ Fr.most) (hs : 4 + Fr.num4 buf ≤ buf.length) :
    Calls Tryd.prog 59 #[.pointer (some ⟨rb, 0, none⟩)] w (WholePost w rb g buf broken) := by
  obtain ⟨h0, _, _, _⟩ := h.cell
  obtain ⟨ao, cap, rfl, hc1, hc2, _, hb⟩ := (bytes_own h.2.1).open_
  obtain ⟨b, off, rfl, rfl, hc⟩ := hb (by omega)
  have hlt : (4 : Int) ≤ buf.length := by omega
  have hcap : (4 : Int) ≤ cap := by omega
  have HC := Lib.hid hc
  have HN := Lib.hid hn
  have HM := Lib.hid hs
  have hfr := h.cell.2.2.2
  have hR := Lib.hid h
  have h1o := h.2.1
  clear h hn hs hc hb
  go_enter Tryd.func59, Tryd.ntmps59
  go_wp2
  go_loop [5, 21] (fun n i => ∃ k : Nat, k ≤ 4 ∧ i = .int .i64 k ∧ n = .int .u32 (Fr.pre buf k)) (fun _ i => 4 - (intOf i).toNat)
  case atStart => exact ⟨0, by omega, rfl, rfl⟩
  case round =>
    obtain ⟨k, hk, rfl, rfl⟩ := hrel
    by_cases hlt4 : k < 4
    · have hcell := HC.out k (by omega)
      have hs := or_step (Fr.pre buf k) (pre_lt3 buf k hlt4) buf[k]
      have hpre : Fr.pre buf (k + 1) = Fr.pre buf k * 256 + (buf[k]).toNat := by simp only [Fr.pre]; rw [List.getElem?_eq_getElem (by omega)]; rfl
      rw [← hpre] at hs
      have HS := Lib.hid hs
      clear hs hpre
      generalize buf[k] = x at *
      have hx := x.toNat_lt
      obtain ⟨p0, hp0⟩ : ∃ p0, p0 = Fr.pre buf k := ⟨_, rfl⟩
      rw [← hp0] at HS ⊢
      clear hp0
      go_wp2
      go_round
      case rel => exact ⟨k + 1, by omega, by go_num, by rw [HS.out]⟩
      case measure => simp [intOf]; omega
    · obtain rfl : k = 4 := by omega
      have hp : (Fr.pre buf 4 : Int) ≤ 65536 := by have := HN.out; rw [← Fr.pre4] at this; unfold Fr.most at this; omega
      have hp2 : 4 + (Fr.pre buf 4 : Int) ≤ buf.length := by have := HM.out; rw [← Fr.pre4] at this; omega
      have hp3 : 4 + (Fr.pre buf 4 : Int) ≤ cap := by omega
      obtain ⟨p, hpp⟩ : ∃ p, p = Fr.pre buf 4 := ⟨_, rfl⟩
      have HP : Hid (p = Fr.num4 buf) := by rw [hpp]; exact Fr.pre4 buf
      rw [← hpp] at hp hp2 hp3 ⊢
      clear hpp HN HM
      go_upto_region 15 with (refine wpList_make _ rfl (.tmp 43) (.tmp 43) rfl bytesElem rfl rfl (by omega) (Int.le_refl _) (by omega) (by omega) ?_)
      have hrb : rb < w.heap.size := by have := World.block_lt_of_cell? w _ h0; simpa using this
      have hbl : b < w.heap.size := by have := World.block_lt_of_cell? w _ (HC.out 0 (by omega)); simpa using this
      have hS : ∀ ad : Addr, (0 < p → ad = ⟨b, off + 4, none⟩) → Src (w.alloc (.cells (madeCells #[Value.int .u8 0] p) 5)) 1 (.slice (some ad) p p) p (((buf.drop 4).take p).map byteCell) := by
        intro ad had
        refine ⟨by simp; omega, .inr ⟨ad, p, rfl, fun j u hu => ?_⟩⟩
        have hj : j < p := by have := (List.getElem?_eq_some_iff.1 hu).1; simp at this; omega
        rw [had (by omega), add_none, ((Below.refl w.heap.size w).alloc (Nat.le_refl _) _).cell (p := ⟨b, off + 4 + j, none⟩) hbl, Nat.add_assoc, HC.out (4 + j) (by omega), ← hu]
        simp [hj, byteCell, List.getElem?_eq_getElem (show 4 + j < buf.length by omega)]
      have hown := h1o
      obtain ⟨ad, hsl, had⟩ := slice_lhh (P := Tryd.prog) Tryd.underlying22 (by kernel_rfl) b off buf.length cap 4 (4 + p) 4 (4 + (p : Int)) (by omega) (by omega) (by omega) (by omega)
      rw [Nat.add_sub_cancel_left] at hsl
      obtain ⟨ad2, hsl2, had2, had3⟩ := slice_l (P := Tryd.prog) Tryd.underlying22 (by kernel_rfl) b off buf.length cap (4 + p) (4 + (p : Int)) (by omega) (by omega) hc1
      have HA := Lib.hid (And.intro had (And.intro had2 had3))
      have HO := Lib.hid hown
      clear had had2 had3 hown h1o
      go_upto_region 16 with (refine wpList_copy _ rfl (.tmp 45) (.tmp 52) rfl bytesElem rfl (y := .slice (some ad) p p) rfl (hS _ (fun h => HA.out.1 (by omega))) (byteCells_one _) (Nat.le_refl _) (g := w.heap.size) (off := 0) (cur := List.replicate p (.int .u8 0)) (fun _ => rfl) (by rw [_root_.Go.heap_alloc_new, madeCells_one]) (by simp) ?_; intro w1 hg1 hs1; have HG1 := Lib.hid hg1; clear hg1)
      clear hsl hS
      have hb1 := put_step1' hs1
      have k0 : w1.cell? ⟨rb, 0, none⟩ = some (.slice (some ⟨b, off, none⟩) buf.length cap) := (hb1.cell (p := ⟨rb, 0, none⟩) hrb).trans h0
      have k1 : w1.frozen? ⟨rb, 0, none⟩ = false := (hb1.frozen (p := ⟨rb, 0, none⟩) hrb).trans (hfr 0)
      go_wp2
      refine bodyPost_ret (v := .tuple #[.slice (some ⟨w.heap.size, 0, none⟩) p p, .bool true, .bool true]) (by simp [results, Tryd.results18, go_sem]) rfl ?_
      exact next_end HP.out (by omega) hR.out HG1.out hs1 HA.out.2.1 HA.out.2.2
end Go.Proofs.YtolkphbnneoloaaDoor
