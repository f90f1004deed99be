/- Frames: what New, Left, Put compute. -/
import Derived.Test.YtolkphbnneoloaaDoorRows
import Derived.Test.YtolkphbnneoloaaDoorMem
import Derived.Test.YtolkphbnneoloaaDoorFrPlain
namespace Go.Proofs.YtolkphbnneoloaaDoor
open Go.RowKit Go.My

theorem bytesElem : Elem Tryd.prog 22 5 1 1 (.int .u8 0) := Elem.mk' Tryd.underlying22 (by kernel_rfl) rfl (by decide)

theorem put_great (w : World) (ao : Option Addr) (n cap : Nat) (hn : 65536 < n) (hm : n ≤ 9223372036854775807) :
    Calls Tryd.prog 6 #[.slice ao n cap] w fun e w' => e = .returned (.tuple #[.slice none 0 0, .int .i64 3]) ∧ w' = w := by
  have h : (65536 : Int) < n := by omega
  go_enter Tryd.func6, Tryd.ntmps6
  go_wp2
  go_ret2
  exact ⟨rfl, rfl⟩

theorem put_step1 {w w1 : World} {A B : Obj} (hs : Step ((w.alloc A).alloc B) w1 (some w.heap.size)) : Below w.heap.size w w1 :=
  (((Below.refl _ w).alloc (Nat.le_refl _) A).alloc (by simp) B).trans (hs.below (by simp; omega) (fun k e => by cases e; exact Nat.le_refl _))

theorem put_end {w w1 w2 : World} {A B : Obj} {l : List UInt8} (hn : l.length ≤ 65536) (hs1 : Step ((w.alloc A).alloc B) w1 (some w.heap.size)) (hs2 : Step w1 w2 (some w.heap.size))
    (hg : w2.heap[w.heap.size]? = some (.cells (splice (splice (List.replicate (4 + l.length) (.int .u8 0)) 0 [Value.int .u8 ((l.length : Int) / 16777216), Value.int .u8 ((l.length : Int) / 65536), Value.int .u8 ((l.length : Int) / 256 % 256), Value.int .u8 ((l.length : Int) % 256)]) 4 (l.map byteCell)).toArray 5 (0, 0))) :
    ∃ g, Ending.returned (Value.tuple #[Value.slice (some ⟨w.heap.size, 0, none⟩) (4 + l.length) (4 + l.length), Value.int .i64 0]) = Ending.returned (.tuple #[.slice (some ⟨g, 0, none⟩) (l.length + 4) (l.length + 4), .int .i64 0]) ∧ w.heap.size ≤ g ∧
      w2.heap[g]? = some (.cells ((Fr.frame l).map byteCell).toArray 5 (0, 0)) ∧ Below w.heap.size w w2 := by
  refine ⟨w.heap.size, by rw [Nat.add_comm], Nat.le_refl _, ?_, ?_⟩
  · rw [hg]
    congr 3
    have e1 : splice (List.replicate (4 + l.length) (.int .u8 0)) 0 [Value.int .u8 ((l.length : Int) / 16777216), Value.int .u8 ((l.length : Int) / 65536), Value.int .u8 ((l.length : Int) / 256 % 256), Value.int .u8 ((l.length : Int) % 256)] =
        (Fr.be4 l.length).map byteCell ++ List.replicate l.length (.int .u8 0) := by
      rw [Nat.add_comm 4 l.length]
      simp [splice, Fr.be4, byteCell, List.replicate_succ]
      omega
    rw [e1]
    have e2 : ((Fr.be4 l.length).map byteCell).length = 4 := by simp [Fr.be4]
    have e3 : (Fr.frame l).map byteCell = (Fr.be4 l.length).map byteCell ++ l.map byteCell := by rw [Fr.frame, List.map_append]
    rw [e3]
    generalize (Fr.be4 l.length).map byteCell = X at e2
    have e4 : (X ++ List.replicate l.length (Value.int .u8 0)).take 4 = X := by rw [← e2]; exact List.take_left
    have e5 : (X ++ List.replicate l.length (Value.int .u8 0)).drop (4 + (l.map byteCell).length) = [] := by
      rw [List.drop_eq_nil_iff]; simp [e2]
    rw [splice, e4, e5, List.append_nil]
  · have hb := put_step1 hs1
    exact hb.trans (hs2.below hb.size (fun k e => by cases e; exact Nat.le_refl _))

set_option maxRecDepth 100000 in
set_option maxHeartbeats 4000000 in
theorem put_ok (w : World) (S : Nat → Prop) (v : Value) (l : List UInt8) (hv : BytesIn w S v l) (hS : ∀ b, S b → b < w.heap.size) (hn : l.length ≤ 65536) :
    Calls Tryd.prog 6 #[v] w fun e w' => ∃ g, e = .returned (.tuple #[.slice (some ⟨g, 0, none⟩) (l.length + 4) (l.length + 4), .int .i64 0]) ∧ w.heap.size ≤ g ∧
      w'.heap[g]? = some (.cells ((Fr.frame l).map byteCell).toArray 5 (0, 0)) ∧ Below w.heap.size w w' := by
  obtain ⟨ao, cap, rfl, hc1, hc2, hc⟩ := hv.open_
  have h1 : ¬ (65536 : Int) < l.length := by omega
  have h2 : (0 : Int) ≤ l.length := by omega
  have HV := Lib.hid hv
  clear hv hc
  by_cases hne : l = []
  · have HE := Lib.hid hne
    have hq : (l = []) ↔ True := by simp [hne]
    clear hne
    go_enter Tryd.func6, Tryd.ntmps6
    go_upto_region 6 with (first
      | (refine wpList_make _ rfl (.tmp 11) (.tmp 11) rfl bytesElem rfl rfl (by omega) (Int.le_refl _) (by omega) (by omega) ?_)
      | (refine wpList_copy _ rfl (.tmp 13) (.tmp 25) rfl bytesElem rfl (y := .slice (some ⟨w.heap.size + 1, 0, none⟩) 4 4) rfl (Src.lit _ _ (by simp) rfl) (by simp [Value.oneCell']) (by omega) (g := w.heap.size) (off := 0) (cur := List.replicate (4 + l.length) (.int .u8 0)) (fun _ => rfl) (by rw [heap_alloc2_old, madeCells_one]) (by simp) ?_; intro w1 hg1 hs1; have HG1 := Lib.hid hg1; clear hg1))
    have HS := BytesIn.src (HV.out.below (B := w.heap.size) (put_step1 hs1) hS)
    go_wp2_with (refine wpList_copy _ rfl (.tmp 28) (.tmp 29) rfl bytesElem rfl (y := .slice ao l.length cap) rfl HS (byteCells_one _) (by omega) (g := w.heap.size) (off := 4) (fun h => by rw [HE.out] at h; exact absurd h (Nat.lt_irrefl _)) HG1.out (by simp [length_splice]) ?_; intro w2 hg2 hs2; have HG2 := Lib.hid hg2; clear hg2)
    go_ret2
    exact put_end hn hs1 hs2 HG2.out
  · go_enter Tryd.func6, Tryd.ntmps6
    go_upto_region 6 with (first
      | (refine wpList_make _ rfl (.tmp 11) (.tmp 11) rfl bytesElem rfl rfl (by omega) (Int.le_refl _) (by omega) (by omega) ?_)
      | (refine wpList_copy _ rfl (.tmp 13) (.tmp 25) rfl bytesElem rfl (y := .slice (some ⟨w.heap.size + 1, 0, none⟩) 4 4) rfl (Src.lit _ _ (by simp) rfl) (by simp [Value.oneCell']) (by omega) (g := w.heap.size) (off := 0) (cur := List.replicate (4 + l.length) (.int .u8 0)) (fun _ => rfl) (by rw [heap_alloc2_old, madeCells_one]) (by simp) ?_; intro w1 hg1 hs1; have HG1 := Lib.hid hg1; clear hg1))
    have HS := BytesIn.src (HV.out.below (B := w.heap.size) (put_step1 hs1) hS)
    go_wp2_with (refine wpList_copy _ rfl (.tmp 28) (.tmp 29) rfl bytesElem rfl (y := .slice ao l.length cap) rfl HS (byteCells_one _) (by omega) (g := w.heap.size) (off := 4) (fun _ => rfl) HG1.out (by simp [length_splice]) ?_; intro w2 hg2 hs2; have HG2 := Lib.hid hg2; clear hg2)
    go_ret2
    exact put_end hn hs1 hs2 HG2.out
end Go.Proofs.YtolkphbnneoloaaDoor
