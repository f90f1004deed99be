/- Tokens: Name. -/
import Derived.Test.YtiefpffccmdcoaaDoorToKinds
import Derived.Laws.EntriesVeiled
namespace Go.Proofs.YtiefpffccmdcoaaDoor
open Go.RowKit Go.My

theorem contains_own (l : List UInt8) : Lib.containsS (To.own.map bs) (bs l) = To.own.contains l := by
  rw [Bool.eq_iff_iff, Lib.containsS_iff]
  simp only [List.mem_map, List.contains_iff_mem]
  constructor
  · rintro ⟨x, hx, he⟩
    have := congrArg (fun s : ByteArray => s.data.toList) he
    simp only [bs_list] at this
    rw [← this]; exact hx
  · intro h; exact ⟨l, h, rfl⟩

theorem own_t {w : World} (l : List UInt8) {Q : Ending → World → Prop} (h : Q (.returned (.bool (To.own.contains l))) (w.alloc (.cells #[.string (bs [102, 110]), .string (bs [105, 102]), .string (bs [101, 108, 115, 101]), .string (bs [119, 104, 105, 108, 101]), .string (bs [114, 101, 116, 117, 114, 110]), .string (bs [116, 101, 108, 108]), .string (bs [110, 111, 116])] 9))) :
    Calls Tryd.prog 45 #[.slice (some ⟨w.heap.size, 0, none⟩) 7 7, .string (bs l)] (w.alloc (.cells #[.string (bs [102, 110]), .string (bs [105, 102]), .string (bs [101, 108, 115, 101]), .string (bs [119, 104, 105, 108, 101]), .string (bs [114, 101, 116, 117, 114, 110]), .string (bs [116, 101, 108, 108]), .string (bs [110, 111, 116])] 9)) Q := by
  refine Calls.mono (Tryd.slices_Contains_string w.heap.size 0 7 7 (To.own.map bs) (bs l) _ (by decide) (by decide) (fun j hj => ?_)) ?_
  · rw [cell_of_row _ w.heap.size (0 + j) _ 9 (0, 0) (_root_.Go.heap_alloc_new w _)]
    have hj7 : j < 7 := hj
    match j, hj7 with
    | 0, _ => rfl
    | 1, _ => rfl
    | 2, _ => rfl
    | 3, _ => rfl
    | 4, _ => rfl
    | 5, _ => rfl
    | 6, _ => rfl
  · rintro e w' ⟨rfl, rfl⟩
    rw [show (To.own.map bs).take 7 = To.own.map bs from rfl, contains_own]
    exact h

set_option maxHeartbeats 1000000 in
theorem name_t {w : World} (l : List UInt8) (hl : l.length ≤ 9223372036854775807) {Q : Ending → World → Prop} (h : ∀ w', Below w.heap.size w w' → Q (.returned (.bool (To.name l))) w') :
    Calls Tryd.prog 24 #[.string (bs l)] w Q := by
  have H := Lib.hid h
  clear h
  have hB0 := Lib.hid ((Below.refl w.heap.size w).alloc (Nat.le_refl _) (.cells #[.string (bs [102, 110]), .string (bs [105, 102]), .string (bs [101, 108, 115, 101]), .string (bs [119, 104, 105, 108, 101]), .string (bs [114, 101, 116, 117, 114, 110]), .string (bs [116, 101, 108, 108]), .string (bs [110, 111, 116])] 9))
  obtain ⟨b, hb⟩ : ∃ b, b = To.own.contains l := ⟨_, rfl⟩
  have HBo := Lib.hid hb
  cases b with
  | true =>
    have e : To.name l = false := by unfold To.name; rw [← hb]; rfl
    rw [e] at H
    clear e hb
    go_enter Tryd.func24, Tryd.ntmps24
    go_wp2_with fail
    refine own_t l ?_
    rw [← HBo.out]
    go_wp2_with fail
    exact H.out _ hB0.out
  | false =>
    cases l with
    | nil =>
      have e : To.name [] = false := rfl
      rw [e] at H
      have hem : (bs []).toList = [] := by rw [ByteArray.toList_eq, bs_list]
      clear e hb
      go_enter Tryd.func24, Tryd.ntmps24
      go_wp2_with fail
      refine own_t [] ?_
      rw [← HBo.out]
      go_wp2_with fail
      exact H.out _ hB0.out
    | cons c r =>
      have hne : (bs (c :: r)).toList.isEmpty = false := by rw [ByteArray.toList_eq, bs_list]; rfl
      have e : To.name (c :: r) = (To.word (c :: r) == (c :: r).length) := by unfold To.name; rw [← hb]; simp
      rw [e] at H
      have hsz := bs_size (c :: r)
      obtain ⟨n, hn⟩ : ∃ n, n = (c :: r).length := ⟨_, rfl⟩
      rw [← hn] at hsz hl H
      obtain ⟨x, hx⟩ : ∃ x, x = To.word (c :: r) := ⟨_, rfl⟩
      have hdec : (To.word (c :: r) == n) = decide ((x : Int) = (n : Int)) := by rw [← hx, Bool.eq_iff_iff]; simp; omega
      rw [hdec] at H
      have HN := Lib.hid (And.intro hn hx)
      clear e hb hn hx hdec
      go_enter Tryd.func24, Tryd.ntmps24
      go_wp2_with fail
      refine own_t (c :: r) ?_
      rw [← HBo.out]
      have hk0 := fun wx => (kix wx).1
      have hk1 := fun wx => kfield wx
      go_wp2_with fail
      refine kinds_t fun w1 hB1 => ?_
      have HB1 := Lib.hid (hB0.out.trans (hB1.mono hB0.out.size))
      clear hB1
      go_wp2_with fail
      refine word_t (c :: r) (by rw [← HN.out.1]; exact hl) fun w2 hB2 => ?_
      have HB2 := Lib.hid (HB1.out.trans (hB2.mono HB1.out.size))
      clear hB2
      rw [← HN.out.2]
      go_wp2_with fail
      exact H.out _ HB2.out
end Go.Proofs.YtiefpffccmdcoaaDoor
