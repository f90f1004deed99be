/- Frames: the walk of FramesLimit. -/
import Derived.Test.YtolkphbnneoloaaFrTag
namespace Go.Proofs.Ytolkphbnneoloaa
open Go.RowKit Go.My

set_option maxRecDepth 100000 in
set_option maxHeartbeats 4000000 in
theorem limit_great (w : World) (a : Int) (v : Value) (l : List UInt8) (hv : BytesIn w (fun b => b < w.heap.size) v l) (hl : 1000 < l.length) :
    Calls Try.prog 7 #[.int .u8 a, v] w fun e w' => e = .returned (.bool true) ∧ Below w.heap.size w w' := by
  obtain ⟨ao, cap, rfl, _, hm, _, hz⟩ := hv.open_
  have h1 : (1000 : Int) < l.length := by omega
  have h2 : (l.length : Int) ≤ 9223372036854775807 := by unfold maxLen at hm; omega
  clear hv hm hz
  go_enter Try.func7, Try.ntmps7
  go_wp2_with fail
  refine (alive_said _).mono ?_
  rintro e w1 ⟨rfl, hb1⟩
  have HB1 := Lib.hid hb1
  clear hb1
  go_wp2_with fail
  refine (alive_said _).mono ?_
  rintro e w2 ⟨rfl, hb2⟩
  have HB2 := Lib.hid hb2
  clear hb2
  go_wp2_with fail
  go_ret
  exact ⟨rfl, HB1.out.trans (HB2.out.mono HB1.out.size)⟩

/-- Bytes that are all nought. -/
def noughts (n : Nat) : List UInt8 := List.replicate n 0

theorem noughts_bytes (w : World) (g : Tags) (t n : Nat) (hn : n ≤ 1000000000) : Bytes (w.alloc (.cells (madeCells #[.int .u8 0] n) 5)) (g.ext w.heap.size t) t (.slice (some ⟨w.heap.size, 0, none⟩) n n) (noughts n) := by
  have h : madeCells #[.int .u8 0] n = ((noughts n).map byteCell).toArray := by
    rw [madeCells_one]
    simp [noughts, byteCell]
  rw [h]
  exact lit_t g t (noughts n) rfl (by simp [noughts]) (by simp [noughts]; exact hn) rfl _

theorem noughts_len (n : Nat) : (noughts n).length = n := by simp [noughts]

theorem limit_one (n : Nat) : ∀ u ∈ [Value.int .u8 0, .int .u8 ((n : Int) / 65536), .int .u8 ((n : Int) / 256 % 256), .int .u8 ((n : Int) % 256)], u.oneCell' = true := by
  intro u hu; simp only [List.mem_cons, List.not_mem_nil, or_false] at hu; rcases hu with rfl | rfl | rfl | rfl <;> rfl

theorem limit_be4 (n : Nat) (hn : n ≤ 65540) : [Value.int .u8 0, .int .u8 ((n : Int) / 65536), .int .u8 ((n : Int) / 256 % 256), .int .u8 ((n : Int) % 256)] = (Fr.be4 n).map byteCell := by
  simp [Fr.be4, byteCell]
  omega

theorem limit_all {l : List UInt8} {n : Nat} (hl : l.length ≤ 1000) (hn : n ≤ 65536) (hn2 : 1 ≤ n) : Fr.all ([] ++ (Fr.frame l ++ Fr.be4 n)) = ([l], Fr.be4 n, false) := by
  have e : Fr.num4 (Fr.be4 n) = n := by have := Fr.num4_be4 n hn []; rw [List.append_nil] at this; exact this
  rw [List.nil_append, Fr.all_frame l _ (by unfold Fr.most; omega), Fr.all_part (Fr.be4 n) (by simp [Fr.be4]) (by rw [e]; exact hn) (by rw [e]; simp [Fr.be4]; omega)]

theorem limit_broken {l : List UInt8} {n : Nat} (hl : l.length ≤ 1000) (hn : 65536 < n) (hn2 : n ≤ 65540) : Fr.all ([] ++ (Fr.frame l ++ Fr.be4 n)) = ([l], [], true) := by
  have e : Fr.num4 (Fr.be4 n) = n := by simp [Fr.num4, Fr.be4]; omega
  rw [List.nil_append, Fr.all_frame l _ (by unfold Fr.most; omega), Fr.all_great (Fr.be4 n) (by simp [Fr.be4]) (by rw [e]; exact hn)]

theorem limit_last {n : Nat} (hn : n ≤ 65536) : Fr.all (Fr.be4 n ++ noughts n) = ([noughts n], [], false) := by
  have e : Fr.be4 n ++ noughts n = Fr.frame (noughts n) := by rw [Fr.frame, noughts_len]
  have := Fr.all_frame (noughts n) [] (by rw [noughts_len]; exact hn)
  rw [List.append_nil] at this
  rw [e, this]; rfl

theorem frame_src {w : World} {g : Tags} {t : Nat} {v : Value} {l : List UInt8} (h : Bytes w g t v (Fr.frame l)) : Src w 1 v (l.length + 4) ((Fr.frame l).map byteCell) := by
  have := h.src
  rw [Fr.length_frame] at this
  exact this

set_option maxRecDepth 100000 in
set_option maxHeartbeats 4000000 in
theorem limit_fits (w : World) (a : Int) (v : Value) (l : List UInt8) (hv : BytesIn w (fun b => b < w.heap.size) v l) (hl : l.length ≤ 1000) (n : Nat) (ha : 65533 + a % 8 = (n : Int)) (ha0 : 0 ≤ a) (ha1 : a ≤ 255) (hn : n ≤ 65536) :
    Calls Try.prog 7 #[.int .u8 a, v] w fun e w' => e = .returned (.bool true) ∧ Below w.heap.size w w' := by
  obtain ⟨ao, cap, rfl, _, hm, _, hz⟩ := hv.open_
  have h1 : (l.length : Int) ≤ 1000 := by omega
  have h2 : (n : Int) ≤ 65536 := by omega
  have h3 : 65533 ≤ (n : Int) := by omega
  have HB := Lib.hid (limit_be4 n (by omega))
  have C0 := Lib.hid (And.intro (Since.start w) (show Bytes w (fun _ => 0) 0 (.slice ao l.length cap) l from BytesIn.mono hv (fun _ _ _ => rfl)))
  clear hv hm hz hn
  go_enter Try.func7, Try.ntmps7
  go_wp2_with fail
  refine alive_t _ (fun _ => 0) 9 fun w1 g1 T1 => ?_
  have C1 := Lib.hid (And.intro (C0.out.1.turn T1 (by decide)) (C0.out.2.turn T1 (by decide)))
  clear C0 T1
  go_wp2_with (refine wpList_make _ rfl (.tmp 33) (.tmp 33) rfl bytesElem rfl rfl (by omega) (Int.le_refl _) (by omega) (by omega) ?_)
  refine put_t 1 (noughts_bytes w1 g1 1 n (by omega)) (by simp [noughts]; omega) fun gp w2 g2 T2 B2 => ?_
  have C2 := Lib.hid (And.intro ((C1.out.1.turn (Turn.alloc _ _ 1 _) (by decide)).turn T2 (by decide)) (And.intro ((C1.out.2.turn (Turn.alloc _ _ 1 _) (by decide)).turn T2 (by decide)) ((noughts_bytes w1 g1 1 n (by omega)).turn T2 (by decide))))
  clear C1 T2 B2
  go_wp2_with fail
  refine put_t 2 C2.out.2.1 (by omega) fun ga w3 g3 T3 B3 => ?_
  have C3 := Lib.hid (And.intro (C2.out.1.turn T3 (by decide)) (And.intro (C2.out.2.1.turn T3 (by decide)) (And.intro (C2.out.2.2.turn T3 (by decide)) B3)))
  clear C2 T3 B3
  go_wp2_with fail
  refine new_t _ g3 3 fun rb w4 g4 T4 R4 => ?_
  have C4 := Lib.hid (And.intro (C3.out.1.turn T4 (by decide)) (And.intro (C3.out.2.1.turn T4 (by decide)) (And.intro (C3.out.2.2.1.turn T4 (by decide)) (And.intro (C3.out.2.2.2.turn T4 (by decide)) R4))))
  clear C3 T4 R4
  have S4 := Lib.hid (frame_src C4.out.2.2.2.1)
  go_wp2_with (first
    | (refine wpList_append_t _ rfl (.const (.slice none 0 0)) (.tmp 68) rfl bytesElem (g := g4) (tg := 4) rfl (Owns.nil _ _ _ _ _) rfl S4.out (byteCells_one _) (by unfold maxLen; omega) (by omega) ?_; intro a5 c5 w5 g5 O5 T5; rw [Nat.zero_add, List.nil_append] at O5; have X5 := Lib.hid (And.intro O5 T5); clear O5 T5)
    | (refine wpList_append_t _ rfl (.tmp 69) (.tmp 78) rfl bytesElem (g := g5.ext w5.heap.size 5) (tg := 4) rfl (X5.out.1.turn (Turn.alloc _ _ 5 _) (by decide)) rfl (Src.lit _ 5 rfl rfl) (limit_one n) (by unfold maxLen; omega) (by omega) ?_; intro a6 c6 w6 g6 O6 T6; rw [HB.out, ← List.map_append] at O6; have X6 := Lib.hid (And.intro O6.bytes T6); clear O6 T6))
  have C6 := Lib.hid (And.intro (((C4.out.1.turn X5.out.2 (by decide)).turn (Turn.alloc _ _ 5 _) (by decide)).turn X6.out.2 (by decide)) (And.intro (((C4.out.2.1.turn X5.out.2 (by decide)).turn (Turn.alloc _ _ 5 _) (by decide)).turn X6.out.2 (by decide))
    (And.intro (((C4.out.2.2.1.turn X5.out.2 (by decide)).turn (Turn.alloc _ _ 5 _) (by decide)).turn X6.out.2 (by decide)) (And.intro (((C4.out.2.2.2.2.turn X5.out.2 (by decide)).turn (Turn.alloc _ _ 5 _) (by decide)).turn X6.out.2 (by decide)) X6.out.1))))
  clear C4 S4 X5 X6
  refine came_t 6 C6.out.2.2.2.1 C6.out.2.2.2.2 (by simp [Fr.length_frame, Fr.be4]; omega) (fs := [l]) (rest := Fr.be4 n) (k := false) (limit_all hl (by omega) (by omega)) rfl ?_
  intro a7 c7 w7 g7 T7 F7 R7
  obtain ⟨b7, o7, a7', c7', rfl, d7, B7⟩ := F7.one
  have C7 := Lib.hid (And.intro (C6.out.1.turn T7 (by decide)) (And.intro (C6.out.2.1.turn T7 (by decide)) (And.intro (C6.out.2.2.1.turn T7 (by decide)) (And.intro R7 B7))))
  clear C6 T7 F7 R7 B7
  go_wp2_with fail
  refine same_t C7.out.2.2.2.2 C7.out.2.1 fun w8 T8 => ?_
  have C8 := Lib.hid (And.intro (C7.out.1.turn T8 (by decide)) (And.intro (C7.out.2.2.1.turn T8 (by decide)) (C7.out.2.2.2.1.turn T8 (by decide))))
  clear C7 T8 d7
  go_wp2_with fail
  refine came_t 7 C8.out.2.2 C8.out.2.1 (by simp [noughts, Fr.be4]; omega) (fs := [noughts n]) (rest := []) (k := false) (limit_last (by omega)) rfl ?_
  intro a9 c9 w9 g9 T9 F9 R9
  obtain ⟨b9, o9, a9', c9', rfl, d9, B9⟩ := F9.one
  rw [noughts_len] at d9
  have C9 := Lib.hid (And.intro (C8.out.1.turn T9 (by decide)) R9)
  clear C8 T9 F9 R9 B9
  go_wp2_with fail
  refine left_t C9.out.2 ?_
  go_wp2_with fail
  go_ret
  exact ⟨rfl, C9.out.1.below⟩
set_option maxRecDepth 100000 in
set_option maxHeartbeats 4000000 in
theorem limit_over (w : World) (a : Int) (v : Value) (l : List UInt8) (hv : BytesIn w (fun b => b < w.heap.size) v l) (hl : l.length ≤ 1000) (n : Nat) (ha : 65533 + a % 8 = (n : Int)) (ha0 : 0 ≤ a) (ha1 : a ≤ 255) (hn : 65536 < n) :
    Calls Try.prog 7 #[.int .u8 a, v] w fun e w' => e = .returned (.bool true) ∧ Below w.heap.size w w' := by
  obtain ⟨ao, cap, rfl, _, hm, _, hz⟩ := hv.open_
  have h1 : (l.length : Int) ≤ 1000 := by omega
  have h2 : 65537 ≤ (n : Int) := by omega
  have h3 : (n : Int) ≤ 65540 := by omega
  have HB := Lib.hid (limit_be4 n (by omega))
  have C0 := Lib.hid (And.intro (Since.start w) (show Bytes w (fun _ => 0) 0 (.slice ao l.length cap) l from BytesIn.mono hv (fun _ _ _ => rfl)))
  clear hv hm hz hn
  go_enter Try.func7, Try.ntmps7
  go_wp2_with fail
  refine alive_t _ (fun _ => 0) 9 fun w1 g1 T1 => ?_
  have C1 := Lib.hid (And.intro (C0.out.1.turn T1 (by decide)) (C0.out.2.turn T1 (by decide)))
  clear C0 T1
  go_wp2_with (refine wpList_make _ rfl (.tmp 33) (.tmp 33) rfl bytesElem rfl rfl (by omega) (Int.le_refl _) (by omega) (by omega) ?_)
  refine put_refused (noughts_bytes w1 g1 1 n (by omega)) (by rw [noughts_len]; omega) ?_
  have C2 := Lib.hid (And.intro (C1.out.1.turn (Turn.alloc w1 g1 1 (.cells (madeCells #[.int .u8 0] n) 5)) (by decide)) (And.intro (C1.out.2.turn (Turn.alloc w1 g1 1 (.cells (madeCells #[.int .u8 0] n) 5)) (by decide)) (noughts_bytes w1 g1 1 n (by omega))))
  clear C1
  go_wp2_with fail
  refine put_t 2 C2.out.2.1 (by omega) fun ga w3 g3 T3 B3 => ?_
  have C3 := Lib.hid (And.intro (C2.out.1.turn T3 (by decide)) (And.intro (C2.out.2.1.turn T3 (by decide)) (And.intro (C2.out.2.2.turn T3 (by decide)) B3)))
  clear C2 T3 B3
  go_wp2_with fail
  refine new_t _ g3 3 fun rb w4 g4 T4 R4 => ?_
  have C4 := Lib.hid (And.intro (C3.out.1.turn T4 (by decide)) (And.intro (C3.out.2.1.turn T4 (by decide)) (And.intro (C3.out.2.2.1.turn T4 (by decide)) (And.intro (C3.out.2.2.2.turn T4 (by decide)) R4))))
  clear C3 T4 R4
  have S4 := Lib.hid (frame_src C4.out.2.2.2.1)
  go_wp2_with (first
    | (refine wpList_append_t _ rfl (.const (.slice none 0 0)) (.tmp 68) rfl bytesElem (g := g4) (tg := 4) rfl (Owns.nil _ _ _ _ _) rfl S4.out (byteCells_one _) (by unfold maxLen; omega) (by omega) ?_; intro a5 c5 w5 g5 O5 T5; rw [Nat.zero_add, List.nil_append] at O5; have X5 := Lib.hid (And.intro O5 T5); clear O5 T5)
    | (refine wpList_append_t _ rfl (.tmp 69) (.tmp 78) rfl bytesElem (g := g5.ext w5.heap.size 5) (tg := 4) rfl (X5.out.1.turn (Turn.alloc _ _ 5 _) (by decide)) rfl (Src.lit _ 5 rfl rfl) (limit_one n) (by unfold maxLen; omega) (by omega) ?_; intro a6 c6 w6 g6 O6 T6; rw [HB.out, ← List.map_append] at O6; have X6 := Lib.hid (And.intro O6.bytes T6); clear O6 T6))
  have C6 := Lib.hid (And.intro (((C4.out.1.turn X5.out.2 (by decide)).turn (Turn.alloc _ _ 5 _) (by decide)).turn X6.out.2 (by decide)) (And.intro (((C4.out.2.1.turn X5.out.2 (by decide)).turn (Turn.alloc _ _ 5 _) (by decide)).turn X6.out.2 (by decide))
    (And.intro (((C4.out.2.2.1.turn X5.out.2 (by decide)).turn (Turn.alloc _ _ 5 _) (by decide)).turn X6.out.2 (by decide)) (And.intro (((C4.out.2.2.2.2.turn X5.out.2 (by decide)).turn (Turn.alloc _ _ 5 _) (by decide)).turn X6.out.2 (by decide)) X6.out.1))))
  clear C4 S4 X5 X6
  refine came_t 6 C6.out.2.2.2.1 C6.out.2.2.2.2 (by simp [Fr.length_frame, Fr.be4]; omega) (fs := [l]) (rest := []) (k := true) (limit_broken hl (by omega) (by omega)) rfl ?_
  intro a7 c7 w7 g7 T7 F7 R7
  obtain ⟨b7, o7, a7', c7', rfl, d7, B7⟩ := F7.one
  have C7 := Lib.hid (And.intro (C6.out.1.turn T7 (by decide)) (And.intro (C6.out.2.1.turn T7 (by decide)) (And.intro (C6.out.2.2.1.turn T7 (by decide)) (And.intro R7 B7))))
  clear C6 T7 F7 R7 B7
  go_wp2_with fail
  refine same_t C7.out.2.2.2.2 C7.out.2.1 fun w8 T8 => ?_
  have C8 := Lib.hid (And.intro (C7.out.1.turn T8 (by decide)) (And.intro (C7.out.2.2.1.turn T8 (by decide)) (C7.out.2.2.2.1.turn T8 (by decide))))
  clear C7 T8 d7
  go_wp2_with fail
  refine broken_t C8.out.2.2 _ ?_
  go_wp2_with fail
  refine broken_t C8.out.2.2 _ ?_
  go_wp2_with fail
  refine left_t C8.out.2.2 ?_
  go_wp2_with fail
  go_ret
  exact ⟨rfl, C8.out.1.below⟩

theorem limit_any (w : World) (a : Int) (ha : (Lit.int .u8 a).wf = true) (v : Value) (l : List UInt8) (hv : BytesIn w (fun b => b < w.heap.size) v l) :
    Calls Try.prog 7 #[.int .u8 a, v] w fun e w' => e = .returned (.bool true) ∧ Below w.heap.size w w' := by
  have ha0 : 0 ≤ a := by simp [Lit.wf, IntKind.min, IntKind.max, IntKind.signed, IntKind.bits] at ha; omega
  have ha1 : a ≤ 255 := by simp [Lit.wf, IntKind.min, IntKind.max, IntKind.signed, IntKind.bits] at ha; omega
  by_cases h : l.length ≤ 1000
  · have e : 65533 + a % 8 = (((65533 + a % 8).toNat : Nat) : Int) := by omega
    by_cases hn : (65533 + a % 8).toNat ≤ 65536
    · exact limit_fits w a v l hv h _ e ha0 ha1 hn
    · exact limit_over w a v l hv h _ e ha0 ha1 (by omega)
  · exact limit_great w a v l hv (by omega)
end Go.Proofs.Ytolkphbnneoloaa
