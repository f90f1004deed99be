/- Links: what slices.Clone, slices.Grow, slices.Concat (of bytes) and links.packet compute. -/
import Derived.Test.YtoedalocfepkoaaGreatDoorRows
import Derived.Test.YtoedalocfepkoaaGreatDoorArgs
import Derived.Test.YtoedalocfepkoaaGreatDoorLiPlain
import Derived.Lib.AppendZerosOnto
import Derived.Lib.SliceRun
import Derived.Lib.Walk
namespace Go.Proofs.YtoedalocfepkoaaGreatDoor
open Go.RowKit Go.My

theorem bytesElem : Elem Tryz.prog 42 5 1 1 (.int .u8 0) := Elem.mk' Tryz.underlying42 (by kernel_rfl) rfl (by decide)

theorem Owns.lit (w : World) (g : Tags) (t : Nat) (e : TypeId) : Owns (w.alloc (.cells #[] e)) (g.ext w.heap.size t) t e 1 (.slice (some ⟨w.heap.size, 0, none⟩) 0 0) 0 [] :=
  ⟨some w.heap.size, ⟨rfl, .inr ⟨w.heap.size, 0, 0, #[], rfl, rfl, _root_.Go.heap_alloc_new w _, Nat.le_refl _, Nat.zero_le _, Nat.zero_le _, rfl⟩⟩, fun b hb => by cases hb; exact Tags.ext_new _ _ _ _ (Nat.le_refl _)⟩

theorem src_alloc {w : World} {size : Nat} {v : Value} {n : Nat} {xs : List Value} (h : Go.My.Src w size v n xs) (o : Obj) : Go.My.Src (w.alloc o) size v n xs := by
  obtain ⟨h1, h2⟩ := h
  refine ⟨h1, ?_⟩
  rcases h2 with h2 | ⟨ad, c, h3, h4⟩
  · exact .inl h2
  · exact .inr ⟨ad, c, h3, fun j u hu => (World.cell?_of_block (Below.heap_alloc w o _ (World.block_lt_of_cell? w _ (h4 j u hu)))).trans (h4 j u hu)⟩

set_option maxHeartbeats 1000000 in
theorem clone_t {w : World} {g : Tags} {tv : Nat} (t : Nat) {v : Value} {l : List UInt8} (hv : Bytes w g tv v l) (hl : l.length ≤ 1000000000) {Q : Ending → World → Prop}
    (h : ∀ ao cap w' g', Turn w g w' g' [t] → Owns w' g' t 5 1 (.slice ao l.length cap) l.length (l.map byteCell) → Q (.returned (.slice ao l.length cap)) w') : Calls Tryz.prog 22 #[v] w Q := by
  obtain ⟨ao, cap, rfl, h1, h2, h0, hb⟩ := BytesIn.open_ hv
  have HS := Lib.hid hv.src
  have H := Lib.hid h
  cases ao with
  | none =>
    have hc := h0 rfl
    have hl0 : l = [] := List.eq_nil_of_length_eq_zero (by omega)
    subst hl0
    subst hc
    clear hb h0 h hv h1 h2
    have hnil := fun wx => Lib.run_eql_slice_nil (P := Tryz.prog) wx 42 5 none 0 0 0 0 Tryz.underlying42
    go_enter Tryz.func22, Tryz.ntmps22
    go_wp2
    exact H.out none 0 w g (Turn.refl _ _ _) (Owns.nil _ _ _ _ _)
  | some ad =>
    clear hb h0 h hv h1 h2
    have hnil := fun wx => Lib.run_eql_slice_nil (P := Tryz.prog) wx 42 5 (some ad) l.length cap 0 0 Tryz.underlying42
    go_enter Tryz.func22, Tryz.ntmps22
    go_wp2_with (refine wpList_append_t _ rfl (.tmp 5) (.tmp 6) rfl bytesElem (g := g.ext w.heap.size t) (tg := t) rfl (Owns.lit w g t _) rfl (src_alloc HS.out _) (byteCells_one _) (by unfold maxLen; omega) (by omega) ?_; intro a5 c5 w5 g5 O5 T5; rw [Nat.zero_add, List.nil_append] at O5; have X5 := Lib.hid (And.intro O5 T5); clear O5 T5)
    exact H.out a5 c5 w5 g5 ((Turn.alloc w g t _).trans X5.out.2 (by simp) (by simp)) X5.out.1

theorem grown_owns {w : World} {g : Tags} {t n G : Nat} (hG : n ≤ G) (hm : G ≤ maxLen) :
    Owns (w.alloc (.cells (Builtin.zeroCells #[Value.int .u8 0] n ++ Builtin.zeroCells #[Value.int .u8 0] (G - n)) 5)).drew (g.ext w.heap.size t) t 5 1 (.slice (some ⟨w.heap.size, 0, none⟩) 0 G) 0 [] := by
  refine ⟨some w.heap.size, ⟨rfl, .inr ⟨w.heap.size, 0, G, _, rfl, rfl, _root_.Go.heap_alloc_new w _, Nat.zero_le _, hm, ?_, by simp⟩⟩, fun b hb => by cases hb; exact Tags.ext_new _ _ _ _ (Nat.le_refl _)⟩
  simp only [Array.size_append, size_zeroCells]
  simp
  omega

theorem info_u8 : ∃ i0, Tryz.prog.info? 5 = some i0 ∧ i0.zero = some (.int .u8 0) ∧ i0.size = 1 ∧ i0.bytes = 1 := bytesElem.info

set_option maxHeartbeats 1000000 in
theorem sgrow_t {w : World} {g : Tags} (t n : Nat) (hn : n ≤ 1000000000) {Q : Ending → World → Prop}
    (h : ∀ ao cap w' g', Turn w g w' g' [t] → Owns w' g' t 5 1 (.slice ao 0 cap) 0 [] → Q (.returned (.slice ao 0 cap)) w') : Calls Tryz.prog 93 #[.slice none 0 0, .int .i64 (n : Int)] w Q := by
  have H := Lib.hid h
  clear h
  rcases Nat.eq_zero_or_pos n with hz | hz
  · subst hz
    go_enter Tryz.func93, Tryz.ntmps93
    go_wp2
    exact H.out none 0 w g (Turn.refl _ _ _) (Owns.nil _ _ _ _ _)
  · obtain ⟨i0, hi0, hz0, hs0, hb0⟩ := info_u8
    have hold : (Builtin.firstCells i0.size 0 (.slice none 0 0)).run Tryz.prog w.drew = .ok ([] : List Value).toArray w.drew := run_firstCells_none w.drew i0.size 0 0 0
    have hGn : n ≤ grownCap w n 0 5 := grownCap_ge w _ _ _
    have hG63 : grownCap w n 0 5 ≤ maxLen := grownCap_le_maxLen w n 0 5 (by unfold maxLen; omega)
    have hrz : ∀ ty, (Builtin.append_ #[42, 3] ty #[.slice none 0 0, .int .i64 (n : Int)]).run Tryz.prog w =
        .ok (.slice (some ⟨w.heap.size, 0, none⟩) n (grownCap w n 0 5)) (w.drew.alloc (.cells (([] : List Value).toArray ++ Builtin.zeroCells (Value.int .u8 0).cells n ++ Builtin.zeroCells (Value.int .u8 0).cells (grownCap w n 0 5 - n)) 5)) := fun ty => by
      have h := Lib.run_append_grow_zeros w 42 3 ty 5 i0 (.int .u8 0) .i64 .i64 Tryz.underlying42 Tryz.underlying3 hi0 hz0 none 0 0 [] hold n (by omega) (by omega) (by omega) (by omega)
        (by rw [hb0]; omega) (by rw [Nat.zero_add]; exact growslice_fits (by omega) (by rw [hb0]; omega))
      simpa only [Nat.zero_add] using h
    obtain ⟨G, hG⟩ : ∃ G, G = grownCap w n 0 5 := ⟨_, rfl⟩
    rw [← hG] at hrz hGn hG63
    have HO := Lib.hid (grown_owns (w := w) (g := g) (t := t) hGn hG63)
    have hG2 : (G : Int) ≤ 9223372036854775807 := by unfold maxLen at hG63; omega
    have hn0 : (0 : Int) < (n : Int) := by omega
    have hn1 : (n : Int) ≤ 1000000000 := by omega
    clear hold hG hG63 hi0 hz0 hs0 hb0 hz hn
    go_enter Tryz.func93, Tryz.ntmps93
    go_wp2_with (at_builtin; refine Lib.wpList_append_run _ rfl _ _ _ _ rfl _ _ rfl rfl _ _ (hrz _) ?_)
    exact H.out _ _ _ _ (((Turn.alloc w g t _).trans (Turn.drew _ _) (V := [t]) (by simp) (by simp))) HO.out

/-- All bytes, one behind the other. -/
theorem sum_flat (ls : List (List UInt8)) : ls.flatten.length = (ls.map List.length).sum := by
  induction ls with
  | nil => rfl
  | cons l ls ih => simp [ih]

theorem flat_take (ls : List (List UInt8)) (k : Nat) (h : k < ls.length) : (ls.take (k + 1)).flatten = (ls.take k).flatten ++ ls[k] := by
  rw [List.take_succ_eq_append_getElem h, List.flatten_append]; simp

theorem flat_take_le (ls : List (List UInt8)) (k : Nat) : (ls.take k).flatten.length ≤ ls.flatten.length := by
  conv => rhs; rw [← List.take_append_drop k ls, List.flatten_append, List.length_append]
  omega

def ConcatAt1 (ls : List (List UInt8)) (w : World) (gk : Nat) (vn vi : Value) (wr : World) : Prop :=
  ∃ k n : Nat, k ≤ ls.length ∧ gk = ls.length - k ∧ vi = .int .i64 (k : Int) ∧ vn = .int .i64 (n : Int) ∧ n = (ls.take k).flatten.length ∧ wr = w

def ConcatAt2 (ls : List (List UInt8)) (w : World) (g : Tags) (t : Nat) (gk : Nat) (vo vi : Value) (wr : World) : Prop :=
  ∃ k n ao cap gr, k ≤ ls.length ∧ gk = ls.length - k ∧ vi = .int .i64 (k : Int) ∧ vo = .slice ao n cap ∧ n = (ls.take k).flatten.length ∧ Owns wr gr t 5 1 (.slice ao n cap) n ((ls.take k).flatten.map byteCell) ∧ Turn w g wr gr [t]

theorem FramesIn.turnOf {w w' : World} {g g' : Tags} {T : List Nat} {S : Nat → Prop} {v : Value} {ls : List (List UInt8)} (h : FramesIn w (fun b => S (g b)) v ls) (k : Turn w g w' g' T) (ht : ∀ t, t ∈ T → ¬ S t) : FramesIn w' (fun b => S (g' b)) v ls :=
  (FramesIn.mono h (fun b hb hs => by rw [k.old b hb]; exact hs)).frame fun b hb hlt => k.block b hlt (fun hm => ht _ hm (by rw [← k.old b hlt]; exact hb))

theorem concat_end {w w' : World} {g g' : Tags} {t n cap : Nat} {ao : Option Addr} {l : List UInt8} {Q : Ending → World → Prop} (hn : n = l.length) (ho : Owns w' g' t 5 1 (.slice ao n cap) n (l.map byteCell)) (hT : Turn w g w' g' [t])
    (h : ∀ ao cap w' g', Turn w g w' g' [t] → Owns w' g' t 5 1 (.slice ao l.length cap) l.length (l.map byteCell) → Q (.returned (.slice ao l.length cap)) w') : Q (.returned (.slice ao n cap)) w' := by
  subst hn
  exact h ao cap w' g' hT ho

set_option maxHeartbeats 2000000 in
theorem concat_t {w : World} {g : Tags} (S : Nat → Prop) (t : Nat) {v : Value} {ls : List (List UInt8)} (hv : FramesIn w (fun b => S (g b)) v ls) (ht : ¬ S t) (hl : ls.flatten.length ≤ 1000000000) (hl2 : ls.length ≤ 1000000000) {m : Nat} (hm : m = ls.flatten.length) {Q : Ending → World → Prop}
    (h0 : ∀ ao cap w' g', Turn w g w' g' [t] → Owns w' g' t 5 1 (.slice ao m cap) m (ls.flatten.map byteCell) → Q (.returned (.slice ao m cap)) w') : Calls Tryz.prog 68 #[v] w Q := by
  obtain ⟨ao, cap, rfl, _, _, _, hb⟩ := FramesIn.open_ hv
  have h : ∀ ao cap w' g', Turn w g w' g' [t] → Owns w' g' t 5 1 (.slice ao ls.flatten.length cap) ls.flatten.length (ls.flatten.map byteCell) → Q (.returned (.slice ao ls.flatten.length cap)) w' := by rw [hm] at h0; exact h0
  have HV := Lib.hid hv
  have HB := Lib.hid hb
  have H := Lib.hid h
  clear hb hv h h0 hm
  have hm2 : (ls.length : Int) ≤ 1000000000 := by omega
  go_enter Tryz.func68, Tryz.ntmps68
  go_wp2
  go_loopg [3, 11] (ls.length) (fun gk vn vi wr => ConcatAt1 ls w gk vn vi wr)
  case atStart => exact ⟨0, 0, Nat.zero_le _, rfl, rfl, rfl, by simp, rfl⟩
  case round =>
    obtain ⟨k, n, hk, rfl, rfl, rfl, hn, rfl⟩ := hrel
    have hn2 : (n : Int) ≤ 1000000000 := by have := flat_take_le ls k; omega
    have HN := Lib.hid hn
    clear hn
    have i0 : (0 : Int) ≤ (k : Int) := by omega
    by_cases hlt : k < ls.length
    · have i1 : (k : Int) < (ls.length : Int) := by omega
      obtain ⟨b, off, rfl, _, hc⟩ := HB.out (by omega)
      obtain ⟨u, c1, hu⟩ := hc k hlt
      obtain ⟨ua, uc, rfl, _⟩ := BytesIn.open_ hu
      have hq := flat_take_le ls (k + 1)
      rw [flat_take ls k hlt, List.length_append, ← HN.out] at hq
      have hq2 : (n : Int) + ((ls[k]).length : Int) ≤ 1000000000 := by omega
      clear hc hu hq
      go_wp2_with fail
      go_roundg (ls.length - (k + 1))
      case measure => omega
      case rel => exact ⟨k + 1, n + (ls[k]).length, by omega, rfl, by go_num, by go_num, by rw [flat_take ls k hlt, List.length_append, ← HN.out], rfl⟩
    · obtain rfl : k = ls.length := by omega
      rw [List.take_length] at HN
      have hn0 : (0 : Int) ≤ (n : Int) := by omega
      go_wp2_with fail
      refine sgrow_t (g := g) t n (by omega) fun a1 c1 w1 g1 T1 O1 => ?_
      have HO := Lib.hid (And.intro O1 T1)
      clear O1 T1
      go_wp2_with fail
      go_loopg [6, 27] (ls.length) (fun gk vo vi wr' => ConcatAt2 ls wr g t gk vo vi wr')
      case atStart => exact ⟨0, 0, a1, c1, g1, Nat.zero_le _, rfl, rfl, rfl, by simp, by simpa using HO.out.1, HO.out.2⟩
      case round =>
        rename_i w9 _
        obtain ⟨k, m, a0, c0, gr, hk, rfl, rfl, rfl, hn, ho, hT⟩ := hrel
        have HM := Lib.hid (And.intro hn (And.intro ho hT))
        clear hn ho hT HO
        have i0 : (0 : Int) ≤ (k : Int) := by omega
        by_cases hlt : k < ls.length
        · have i1 : (k : Int) < (ls.length : Int) := by omega
          have HF := Lib.hid (FramesIn.turnOf HV.out HM.out.2.2 (by intro t' h' hs; rw [List.mem_singleton.1 h'] at hs; exact ht hs))
          obtain ⟨b, off, rfl, _, hc⟩ := FramesIn.cells HF.out (by omega)
          obtain ⟨u, c1', hu⟩ := hc k hlt
          have HU := Lib.hid (BytesIn.src hu)
          have hq := flat_take_le ls (k + 1)
          rw [flat_take ls k hlt, List.length_append, ← HM.out.1] at hq
          clear hc hu
          go_wp2_with (refine wpList_append_t _ rfl (.tmp 31) (.tmp 32) rfl bytesElem (g := gr) (tg := t) rfl HM.out.2.1 rfl HU.out (byteCells_one _) (by unfold maxLen; omega) (by omega) ?_; intro a2 c2 w2 g2 O2 T2; rw [← List.map_append, ← flat_take ls k hlt] at O2; have X2 := Lib.hid (And.intro O2 (HM.out.2.2.trans T2 (V := [t]) (by simp) (by simp))); clear O2 T2)
          go_roundg (ls.length - (k + 1))
          case measure => omega
          case rel => exact ⟨k + 1, m + (ls[k]).length, a2, c2, g2, by omega, rfl, by go_num, rfl, by rw [flat_take ls k hlt, List.length_append, ← HM.out.1], X2.out.1, X2.out.2⟩
        · obtain rfl : k = ls.length := by omega
          rw [List.take_length] at HM
          have HH := Lib.hid (concat_end HM.out.1 HM.out.2.1 HM.out.2.2 H.out)
          go_wp2_with fail
          exact HH.out

theorem frames_lit2 {w : World} {g : Tags} (c t0 t1 : Nat) {u0 u1 : Value} {l0 l1 : List UInt8} (h0 : Bytes w g t0 u0 l0) (h1 : Bytes w g t1 u1 l1) (e : TypeId) (fr : Nat × Nat) {k : Nat} (hk : k = w.heap.size) :
    FramesIn (w.alloc (.cells #[u0, u1] e fr)) (fun b => (fun t => t = c ∨ t = t0 ∨ t = t1) (g.ext w.heap.size c b)) (.slice (some ⟨k, 0, none⟩) 2 2) [l0, l1] := by
  subst hk
  have T := Turn.alloc w g c (.cells #[u0, u1] e fr)
  refine ⟨[u0, u1], ⟨some ⟨w.heap.size, 0, none⟩, 2, rfl, Nat.le_refl _, by decide, (fun e => by cases e), fun _ => ⟨w.heap.size, 0, rfl, .inl (Tags.ext_new _ _ _ _ (Nat.le_refl _)), fun j u hu => ?_⟩⟩, rfl, fun j a b => ?_⟩
  · rw [cell_of_row _ w.heap.size (0 + j) _ e fr (_root_.Go.heap_alloc_new w _), ← hu]; simp
  · match j, a with
    | 0, _ => exact BytesIn.mono (h0.turn T (by simp)) (fun _ _ h => .inr (.inl h))
    | 1, _ => exact BytesIn.mono (h1.turn T (by simp)) (fun _ _ h => .inr (.inr h))

theorem lit_bytes (w : World) {k : Nat} {n : Nat} (l : List UInt8) (hk : k = w.heap.size) (hn : n = l.length) (hm : l.length ≤ 1000000000) (o : Array Value) (ho : o = (l.map byteCell).toArray) (fr : Nat × Nat) :
    BytesIn (w.alloc (.cells o 5 fr)) (fun b => b = k) (.slice (some ⟨k, 0, none⟩) n n) l := by
  subst hk; subst ho; subst hn
  refine ⟨some ⟨w.heap.size, 0, none⟩, l.length, by rw [List.length_map], by simp, by unfold maxLen; omega, (fun e => by cases e), fun _ => ⟨w.heap.size, 0, rfl, rfl, fun i u hi => ?_⟩⟩
  rw [cell_of_row _ w.heap.size (0 + i) _ 5 fr (_root_.Go.heap_alloc_new w _), ← hi]; simp

theorem lit_t {w : World} (g : Tags) (t : Nat) {k n : Nat} (l : List UInt8) (hk : k = w.heap.size) (hn : n = l.length) (hm : l.length ≤ 1000000000) {o : Array Value} (ho : o = (l.map byteCell).toArray) (fr : Nat × Nat) :
    Bytes (w.alloc (.cells o 5 fr)) (g.ext w.heap.size t) t (.slice (some ⟨k, 0, none⟩) n n) l :=
  BytesIn.mono (lit_bytes w l hk hn hm o ho fr) fun b _ hb => by subst hb; subst hk; exact Tags.ext_new _ _ _ _ (Nat.le_refl _)

theorem packet_cells (kind : UInt8) (n : Nat) (hn : n < 4294967296) : #[Value.int .u8 (kind.toNat : Int), .int .u8 ((n : Int) / 16777216), .int .u8 ((n : Int) / 65536 % 256), .int .u8 ((n : Int) / 256 % 256), .int .u8 ((n : Int) % 256)] = ((kind :: Li.be4 n).map byteCell).toArray := by
  simp [Li.be4, byteCell]
  omega

theorem packet_two {w : World} {g : Tags} {tv : Nat} {kind : UInt8} {n : Nat} {v : Value} {more : List UInt8} (hv : Bytes w g tv v more) {o : Array Value} (ho : o = ((kind :: Li.be4 n).map byteCell).toArray) :
    FramesIn ((w.alloc (.cells o 5)).alloc (.cells #[.slice (some ⟨w.heap.size, 0, none⟩) 5 5, v] 42)) (fun b => (fun x => x = 1000 ∨ x = 1000 ∨ x = tv) (((g.ext w.heap.size 1000).ext (w.heap.size + 1) 1000) b)) (.slice (some ⟨w.heap.size + 1, 0, none⟩) 2 2) [kind :: Li.be4 n, more] := by
  have h0 := lit_t (w := w) g 1000 (k := w.heap.size) (n := 5) (kind :: Li.be4 n) rfl (by simp [Li.be4]) (by simp [Li.be4]) ho (0, 0)
  have h1 := hv.turn (Turn.alloc w g 1000 (.cells o 5)) (by simp)
  have h2 := frames_lit2 1000 1000 tv h0 h1 42 (0, 0) (k := w.heap.size + 1) (by simp)
  simpa using h2

theorem packet_end {w w1 : World} {g g1 : Tags} {t : Nat} {A B : Obj} {kind : UInt8} {n : Nat} {more : List UInt8} {ao : Option Addr} {cap : Nat} (hT : Turn ((w.alloc A).alloc B) ((g.ext w.heap.size 1000).ext (w.heap.size + 1) 1000) w1 g1 [t])
    (hO : Owns w1 g1 t 5 1 (.slice ao (more.length + 5) cap) (more.length + 5) ([kind :: Li.be4 n, more].flatten.map byteCell)) :
    Turn w g w1 g1 [t] ∧ Owns w1 g1 t 5 1 (.slice ao (more.length + 5) cap) (more.length + 5) ((Li.packet kind n more).map byteCell) := by
  have e : [kind :: Li.be4 n, more].flatten = Li.packet kind n more := by simp [Li.packet]
  rw [e] at hO
  refine ⟨?_, hO⟩
  have T1 := Turn.alloc w g 1000 A
  have T2 := Turn.alloc (w.alloc A) (g.ext w.heap.size 1000) 1000 B
  have e2 : (w.alloc A).heap.size = w.heap.size + 1 := by simp
  rw [e2] at T2
  exact (T1.trans T2 (V := [t]) (by simp) (by simp)).trans hT (by simp) (by simp)

set_option maxHeartbeats 2000000 in
theorem packet_t {w : World} {g : Tags} {tv : Nat} (t : Nat) (kind : UInt8) (n : Nat) (hn : n < 4294967296) {v : Value} {more : List UInt8} (hv : Bytes w g tv v more) (ht : tv ≠ t) (ht2 : t ≠ 1000) (hl : more.length ≤ 1000000) {kd : Int} (hkd : kd = (kind.toNat : Int)) {Q : Ending → World → Prop}
    (h : ∀ ao cap w' g', Turn w g w' g' [t] → Owns w' g' t 5 1 (.slice ao (more.length + 5) cap) (more.length + 5) ((Li.packet kind n more).map byteCell) → Q (.returned (.slice ao (more.length + 5) cap)) w') : Calls Tryz.prog 25 #[.int .u8 kd, .int .u32 (n : Int), v] w Q := by
  obtain ⟨mo, mc, rfl, _⟩ := BytesIn.open_ hv
  have HV := Lib.hid hv
  have H := Lib.hid h
  have HC := Lib.hid (packet_cells kind n hn)
  subst hkd
  have n0 : (0 : Int) ≤ (n : Int) := by omega
  have n1 : (n : Int) ≤ 4294967295 := by omega
  clear hv h hn
  go_enter Tryz.func25, Tryz.ntmps25
  go_wp2_with fail
  refine concat_t (g := (g.ext w.heap.size 1000).ext (w.heap.size + 1) 1000) (fun x => x = 1000 ∨ x = 1000 ∨ x = tv) t (packet_two HV.out HC.out) (fun h => h.elim ht2 (fun h => h.elim ht2 (fun h => ht h.symm))) (by simp [Li.be4] <;> omega) (by simp) (m := more.length + 5) (by simp [Li.be4] <;> omega) fun ao cap w1 g1 T1 O1 => ?_
  have HO := Lib.hid (packet_end T1 O1)
  clear T1 O1
  go_wp2_with fail
  exact H.out _ _ _ _ HO.out.1 HO.out.2

/-! ### The same, where nothing that was there has turned -/
theorem bytes_plain {w : World} {g : Tags} {tv : Nat} {v : Value} {l : List UInt8} (h : Bytes w g tv v l) : Bytes w (fun _ => 0) 0 v l := BytesIn.mono h fun _ _ _ => rfl

theorem fresh_of {w w' : World} {g0 : Tags} (g : Tags) (t : Nat) {e : TypeId} {size : Nat} {v : Value} {n : Nat} {xs : List Value} (hT : Turn w (fun _ => 0) w' g0 [1]) (hO : Owns w' g0 1 e size v n xs) :
    Turn w g w' (g.ext w.heap.size t) [] ∧ Owns w' (g.ext w.heap.size t) t e size v n xs := by
  refine ⟨⟨hT.os, hT.tape, hT.output, hT.size, fun b hb => Tags.ext_old _ _ _ _ hb, fun b hb _ => hT.block b hb (by decide)⟩, ?_⟩
  obtain ⟨k, ho, hk⟩ := hO
  refine ⟨k, ho, fun b hb => Tags.ext_new _ _ _ _ ?_⟩
  rcases Nat.lt_or_ge b w.heap.size with h | h
  · have h1 := hT.old b h
    rw [hk b hb] at h1
    cases h1
  · exact h

theorem clone_f {w : World} {g : Tags} {tv : Nat} (t : Nat) {v : Value} {l : List UInt8} (hv : Bytes w g tv v l) (hl : l.length ≤ 1000000000) {Q : Ending → World → Prop}
    (h : ∀ ao cap w' g', Turn w g w' g' [] → Owns w' g' t 5 1 (.slice ao l.length cap) l.length (l.map byteCell) → Q (.returned (.slice ao l.length cap)) w') : Calls Tryz.prog 22 #[v] w Q :=
  clone_t 1 (bytes_plain hv) hl fun ao cap w' _ hT hO => h ao cap w' _ (fresh_of g t hT hO).1 (fresh_of g t hT hO).2

theorem packet_f {w : World} {g : Tags} {tv : Nat} (t : Nat) (kind : UInt8) (n : Nat) (hn : n < 4294967296) {v : Value} {more : List UInt8} (hv : Bytes w g tv v more) (hl : more.length ≤ 1000000) {kd : Int} (hkd : kd = (kind.toNat : Int)) {Q : Ending → World → Prop}
    (h : ∀ ao cap w' g', Turn w g w' g' [] → Owns w' g' t 5 1 (.slice ao (more.length + 5) cap) (more.length + 5) ((Li.packet kind n more).map byteCell) → Q (.returned (.slice ao (more.length + 5) cap)) w') : Calls Tryz.prog 25 #[.int .u8 kd, .int .u32 (n : Int), v] w Q :=
  packet_t 1 kind n hn (bytes_plain hv) (by decide) (by decide) hl hkd fun ao cap w' _ hT hO => h ao cap w' _ (fresh_of g t hT hO).1 (fresh_of g t hT hO).2
end Go.Proofs.YtoedalocfepkoaaGreatDoor
