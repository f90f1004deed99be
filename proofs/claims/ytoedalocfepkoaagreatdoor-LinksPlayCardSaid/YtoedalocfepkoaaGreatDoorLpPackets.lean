/- Links: Packets, and the function in it. -/
import Derived.Test.YtoedalocfepkoaaGreatDoorLpCame3
namespace Go.Li
theorem datas_snoc (first : Nat) : ∀ (l : List (List UInt8)) (i : Nat) (b : List UInt8), datas first i (l ++ [b]) = datas first i l ++ [packet 68 ((first + (i + l.length)) % M) b] := by
  intro l
  induction l with
  | nil => intro i b; simp [datas]
  | cons x l ih => intro i b; simp only [List.cons_append, datas, ih]; simp; congr 2; omega
theorem datas_length (first : Nat) : ∀ (l : List (List UInt8)) (i : Nat), (datas first i l).length = l.length := by
  intro l
  induction l with
  | nil => intro i; rfl
  | cons x l ih => intro i; simp [datas, ih]
end Go.Li
namespace Go.Proofs.YtoedalocfepkoaaGreatDoor
open Go.RowKit Go.My

/-- The result's own cell. -/
def Boxed (w : World) (g : Tags) (lb : Nat) (v : Value) : Prop := w.heap[lb]? = some (.cells #[v] 48 (0, 0)) ∧ g lb = 951

theorem Boxed.turn {w w' : World} {g g' : Tags} {T : List Nat} {lb : Nat} {v : Value} (h : Boxed w g lb v) (k : Turn w g w' g' T) (ht : 951 ∉ T) : Boxed w' g' lb v := by
  have hlt : lb < w.heap.size := (Array.getElem?_eq_some_iff.1 h.1).1
  exact ⟨(k.block lb hlt (by rw [h.2]; exact ht)).trans h.1, (k.old lb hlt).trans h.2⟩
theorem Boxed.cell {w : World} {g : Tags} {lb : Nat} {v : Value} (h : Boxed w g lb v) : w.cell? ⟨lb, 0, none⟩ = some v ∧ w.frozen? ⟨lb, 0, none⟩ = false :=
  ⟨by rw [cell_of_row w lb _ _ _ _ h.1]; rfl, frozen_of_row w lb _ _ _ h.1⟩
theorem Boxed.store {w : World} {g : Tags} {lb : Nat} {v u : Value} (h : Boxed w g lb v) : Turn w g (w.setCell ⟨lb, 0, none⟩ u) g [951] ∧ Boxed (w.setCell ⟨lb, 0, none⟩ u) g lb u :=
  ⟨Turn.store w g _ u h.2, _root_.Go.heap_setCell_same w lb 0 _ _ u h.1, h.2⟩

theorem tell_end {w1 w2 : World} {g1 g2 : Tags} {lb tl : Nat} {tp : Nat → Nat} {lv v2 : Value} {ls : List (List UInt8)} {o : Obj} (hB : Boxed w1 g1 lb lv) (hL : Lists w2 g2 tl tp v2 ls) (hT : Turn (w1.alloc o) (g1.ext w1.heap.size 1000) w2 g2 [tl]) (h1 : tl ≠ 951) (h2 : ∀ j, tp j ≠ 951) :
    (w2.cell? ⟨lb, 0, none⟩ = some lv ∧ w2.frozen? ⟨lb, 0, none⟩ = false) ∧ Turn w1 g1 (w2.setCell ⟨lb, 0, none⟩ v2) g2 [tl, 951] ∧ Boxed (w2.setCell ⟨lb, 0, none⟩ v2) g2 lb v2 ∧ Lists (w2.setCell ⟨lb, 0, none⟩ v2) g2 tl tp v2 ls := by
  have T := (Turn.alloc w1 g1 1000 o).trans hT (V := [tl]) (by simp) (by simp)
  have hB2 := hB.turn T (by simpa using Ne.symm h1)
  obtain ⟨T3, hB3⟩ := hB2.store (u := v2)
  exact ⟨hB2.cell, T.trans T3 (by simp) (by simp), hB3, hL.turn T3 (by simpa using h1) (fun j => by simpa using h2 j)⟩

set_option maxHeartbeats 2000000 in
theorem tell_t {w : World} {g : Tags} {lb : Nat} {tl tv : Nat} {tp : Nat → Nat} {lv : Value} {ls : List (List UInt8)} (hB : Boxed w g lb lv) (hL : Lists w g tl tp lv ls) (kind : UInt8) (n : Nat) (hn : n < 4294967296) {v : Value} {more : List UInt8} (hv : Bytes w g tv v more) (hl : more.length ≤ 1000000) (hls : ls.length ≤ 1000000)
    (h1 : tl ≠ 951) (h2 : ∀ j, tp j ≠ 951) (h3 : ∀ j, tp j ≠ tl) {kd : Int} (hkd : kd = (kind.toNat : Int)) {Q : Ending → World → Prop}
    (h : ∀ ao cap w' g', Turn w g w' g' [tl, 951] → Boxed w' g' lb (.slice ao (ls.length + 1) cap) → Lists w' g' tl tp (.slice ao (ls.length + 1) cap) (ls ++ [Li.packet kind n more]) → Q (.returned (.tuple #[])) w') :
    Calls Tryz.prog 24 #[.int .u8 kd, .int .u32 (n : Int), v, .pointer (some ⟨lb, 0, none⟩)] w Q := by
  obtain ⟨ao, cap, rfl⟩ := bytes_form hv
  obtain ⟨la, lc, rfl⟩ := hL.form
  have hm : ls.length + 1 ≤ 1000000000 := by omega
  obtain ⟨c0, c1⟩ := hB.cell
  have HV := Lib.hid hv
  have HB := Lib.hid hB
  have HL := Lib.hid hL
  have H := Lib.hid h
  have HK := Lib.hid hkd
  clear hv hB hL h hkd
  go_enter Tryz.func24, Tryz.ntmps24
  go_wp2_with fail
  go_region_law (first
    | (go_simp; go_at_call 25; refine packet_f (tp ls.length) kind n hn (HV.out.turn (Turn.drew w g) List.not_mem_nil) hl HK.out ?_; intro a1 b1 w1 g1 T1 O1; have X1 := Lib.hid (And.intro O1 (((Turn.drew w g).trans T1 (V := []) (by simp) (by simp)))); clear O1 T1; have e0 := (HB.out.turn X1.out.2 List.not_mem_nil).cell.1; have e0' := fun o => ((HB.out.turn X1.out.2 List.not_mem_nil).turn (Turn.alloc w1 g1 1000 o) List.not_mem_nil).cell.1)
    | (refine step_lists_one rfl (.tmp 7) (.tmp 12) rfl (g := g1.ext w1.heap.size 1000) (t := tl) (t' := tp) rfl ((HL.out.turn X1.out.2 List.not_mem_nil (fun _ => List.not_mem_nil)).turn (Turn.alloc w1 g1 1000 _) List.not_mem_nil (fun _ => List.not_mem_nil)) rfl rfl (X1.out.1.turn (Turn.alloc w1 g1 1000 _) List.not_mem_nil) h3 hm ?_; intro a2 c2 w2 g2 L2 T2; have X2 := Lib.hid (tell_end (HB.out.turn X1.out.2 List.not_mem_nil) L2 T2 h1 h2); clear L2 T2; obtain ⟨e1, e2⟩ := X2.out.1))
  all_goals (go_wp2_with fail; go_end0; exact H.out _ _ _ _ (X1.out.2.trans X2.out.2.1 (by simp) (by simp)) X2.out.2.2.1 X2.out.2.2.2)

theorem lists_cells {w : World} {g : Tags} {t : Nat} {t' : Nat → Nat} {ao : Option Addr} {n cap : Nat} {ls : List (List UInt8)} (h : Lists w g t t' (.slice ao n cap) ls) (hl : 0 < ls.length) :
    ∃ b off, ao = some ⟨b, off, none⟩ ∧ ∀ j (hj : j < ls.length), ∃ u, w.cell? ⟨b, off + j, none⟩ = some u ∧ Bytes w g (t' j) u ls[j] := by
  obtain ⟨us, h1, h2, h3⟩ := h
  obtain ⟨a, c, e, _, _, _, hx⟩ := h1.row
  cases e
  obtain ⟨b, off, e, _, hc⟩ := hx (fun e => by rw [e] at h2; simp at h2; omega)
  exact ⟨b, off, e, fun j hj => ⟨us[j]'(by omega), hc j _ (by rw [List.getElem?_eq_getElem]), (h3 j (by omega) hj).bytes⟩⟩

/-- What Packets says. -/
def PacketsSaid (w : World) (g : Tags) (t eb tl : Nat) (tp : Nat → Nat) (s : Li.St) (q : Nat) (e : Ending) (w' : World) : Prop :=
  ∃ ao cap g', e = .returned (.slice ao (Li.packets s).length cap) ∧ Lists w' g' tl tp (.slice ao (Li.packets s).length cap) (Li.packets s) ∧ EndIs w' g' t eb { s with came := false } q ∧ Turn w g w' g' [t, tl, 951]

def PkAt (w : World) (g : Tags) (t eb tl : Nat) (tp : Nat → Nat) (lb : Nat) (s : Li.St) (q : Nat) (wv : Value) (mb : Nat) (f : Int → Option Value) (gk : Nat) (vi : Value) (wr : World) : Prop :=
  ∃ k gr ao n cap, k ≤ s.waits.length ∧ gk = s.waits.length - k ∧ vi = .int .i64 (k : Int) ∧ n = (Li.datas s.first 0 (s.waits.take k)).length ∧ Boxed wr gr lb (.slice ao n cap) ∧ Lists wr gr tl tp (.slice ao n cap) (Li.datas s.first 0 (s.waits.take k)) ∧ EndAt wr gr t eb s q wv mb f ∧ Turn w g wr gr [tl, 951]

theorem pk_next {w wr w2 : World} {g gr g2 : Tags} {t eb tl lb k : Nat} {tp : Nat → Nat} {s : Li.St} {q : Nat} {wv : Value} {mb : Nat} {f : Int → Option Value} (hk : k < s.waits.length) {aw : Nat} (haw : aw = (s.first + k) % Li.M) {a2 : Option Addr} {c2 : Nat}
    (hB : Boxed w2 g2 lb (.slice a2 ((Li.datas s.first 0 (s.waits.take k)).length + 1) c2)) (hL : Lists w2 g2 tl tp (.slice a2 ((Li.datas s.first 0 (s.waits.take k)).length + 1) c2) (Li.datas s.first 0 (s.waits.take k) ++ [Li.packet 68 aw s.waits[k]])) (hE : EndAt wr gr t eb s q wv mb f)
    (hT2 : Turn wr gr w2 g2 [tl, 951]) (hT : Turn w g wr gr [tl, 951]) (hN : t ∉ [tl, 951] ∧ t + 1 ∉ [tl, 951] ∧ t + 2 ∉ [tl, 951] ∧ t + 3 ∉ [tl, 951] ∧ ∀ n, n < Li.M → t + 4 + n ∉ [tl, 951]) :
    PkAt w g t eb tl tp lb s q wv mb f (s.waits.length - (k + 1)) (.int .i64 ((k : Int) + 1)) w2 := by
  have e : Li.datas s.first 0 (s.waits.take (k + 1)) = Li.datas s.first 0 (s.waits.take k) ++ [Li.packet 68 aw s.waits[k]] := by
    rw [List.take_succ_eq_append_getElem hk, Li.datas_snoc, haw]
    have : (s.waits.take k).length = k := by rw [List.length_take]; omega
    rw [this, Nat.zero_add]
  refine ⟨k + 1, g2, a2, _, c2, hk, rfl, by go_num, ?_, hB, by rw [e]; exact hL, hE.turn hT2 hN.1 hN.2.1 hN.2.2.1 hN.2.2.2.1 hN.2.2.2.2, hT.trans hT2 (by simp) (by simp)⟩
  rw [e, List.length_append]; rfl

theorem not_two {x a b : Nat} (h1 : x ≠ a) (h2 : x ≠ b) : x ∉ [a, b] := by simp [h1, h2]

/-- The end: the mark is taken away, the result is read out of its cell. -/
theorem pk_end {w w2 : World} {g g2 : Tags} {t eb tl lb : Nat} {tp : Nat → Nat} {s : Li.St} {q : Nat} {wv : Value} {mb : Nat} {f : Int → Option Value} {a2 : Option Addr} {n2 c2 : Nat} {ls : List (List UInt8)} (hT : Turn w g w2 g2 [tl, 951]) (hE : EndAt w2 g2 t eb s q wv mb f)
    (hB : Boxed w2 g2 lb (.slice a2 n2 c2)) (hL : Lists w2 g2 tl tp (.slice a2 n2 c2) ls) (hp : Li.packets s = ls) (h1 : tl ≠ 951) (h2 : ∀ j, tp j ≠ 951) (h3 : ∀ j, tp j ≠ t) (hN : t ∉ [tl, 951] ∧ t + 1 ∉ [tl, 951] ∧ t + 2 ∉ [tl, 951] ∧ t + 3 ∉ [tl, 951] ∧ ∀ n, n < Li.M → t + 4 + n ∉ [tl, 951]) :
    (w2.cell? ⟨lb, 0, none⟩ = some (.slice a2 n2 c2) ∧ w2.frozen? ⟨lb, 0, none⟩ = false ∧ lb ≠ eb ∧ eb ≠ lb) ∧
    ((w2.setCell ⟨eb, 4, none⟩ (.bool false)).setCell ⟨lb, 0, none⟩ (.slice a2 n2 c2)).cell? ⟨lb, 0, none⟩ = some (.slice a2 n2 c2) ∧
    PacketsSaid w g t eb tl tp s q (.returned (.slice a2 n2 c2)) ((w2.setCell ⟨eb, 4, none⟩ (.bool false)).setCell ⟨lb, 0, none⟩ (.slice a2 n2 c2)) := by
  have hne : lb ≠ eb := by
    intro e
    have h1 := hB.2
    rw [e, hE.tag] at h1
    exact hN.1 (by rw [h1]; simp)
  have T1 := Turn.store w2 g2 ⟨eb, 4, none⟩ (.bool false) (t := t) hE.tag
  have hc := _root_.Go.heap_setCell_same w2 eb 4 _ _ (.bool false) hE.cells
  have hB1 : Boxed (w2.setCell ⟨eb, 4, none⟩ (.bool false)) g2 lb (.slice a2 n2 c2) := ⟨(Below.heap_setCell w2 ⟨eb, 4, none⟩ _ lb hne).trans hB.1, hB.2⟩
  obtain ⟨T2, hB2⟩ := hB1.store (u := .slice a2 n2 c2)
  have T12 : Turn w2 g2 ((w2.setCell ⟨eb, 4, none⟩ (.bool false)).setCell ⟨lb, 0, none⟩ (.slice a2 n2 c2)) g2 [t, 951] := T1.trans T2 (by simp) (by simp)
  have t1 : t ≠ 951 := fun e => hN.1 (by rw [e]; simp)
  have t2 : t + 1 ≠ 951 := fun e => hN.2.1 (by rw [e]; simp)
  have t3 : t + 2 ≠ 951 := fun e => hN.2.2.1 (by rw [e]; simp)
  have t4 : t + 3 ≠ 951 := fun e => hN.2.2.2.1 (by rw [e]; simp)
  have t5 : ∀ n, n < Li.M → t + 4 + n ≠ 951 := fun n hn e => hN.2.2.2.2 n hn (by rw [e]; simp)
  refine ⟨⟨hB.cell.1, hB.cell.2, hne, Ne.symm hne⟩, hB2.cell.1, ?_⟩
  have e : n2 = ls.length := by
    obtain ⟨a, c, e⟩ := hL.form
    cases e; rfl
  unfold PacketsSaid
  rw [hp]
  subst e
  refine ⟨a2, c2, g2, rfl, hL.turn T12 ?_ ?_, ⟨wv, mb, f, ?_⟩, hT.trans T12 (by simp) (by simp)⟩
  · intro hm
    rcases List.mem_cons.1 hm with hm | hm
    · exact hN.1 (by rw [← hm]; simp)
    · exact h1 (List.mem_singleton.1 hm)
  · intro j hm
    rcases List.mem_cons.1 hm with hm | hm
    · exact h3 j hm
    · exact h2 j (List.mem_singleton.1 hm)
  · refine ⟨(Below.heap_setCell _ ⟨lb, 0, none⟩ _ eb (Ne.symm hne)).trans hc, hE.tag, hE.waits.turn T12 ?_ ?_, hE.map.frame (T12.block mb hE.map.lt (by rw [hE.mtag]; exact not_two (by omega) t3)), hE.mtag, fun i hi => (hE.early i hi).turn T12 ?_, ⟨hE.win.1, hE.win.2.1, hE.win.2.2⟩, hE.few, hE.small⟩
    · exact not_two (by omega) t2
    · exact fun _ => not_two (by omega) t4
    · exact not_two (by omega) (t5 i hi)

theorem add_wrap (a k : Nat) (_ha : a < Li.M) : IntKind.u32.wrap ((a : Int) + (k : Int)) = (((a + k) % Li.M : Nat) : Int) := by
  unfold Li.M at *
  simp [IntKind.wrap, IntKind.bits, IntKind.signed]

set_option maxHeartbeats 4000000 in
theorem packets_t {w : World} {g : Tags} {t eb : Nat} {s : Li.St} {q : Nat} (tl : Nat) (tp : Nat → Nat) (hE : EndIs w g t eb s q) (htl : tl < t) (ht : 951 < t) (h1 : tl ≠ 951) (h2 : ∀ j, tp j ≠ 951) (h3 : ∀ j, tp j ≠ tl) (h4 : ∀ j, tp j ≠ t) :
    Calls Tryz.prog 10 #[.pointer (some ⟨eb, 0, none⟩)] w (PacketsSaid w g t eb tl tp s q) := by
  have N1 := Lib.hid (show t ∉ [tl, 951] ∧ t + 1 ∉ [tl, 951] ∧ t + 2 ∉ [tl, 951] ∧ t + 3 ∉ [tl, 951] ∧ ∀ n, n < Li.M → t + 4 + n ∉ [tl, 951] by refine ⟨?_, ?_, ?_, ?_, ?_⟩ <;> simp <;> omega)
  obtain ⟨wv, mb, f, hE⟩ := hE
  have hfew := hE.few
  have hE1 := hE.turn (Turn.alloc w g 951 (.cells #[.slice none 0 0] 48)) List.not_mem_nil List.not_mem_nil List.not_mem_nil List.not_mem_nil (fun _ _ => List.not_mem_nil)
  obtain ⟨c0, c1, c2, c3, c4, cf⟩ := hE1.cell
  have cf4 := cf 4
  obtain ⟨wa, wc, rfl⟩ := hE1.waits.form
  have HB := Lib.hid (show Boxed (w.alloc (.cells #[.slice none 0 0] 48)) (g.ext w.heap.size 951) w.heap.size (.slice none 0 0) from ⟨_root_.Go.heap_alloc_new w _, Tags.ext_new _ _ _ _ (Nat.le_refl _)⟩)
  have HE := Lib.hid hE1
  have HE0 := Lib.hid hE
  clear hE hE1 cf
  go_enter Tryz.func10, Tryz.ntmps10
  go_wp2_with fail
  refine there_t c3 ?_
  go_wp2_with fail
  obtain ⟨lb, hlb⟩ : ∃ lb, lb = w.heap.size := ⟨_, rfl⟩
  rw [← hlb] at HB ⊢
  have T0 := Lib.hid (Turn.alloc w g 951 (.cells #[.slice none 0 0] 48))
  rw [← hlb] at T0 HE
  have i9 : (s.waits.length : Int) ≤ 16 := by omega
  go_loopg [15] s.waits.length (fun gk vi wr => PkAt w g t eb tl tp lb s q (.slice wa s.waits.length wc) mb f gk vi wr)
  case atStart => exact ⟨0, _, none, 0, 0, Nat.zero_le _, rfl, rfl, rfl, HB.out, Lists.nil _ _ _ _, HE.out, T0.out.mono (by simp)⟩
  case round =>
    obtain ⟨k, gr, la, ln, lc, hk, rfl, rfl, hn, hB, hL, hEr, hT⟩ := hrel
    have HX := Lib.hid (And.intro hB (And.intro hL (And.intro hEr (And.intro hT hn))))
    obtain ⟨k0, k1, k2, k3, k4, kf⟩ := hEr.cell
    have kf4 := kf 4
    have hwn := hEr.win
    clear hB hL hEr hT hn HB HE T0 kf c0 c1 c2 c3 c4 cf4 hlb
    have i0 : (0 : Int) ≤ (k : Int) := by omega
    by_cases hlt : k < s.waits.length
    · have i1 : (k : Int) < (s.waits.length : Int) := by omega
      obtain ⟨b, off, rfl, hc⟩ := lists_cells HX.out.2.2.1.waits (by omega)
      obtain ⟨u, hu, hub⟩ := hc k hlt
      obtain ⟨ua, uc, rfl⟩ := bytes_form hub
      have hsm := HX.out.2.2.1.small.1 _ (List.getElem_mem hlt)
      obtain ⟨aw, haw⟩ : ∃ aw : Nat, aw = (s.first + k) % Li.M := ⟨_, rfl⟩
      have hnw := add_wrap s.first k hwn.2.1
      rw [← haw] at hnw
      have hawl : aw < 4294967296 := by rw [haw]; exact Nat.mod_lt _ (by decide)
      have HU := Lib.hid hub
      have HAW := Lib.hid haw
      have hdl := Li.datas_length s.first (s.waits.take k) 0
      rw [List.length_take] at hdl
      have hls : (Li.datas s.first 0 (s.waits.take k)).length ≤ 1000000 := by omega
      clear hc hub haw hwn hdl
      go_wp2_with fail
      refine tell_t (HX.out.2.2.2.2 ▸ HX.out.1) (HX.out.2.2.2.2 ▸ HX.out.2.1) 68 aw hawl HU.out (by omega) hls h1 h2 h3 rfl fun a2 c2 w2 g2 T2 B2 L2 => ?_
      have X2 := Lib.hid (pk_next hlt HAW.out B2 L2 HX.out.2.2.1 T2 HX.out.2.2.2.1 N1.out)
      clear T2 B2 L2
      go_wp2_with fail
      go_roundg (s.waits.length - (k + 1))
      case measure => omega
      case rel => exact X2.out
    · obtain rfl : k = s.waits.length := by omega
      rw [List.take_length] at HX
      have hdl := Li.datas_length s.first s.waits 0
      have hls : (Li.datas s.first 0 s.waits).length ≤ 1000000 := by omega
      cases hcm : s.came with
      | true =>
        rw [hcm] at k4
        have hawl : s.awaited < 4294967296 := hwn.1
        have HCM := Lib.hid hcm
        clear hwn hdl hcm hlt
        go_wp2_with fail
        refine tell_t (HX.out.2.2.2.2 ▸ HX.out.1) (HX.out.2.2.2.2 ▸ HX.out.2.1) 65 s.awaited hawl (BytesIn.nil wr (fun b => gr b = 0)) (by simp) hls h1 h2 h3 rfl fun a2 c2 w2 g2 T2 B2 L2 => ?_
        have hE2 := HX.out.2.2.1.turn T2 N1.out.1 N1.out.2.1 N1.out.2.2.1 N1.out.2.2.2.1 N1.out.2.2.2.2
        have f4 := (hE2.cell.2.2.2.2.2) 4
        have f5 := hE2.cell.2.2.2.2.1
        have HF := Lib.hid (pk_end (HX.out.2.2.2.1.trans T2 (V := [tl, 951]) (by simp) (by simp)) hE2 B2 L2 (show Li.packets s = _ by unfold Li.packets; rw [HCM.out, if_pos rfl]) h1 h2 h4 N1.out)
        obtain ⟨b0, b1, b2, b3⟩ := HF.out.1
        clear T2 B2 L2 hE2
        go_wp2_with fail
        exact bodyPost_ret (v := .slice a2 ((Li.datas s.first 0 s.waits).length + 1) c2) (by simp [results, Tryz.results10, go_sem, HF.out.2.1]) rfl HF.out.2.2
      | false =>
        rw [hcm] at k4
        have HF := Lib.hid (pk_end HX.out.2.2.2.1 HX.out.2.2.1 HX.out.1 HX.out.2.1 (show Li.packets s = _ by unfold Li.packets; rw [hcm]; simp) h1 h2 h4 N1.out)
        obtain ⟨b0, b1, b2, b3⟩ := HF.out.1
        clear hwn hdl hcm hlt
        go_wp2_with fail
        exact bodyPost_ret (v := .slice la ln lc) (by simp [results, Tryz.results10, go_sem, HF.out.2.1]) rfl HF.out.2.2
end Go.Proofs.YtoedalocfepkoaaGreatDoor
