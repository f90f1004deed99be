/- Frames: the document's Put; what Put answers is memory of its own. -/
import Derived.Test.YtolkphbnneoloaaDoorTwin
import Derived.Test.YtolkphbnneoloaaDoorFrPut
namespace Go.My
/-- A row that is written out. -/
theorem owns_lit (w : World) (g : Tags) (t : Nat) (e : TypeId) (cs : Array Value) (n : Nat) (hn : cs.size = n) (hm : n ≤ 1000000000) : Owns (w.alloc (.cells cs e)) (g.ext w.heap.size t) t e 1 (.slice (some ⟨w.heap.size, 0, none⟩) n n) n cs.toList := by
  subst hn
  refine ⟨some w.heap.size, ⟨by simp, .inr ⟨w.heap.size, 0, cs.size, cs, rfl, rfl, heap_alloc_new w _, Nat.le_refl _, by unfold maxLen; omega, by simp, by rw [Nat.mul_one, List.drop_zero, ← Array.length_toList, List.take_length]⟩⟩, fun b hb => by cases hb; exact Tags.ext_new _ _ _ _ (Nat.le_refl _)⟩
end Go.My
namespace Go.Proofs.YtolkphbnneoloaaDoor
open Go.RowKit Go.My

theorem refPut_great {w : World} {ao : Option Addr} {n cap : Nat} (hn : 65536 < n) (hm : n ≤ 1000000000) {Q : Ending → World → Prop} (h : Q (.returned (.tuple #[.slice none 0 0, .int .i64 3])) w) :
    Calls Tryd.prog 7 #[.slice ao n cap] w Q := by
  have H := Lib.hid h
  have h1 : (65536 : Int) < (n : Int) := by omega
  clear h hn
  go_enter Tryd.func7, Tryd.ntmps7
  go_wp2_with fail
  exact H.out

set_option maxHeartbeats 1000000 in
theorem refPut_t {w : World} {g : Tags} (t : Nat) {tv : Nat} {v : Value} {l : List UInt8} (hv : Bytes w g tv v l) (hl : l.length ≤ 65536) {Q : Ending → World → Prop}
    (h : ∀ ao cap w' g', Turn w g w' g' [t] → Owns w' g' t bytesU8 1 (.slice ao (4 + l.length) cap) (4 + l.length) ((Fr.frame l).map byteCell) → Q (.returned (.tuple #[.slice ao (4 + l.length) cap, .int .i64 0])) w') :
    Calls Tryd.prog 7 #[v] w Q := by
  obtain ⟨ao, cp, rfl, h1, h2, _, _⟩ := BytesIn.open_ hv
  have H := Lib.hid h
  have HV := Lib.hid hv
  have l0 : (0 : Int) ≤ (l.length : Int) := by omega
  have l1 : (l.length : Int) ≤ 65536 := by omega
  clear h hv h1 h2 hl
  go_enter Tryd.func7, Tryd.ntmps7
  have T0 := Turn.alloc w g t (.cells #[.int .u8 ((l.length : Int) / 16777216), .int .u8 ((l.length : Int) / 65536), .int .u8 ((l.length : Int) / 256 % 256), .int .u8 ((l.length : Int) % 256)] 5)
  have O0 := owns_lit w g t 5 #[.int .u8 ((l.length : Int) / 16777216), .int .u8 ((l.length : Int) / 65536), .int .u8 ((l.length : Int) / 256 % 256), .int .u8 ((l.length : Int) % 256)] 4 rfl (by decide)
  have X0 := Lib.hid (And.intro T0 (And.intro O0 (HV.out.turn T0 (by simp)).src))
  clear T0 O0
  go_wp2_with (refine wpList_append_t _ rfl (.tmp 23) (.tmp 24) rfl u8Elem (v := .slice (some ⟨w.heap.size, 0, none⟩) 4 4) (y := .slice ao l.length cp) rfl X0.out.2.1 rfl X0.out.2.2 (byteCells_one _) (by unfold maxLen; omega) (by omega) ?_; intro a2 c2 w2 g2 O2 T2; have X2 := Lib.hid (And.intro O2 T2); clear O2 T2)
  have e1 : (Fr.frame l).map byteCell = [.int .u8 ((l.length : Int) / 16777216), .int .u8 ((l.length : Int) / 65536), .int .u8 ((l.length : Int) / 256 % 256), .int .u8 ((l.length : Int) % 256)] ++ l.map byteCell := by
    rw [Fr.frame, List.map_append]
    congr 1
    simp [Fr.be4, byteCell]
    omega
  have hO := X2.out.1
  exact H.out a2 c2 w2 g2 (X0.out.1.trans X2.out.2 (V := [t]) (by simp) (by simp)) (by rw [e1]; exact hO)

/-- What Put answers. -/
theorem put_own {w : World} {g : Tags} (t : Nat) {tv : Nat} {v : Value} {l : List UInt8} (hv : Bytes w g tv v l) (hl : l.length ≤ 65536) {Q : Ending → World → Prop}
    (h : ∀ b w' g', Turn w g w' g' [] → Owns w' g' t bytesU8 1 (.slice (some ⟨b, 0, none⟩) (l.length + 4) (l.length + 4)) (l.length + 4) ((Fr.frame l).map byteCell) → Q (.returned (.tuple #[.slice (some ⟨b, 0, none⟩) (l.length + 4) (l.length + 4), .int .i64 0])) w') :
    Calls Tryd.prog 6 #[v] w Q := by
  refine (put_ok w (fun b => b < w.heap.size) v l (BytesIn.mono hv fun b hb _ => hb) (fun b hb => hb) hl).mono ?_
  rintro e w' ⟨b, rfl, hge, hh, hB⟩
  refine h b w' _ (Turn.of_below hB g t) ⟨some b, ⟨by rw [List.length_map, Fr.length_frame]; omega, .inr ⟨b, 0, l.length + 4, _, rfl, rfl, hh, Nat.le_refl _, by unfold maxLen; omega, ?_, ?_⟩⟩, fun b' hb' => by cases hb'; exact Tags.ext_new _ _ _ _ hge⟩
  · simp [Fr.length_frame]
  · simp [← Fr.length_frame]; exact List.take_of_length_le (by simp)
end Go.Proofs.YtolkphbnneoloaaDoor
