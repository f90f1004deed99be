/- The statements' own helpers: a copy of a list of bytes, with a mark in the room behind; whether it is as it was. -/
import Derived.Test.YtoedalocfepkoaaGreatDoorSameB
import Derived.Test.YtoedalocfepkoaaGreatDoorBk2
namespace Go.My
/-- A shorter piece of what the call owns. -/
theorem Owns.less {w : World} {g : Tags} {t : Nat} {e : TypeId} {size b off n m cap : Nat} {xs ys : List Value} (h : Owns w g t e size (.slice (some ⟨b, off, none⟩) (n + m) cap) (n + m) (xs ++ ys)) (hx : xs.length = n * size) : Owns w g t e size (.slice (some ⟨b, off, none⟩) n cap) n xs := by
  obtain ⟨k, ho, hk⟩ := h
  rcases ho.2 with ⟨hv, _⟩ | ⟨b', off', cap', cur, hv, hg, hh, h3, h4, h5, h6⟩
  · cases hv
  · cases hv
    refine ⟨k, ⟨hx, .inr ⟨b, off, cap, cur, rfl, hg, hh, by omega, h4, h5, ?_⟩⟩, hk⟩
    have h7 : ((cur.toList.drop off).take ((n + m) * size)).take (n * size) = (xs ++ ys).take (n * size) := by rw [h6]
    rw [List.take_take, Nat.min_eq_left (Nat.mul_le_mul_right _ (Nat.le_add_right _ _)), ← hx, List.take_left] at h7
    rw [← hx]; exact h7

/-- A new row, nothing in it yet. -/
theorem owns_made (w : World) (g : Tags) (t : Nat) (e : TypeId) (z : Value) (m : Nat) (hm : m ≤ maxLen) : Owns (w.alloc (.cells (madeCells #[z] m) e)) (g.ext w.heap.size t) t e 1 (.slice (some ⟨w.heap.size, 0, none⟩) 0 m) 0 [] := by
  refine ⟨some w.heap.size, ⟨rfl, .inr ⟨w.heap.size, 0, m, _, rfl, rfl, heap_alloc_new w _, Nat.zero_le _, hm, ?_, by simp⟩⟩, fun b hb => by cases hb; exact Tags.ext_new _ _ _ _ (Nat.le_refl _)⟩
  rw [madeCells_one]; simp

theorem owns_some {w : World} {g : Tags} {t : Nat} {e : TypeId} {size n : Nat} {xs : List Value} {ao : Option Addr} {cap : Nat} (h : Owns w g t e size (.slice ao (n + 1) cap) (n + 1) xs) : ∃ b off c, ao = some ⟨b, off, none⟩ ∧ c = cap ∧ n + 1 ≤ c := by
  obtain ⟨b, off, cap', hv, _, h1, _⟩ := Owns.cell h (Nat.succ_pos n)
  cases hv
  exact ⟨b, off, cap, rfl, rfl, h1⟩
end Go.My
namespace Go.Proofs.YtoedalocfepkoaaGreatDoor
open Go.RowKit Go.My

/-- A copy of the bytes l, with the mark behind. -/
def TwinAt (w : World) (g : Tags) (t : Nat) (b off cap : Nat) (l : List UInt8) : Prop :=
  Owns w g t bytesU8 1 (.slice (some ⟨b, off, none⟩) (l.length + 1) cap) (l.length + 1) (l.map byteCell ++ [.int .u8 77])

theorem TwinAt.turn {w w' : World} {g g' : Tags} {T : List Nat} {t b off cap : Nat} {l : List UInt8} (h : TwinAt w g t b off cap l) (k : Turn w g w' g' T) (ht : t ∉ T) : TwinAt w' g' t b off cap l := Owns.turn h k ht
theorem TwinAt.owns {w : World} {g : Tags} {t b off cap : Nat} {l : List UInt8} (h : TwinAt w g t b off cap l) : Owns w g t bytesU8 1 (.slice (some ⟨b, off, none⟩) l.length cap) l.length (l.map byteCell) := Owns.less h (by simp)
theorem TwinAt.bytes {w : World} {g : Tags} {t b off cap : Nat} {l : List UInt8} (h : TwinAt w g t b off cap l) : Bytes w g t (.slice (some ⟨b, off, none⟩) l.length cap) l := h.owns.bytes
theorem TwinAt.room {w : World} {g : Tags} {t b off cap : Nat} {l : List UInt8} (h : TwinAt w g t b off cap l) : l.length + 1 ≤ cap ∧ cap ≤ maxLen := by
  obtain ⟨b', off', cap', hv, _, h1, h2, _⟩ := Owns.cell h (by omega)
  cases hv; exact ⟨h1, h2⟩
theorem TwinAt.mark {w : World} {g : Tags} {t b off cap : Nat} {l : List UInt8} (h : TwinAt w g t b off cap l) : w.cell? ⟨b, off + l.length, none⟩ = some (.int .u8 77) := by
  obtain ⟨b', off', cap', hv, _, _, _, _, hc⟩ := Owns.cell h (by omega)
  cases hv
  rw [(hc l.length (by omega)).1, List.getElem?_append_right (by simp)]; simp

def CopyAt (w : World) (g : Tags) (t : Nat) (l : List UInt8) (gk : Nat) (v3 v4 : Value) (wr : World) : Prop :=
  ∃ (k : Nat) (a : Option Addr) (c : Nat) (g' : Tags), k ≤ l.length ∧ gk = l.length - k ∧ v3 = .slice a k c ∧ v4 = .int .i64 (k : Int) ∧ Turn w g wr g' [t, 903] ∧ Owns wr g' t bytesU8 1 (.slice a k c) k ((l.take k).map byteCell)

set_option maxRecDepth 100000 in
set_option maxHeartbeats 4000000 in
theorem twin_t {w : World} {g : Tags} (t : Nat) {tv : Nat} {v : Value} {l : List UInt8} (hv : Bytes w g tv v l) (hl : l.length ≤ 1000000000) (ht : t ≠ tv) (h9 : tv ≠ 903) {Q : Ending → World → Prop}
    (h : ∀ b off cap w' g', Turn w g w' g' [t, 903] → TwinAt w' g' t b off cap l → Q (.returned (.slice (some ⟨b, off, none⟩) l.length cap)) w') :
    Calls Tryz.prog 7 #[v] w Q := by
  obtain ⟨ao, cp, rfl, h1, h2, _, hcell⟩ := BytesIn.open_ hv
  have H := Lib.hid h
  have HV := Lib.hid hv
  have l0 : (0 : Int) ≤ (l.length : Int) := by omega
  have l1 : (l.length : Int) ≤ 1000000000 := by omega
  clear h hv hcell h1 h2
  go_enter Tryz.func7, Tryz.ntmps7
  go_wp2_with (refine wpList_make _ rfl (.const (.int .i64 0)) (.tmp 7) rfl u8Elem rfl rfl (by omega) (by omega) (by omega) (by omega) ?_)
  have T0 := Turn.alloc w g t (.cells (madeCells #[.int .u8 0] (l.length + 1)) 5)
  have O0 : Owns (w.alloc (.cells (madeCells #[.int .u8 0] (l.length + 1)) 5)) (g.ext w.heap.size t) t bytesU8 1 (.slice (some ⟨w.heap.size, 0, none⟩) 0 (l.length + 1)) 0 [] := owns_made w g t bytesU8 (.int .u8 0) (l.length + 1) (by unfold maxLen; omega)
  have X0 := Lib.hid (And.intro (T0.mono (V := [t, 903]) (by simp)) O0)
  clear T0 O0
  generalize hw0 : w.alloc (.cells (madeCells #[.int .u8 0] (l.length + 1)) 5) = w0 at X0 ⊢
  generalize w.heap.size = bm at X0 ⊢
  generalize g.ext bm t = g0 at X0
  clear hw0
  go_loopg [3, 4] l.length (fun gk v3 v4 wr => CopyAt w g t l gk v3 v4 wr)
  case atStart => exact ⟨0, _, _, g0, Nat.zero_le _, rfl, rfl, rfl, X0.out.1, X0.out.2⟩
  case round =>
    obtain ⟨k, a, c, g1, hk, rfl, rfl, rfl, hT, hO⟩ := hrel
    have k0 : (0 : Int) ≤ (k : Int) := by omega
    have X := Lib.hid (And.intro hT hO)
    clear hT hO X0
    by_cases hlt : k < l.length
    · have k1 : (k : Int) < (l.length : Int) := by omega
      obtain ⟨b, off, hb, _, hc⟩ := (HV.out.turn X.out.1 (by simp [Ne.symm ht, h9])).cells (by omega)
      cases hb
      have c0 := hc k hlt
      have e1 : ((l.take (k + 1)).map byteCell) = (l.take k).map byteCell ++ [.int .u8 ((l[k]).toNat : Int)] := by
        rw [List.take_succ_eq_append_getElem hlt, List.map_append]; rfl
      generalize l[k] = y at *
      have T4 := Turn.alloc wr g1 903 (.cells #[.int .u8 (y.toNat : Int)] 5)
      have X4 := Lib.hid (And.intro (X.out.1.trans T4 (V := [t, 903]) (by simp) (by simp)) (And.intro (X.out.2.turn T4 (by simp)) e1))
      have hL := Lib.hid hlt
      clear T4 e1 hc hk hlt
      go_wp2_with (refine wpList_append_t _ rfl (.tmp 15) (.tmp 20) rfl u8Elem (v := .slice a k c) (y := .slice (some ⟨wr.heap.size, 0, none⟩) 1 1) rfl X4.out.2.1 rfl (Src.lit #[.int .u8 (y.toNat : Int)] 5 rfl rfl) (by simp [Value.oneCell']) (by unfold maxLen; omega) (by omega) ?_; intro a2 c2 w2 g2 O2 T2; have X2 := Lib.hid (And.intro O2 T2); clear O2 T2)
      have X7 := Lib.hid (And.intro (X4.out.1.trans X2.out.2 (V := [t, 903]) (by simp) (by simp)) (show Owns w2 g2 t bytesU8 1 (.slice a2 (k + 1) c2) (k + 1) ((l.take (k + 1)).map byteCell) by rw [X4.out.2.2]; exact X2.out.1))
      clear X4 X2
      go_roundg (l.length - (k + 1))
      case measure => have := hL.out; omega
      case rel => exact ⟨k + 1, a2, c2, g2, hL.out, rfl, rfl, by go_num, X7.out.1, X7.out.2⟩
    · obtain rfl : k = l.length := by omega
      have T4 := Turn.alloc wr g1 903 (.cells #[.int .u8 77] 5)
      have X4 := Lib.hid (And.intro (X.out.1.trans T4 (V := [t, 903]) (by simp) (by simp)) (X.out.2.turn T4 (by simp)))
      clear T4 hlt hk
      go_wp2_with (refine wpList_append_t _ rfl (.tmp 22) (.tmp 23) rfl u8Elem (v := .slice a l.length c) (y := .slice (some ⟨wr.heap.size, 0, none⟩) 1 1) rfl X4.out.2 rfl (Src.lit #[.int .u8 77] 5 rfl rfl) (by simp [Value.oneCell']) (by unfold maxLen; omega) (by omega) ?_; intro a2 c2 w2 g2 O2 T2; obtain ⟨b3, off3, cap3, hv3, hcc, hcap3⟩ := owns_some O2; subst hv3; subst hcc; have X2 := Lib.hid (And.intro O2 T2); clear O2 T2; have hsl := slice_h (P := Tryz.prog) Tryz.underlying42 (by kernel_rfl) b3 off3 (l.length + 1) cap3 l.length (l.length : Int) rfl (by omega))
      have hO := X2.out.1
      rw [List.take_length] at hO
      exact H.out _ _ _ w2 g2 (X4.out.1.trans X2.out.2 (V := [t, 903]) (by simp) (by simp)) hO

def LeftAt (w1 : World) (n gk : Nat) (v5 : Value) (wr : World) : Prop := ∃ k q : Nat, k ≤ n ∧ gk = n - k ∧ v5 = .int .i64 (k : Int) ∧ wr = w1.drewN q

set_option maxHeartbeats 4000000 in
theorem left_t {w : World} {g : Tags} {t tv b off cap : Nat} {v : Value} {l : List UInt8} (hT : TwinAt w g t b off cap l) (hv : Bytes w g tv v l) (hl : l.length ≤ 1000000000) {Q : Ending → World → Prop} (h : ∀ n, Q (.returned (.bool true)) (w.drewN n)) :
    Calls Tryz.prog 18 #[.slice (some ⟨b, off, none⟩) l.length cap, v] w Q := by
  obtain ⟨ao, cp, rfl, h1, h2, _, hcell⟩ := BytesIn.open_ hv
  have H := Lib.hid h
  have HV := Lib.hid hv
  have HC := Lib.hid hcell
  have HT := Lib.hid hT
  have l0 : (0 : Int) ≤ (l.length : Int) := by omega
  have l1 : (l.length : Int) ≤ 1000000000 := by omega
  have hrm := hT.room
  have l2 : (l.length : Int) < (cap : Int) := by omega
  have hsl := slice_h (P := Tryz.prog) Tryz.underlying42 (by kernel_rfl) b off l.length cap (l.length + 1) ((l.length : Int) + 1) rfl hrm.1
  have hmk := hT.mark
  clear h hv hcell h1 h2 hT hrm
  go_enter Tryz.func18, Tryz.ntmps18
  go_wp2_with fail
  go_loopg [5] l.length (fun gk v5 wr => LeftAt w l.length gk v5 wr)
  case atStart => exact ⟨0, 0, Nat.zero_le _, rfl, rfl, rfl⟩
  case round =>
    obtain ⟨k, q, hk, rfl, rfl, rfl⟩ := hrel
    have k0 : (0 : Int) ≤ (k : Int) := by omega
    by_cases hlt : k < l.length
    · have k1 : (k : Int) < (l.length : Int) := by omega
      obtain ⟨b1, off1, hb, _, hc⟩ := HC.out (by omega)
      subst hb
      have c0 := hc k hlt
      obtain ⟨b2, off2, hb, _, hc2⟩ := HT.out.bytes.cells (by omega)
      cases hb
      have c1 := hc2 k hlt
      generalize l[k] = y at *
      clear hc hc2
      go_wp2_with fail
      go_quiet (fail)
      go_wp2
      go_roundg (l.length - (k + 1))
      case measure => omega
      case rel => exact ⟨k + 1, q + nq, by omega, rfl, by go_num, rfl⟩
    · obtain rfl : k = l.length := by omega
      clear hlt hk
      go_wp2_with fail
      exact H.out q
end Go.Proofs.YtoedalocfepkoaaGreatDoor
