/- A book of lists of bytes: lists that were told are put in, one by one. -/
import Derived.Test.YtolkphbnneoloaaDoorFcRef
namespace Go.Proofs.YtolkphbnneoloaaDoor
open Go.RowKit Go.My

/-- A book of m lists, all of them the call's own. -/
structure Kept (w : World) (g : Tags) (bp m : Nat) : Prop where
  some_ : ∃ cs hs, Book w g bp cs hs ∧ cs[0]? = some (.int .i64 (m : Int)) ∧ hs.length = m ∧ NoOther cs ∧ Filled w g hs 0

theorem Kept.turn {w w' : World} {g g' : Tags} {T : List Nat} {bp m : Nat} (h : Kept w g bp m) (k : Turn w g w' g' T) (h1 : 801 ∉ T) (h2 : 802 ∉ T) (h3 : ∀ j, j < m → entTag j ∉ T) : Kept w' g' bp m := by
  obtain ⟨cs, hs, hB, h0, hl, hN, hF⟩ := h
  refine ⟨cs, hs, hB.turn k h1 h2, h0, hl, hN, fun j hj => ?_⟩
  have := hF j hj
  rw [if_neg (Nat.not_lt_zero _)] at this ⊢
  obtain ⟨xs, hx⟩ := this
  exact ⟨xs, hx.turn k (h3 j (by omega))⟩

theorem kept_new (w : World) (g : Tags) : Kept (w.alloc (.cells #[.int .i64 0, .slice none 0 0, .slice none 0 0, .slice none 0 0, .slice none 0 0, .slice none 0 0, .slice none 0 0, .slice none 0 0, .slice none 0 0, .slice none 0 0, .slice none 0 0, .slice none 0 0, .slice none 0 0] 41)) (g.ext w.heap.size 801) w.heap.size 0 :=
  ⟨_, [], book_new w g, rfl, rfl, noOther_new, Filled.nil _ _⟩

theorem kept_add {w : World} {g : Tags} {bp m : Nat} (hK : Kept w g bp m) (hm : m < 1000000000) {va : Option Addr} {n vc : Nat} {xs : List Value} (hx : Owns w g (entTag m) bytesU8 1 (.slice va n vc) n xs) (hn : n ≤ 1000000000) {Q : Ending → World → Prop}
    (h : ∀ w' g', Turn w g w' g' [801, 802] → Kept w' g' bp (m + 1) → Q (.returned (.tuple #[])) w') : Calls Tryd.prog 10 #[.pointer (some ⟨bp, 0, none⟩), .slice va n vc] w Q := by
  obtain ⟨cs, hs, hB, h0, hl, hN, hF⟩ := hK
  subst hl
  refine add_t hB h0 hm hm va n vc hn fun w' g' cs' T B c0 N => ?_
  refine h w' g' T ⟨cs', _, B, c0, by simp, N hN, Filled.snoc ?_ (hx.turn T (by unfold entTag; simp; omega))⟩
  exact hF.turn T (fun j => by unfold entTag; simp; omega)

def AddAt (w : World) (g : Tags) (bp m : Nat) (ao : Option Addr) (cap : Nat) (fs : List (List UInt8)) (gs : List Nat) (gk : Nat) (v4 : Value) (wr : World) : Prop :=
  ∃ (k : Nat) (g' : Tags), k ≤ fs.length ∧ gk = fs.length - k ∧ v4 = .int .i64 (k : Int) ∧ Turn w g wr g' [801, 802] ∧ Kept wr g' bp (m + k) ∧ Told wr g' 720 m ao cap fs gs

set_option maxHeartbeats 4000000 in
theorem frames_add {w : World} {g : Tags} {bp m : Nat} (hK : Kept w g bp m) {ao : Option Addr} {cap : Nat} {fs : List (List UInt8)} {gs : List Nat} (hT : Told w g 720 m ao cap fs gs) (hm : m + fs.length < 1000000000) (hf : ∀ f ∈ fs, f.length ≤ 1000000000) {Q : Ending → World → Prop}
    (h : ∀ w' g', Turn w g w' g' [801, 802] → Kept w' g' bp (m + fs.length) → Q (.returned (.tuple #[])) w') : Calls Tryd.prog 20 #[.pointer (some ⟨bp, 0, none⟩), .slice ao fs.length cap] w Q := by
  have H := Lib.hid h
  have X0 := Lib.hid (And.intro hK hT)
  have HF := Lib.hid hf
  have f0 : (0 : Int) ≤ (fs.length : Int) := by omega
  have f1 : (fs.length : Int) ≤ 1000000000 := by omega
  clear h hK hT hf
  go_enter Tryd.func20, Tryd.ntmps20
  go_wp2_with fail
  go_loopg [4] fs.length (fun gk v4 wr => AddAt w g bp m ao cap fs gs gk v4 wr)
  case atStart => exact ⟨0, g, Nat.zero_le _, rfl, rfl, Turn.refl _ _ _, X0.out.1, X0.out.2⟩
  case round =>
    obtain ⟨k, g1, hk, rfl, rfl, hT, hK, hTd⟩ := hrel
    have k0 : (0 : Int) ≤ (k : Int) := by omega
    have X := Lib.hid (And.intro hT (And.intro hK hTd))
    clear hT hK X0
    by_cases hlt : k < fs.length
    · have k1 : (k : Int) < (fs.length : Int) := by omega
      obtain ⟨b, off, cap', hv, _, _, _, _, hc⟩ := hTd.own.cell (by omega)
      cases hv
      have hkg : k < gs.length := by rw [hTd.len]; exact hlt
      have c0 : wr.cell? ⟨b, off + k, none⟩ = some (.slice (some ⟨gs[k], 0, none⟩) (fs[k]).length (fs[k]).length) := by
        rw [(hc k (by omega)).1, List.getElem?_zipWith, List.getElem?_eq_getElem hkg, List.getElem?_eq_getElem hlt]; rfl
      have hE := hTd.each k hkg hlt
      have hfl := HF.out _ (List.getElem_mem hlt)
      have Y := Lib.hid (And.intro hE (And.intro hfl hlt))
      clear hE hfl hc hTd hk
      generalize fs[k] = fk at *
      generalize gs[k] = gk at *
      go_wp2_with fail
      refine kept_add X.out.2.1 (by have := Y.out.2.2; omega) Y.out.1 Y.out.2.1 fun w' g' T K => ?_
      have X2 := Lib.hid (And.intro (X.out.1.trans T (V := [801, 802]) (fun _ h => h) (fun _ h => h)) (And.intro K (X.out.2.2.turn T (by simp) (fun j _ => by unfold entTag; simp; omega))))
      clear T K X
      go_wp2_with fail
      go_roundg (fs.length - (k + 1))
      case measure => have := Y.out.2.2; omega
      case rel => exact ⟨k + 1, g', Y.out.2.2, rfl, by go_num, X2.out.1, X2.out.2.1, X2.out.2.2⟩
    · obtain rfl : k = fs.length := by omega
      clear hlt hk hTd
      go_wp2_with fail
      go_end0
      exact H.out _ g1 X.out.1 X.out.2.1

theorem kept_apart {w : World} {g : Tags} {bp m : Nat} (hK : Kept w g bp m) {Q : Ending → World → Prop} (h : ∀ w' g', Turn w g w' g' (802 :: entTags m) → Q (.returned (.bool true)) w') :
    Calls Tryd.prog 11 #[.pointer (some ⟨bp, 0, none⟩)] w Q := by
  obtain ⟨cs, hs, hB, h0, hl, hN, hF⟩ := hK
  subst hl
  exact apart_t hB hN hF h
end Go.Proofs.YtolkphbnneoloaaDoor
