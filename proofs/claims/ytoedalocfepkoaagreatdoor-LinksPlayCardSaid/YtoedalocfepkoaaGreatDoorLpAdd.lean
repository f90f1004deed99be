/- A book of lists of bytes: lists that were told are put in, one by one. -/
import Derived.Test.YtoedalocfepkoaaGreatDoorLpUse
import Derived.Test.YtoedalocfepkoaaGreatDoorBk5
namespace Go.My
open Go.RowKit
theorem Owns.to {w : World} {g g2 : Tags} {t u : Nat} {e : TypeId} {size : Nat} {v : Value} {n : Nat} {xs : List Value} (h : Owns w g t e size v n xs) (hg : ∀ b, g b = t → g2 b = u) : Owns w g2 u e size v n xs := by
  obtain ⟨r, ho, hr⟩ := h
  exact ⟨r, ho, fun b hb => hg b (hr b hb)⟩
theorem Bytes.to {w : World} {g g2 : Tags} {t u : Nat} {v : Value} {l : List UInt8} (h : Bytes w g t v l) (hg : ∀ b, g b = t → g2 b = u) : Bytes w g2 u v l := BytesIn.mono h fun b _ hb => hg b hb
theorem Bx.to {w : World} {g g2 : Tags} {b : Nat} {ty : TypeId} {t u : Nat} {cs : Array Value} (h : Bx w g b ty t cs) (hg : ∀ b, g b = t → g2 b = u) : Bx w g2 b ty u cs := ⟨h.1, hg b h.2⟩
theorem Since.to {w0 w : World} {g g2 : Tags} (h : Since w0 w g) (hg : ∀ b, g b = 0 → g2 b = 0) : Since w0 w g2 := ⟨h.below, fun b hb => hg b (h.zero b hb)⟩
end Go.My
namespace Go.Proofs.YtoedalocfepkoaaGreatDoor
open Go.RowKit Go.My

/-- A book of m lists, all of them the call's own. -/
structure Kept (w : World) (g : Tags) (bp m : Nat) : Prop where
  some_ : ∃ cs hs, Book w g bp cs hs ∧ cs[0]? = some (.int .i64 (m : Int)) ∧ hs.length = m ∧ NoOther cs ∧ Filled w g hs 0

theorem Kept.turn {w w' : World} {g g' : Tags} {T : List Nat} {bp m : Nat} (h : Kept w g bp m) (k : Turn w g w' g' T) (h1 : 801 ∉ T) (h2 : 802 ∉ T) (h3 : ∀ j, j < m → entTag j ∉ T) : Kept w' g' bp m := by
  obtain ⟨cs, hs, hB, h0, hl, hN, hF⟩ := h
  refine ⟨cs, hs, hB.turn k h1 h2, h0, hl, hN, fun j hj => ?_⟩
  have := hF j hj
  rw [if_neg (Nat.not_lt_zero _)] at this ⊢
  obtain ⟨xs, hx⟩ := this
  exact ⟨xs, hx.turn k (h3 j (by omega))⟩

theorem kept_new (w : World) (g : Tags) : Kept (w.alloc (.cells #[.int .i64 0, .slice none 0 0, .slice none 0 0, .slice none 0 0, .slice none 0 0, .slice none 0 0, .slice none 0 0, .slice none 0 0, .slice none 0 0, .slice none 0 0, .slice none 0 0, .slice none 0 0, .slice none 0 0] 41)) (g.ext w.heap.size 801) w.heap.size 0 :=
  ⟨_, [], book_new w g, rfl, rfl, noOther_new, Filled.nil _ _⟩

theorem kept_add {w : World} {g : Tags} {bp m : Nat} (hK : Kept w g bp m) (hm : m < 1000000000) {va : Option Addr} {n vc : Nat} {xs : List Value} (hx : Owns w g (entTag m) bytesU8 1 (.slice va n vc) n xs) (hn : n ≤ 1000000000) {Q : Ending → World → Prop}
    (h : ∀ w' g', Turn w g w' g' [801, 802] → Kept w' g' bp (m + 1) → Q (.returned (.tuple #[])) w') : Calls Tryz.prog 19 #[.pointer (some ⟨bp, 0, none⟩), .slice va n vc] w Q := by
  obtain ⟨cs, hs, hB, h0, hl, hN, hF⟩ := hK
  subst hl
  refine add_t hB h0 hm hm va n vc hn fun w' g' cs' T B c0 N => ?_
  refine h w' g' T ⟨cs', _, B, c0, by simp, N hN, Filled.snoc ?_ (hx.turn T (by unfold entTag; simp; omega))⟩
  exact hF.turn T (fun j => by unfold entTag; simp; omega)

theorem lists_row {w : World} {g : Tags} {t : Nat} {t' : Nat → Nat} {ao : Option Addr} {n cap : Nat} {ls : List (List UInt8)} (h : Lists w g t t' (.slice ao n cap) ls) (hl : 0 < ls.length) :
    ∃ b off, ao = some ⟨b, off, none⟩ ∧ ∀ j (hj : j < ls.length), ∃ ua uc, w.cell? ⟨b, off + j, none⟩ = some (.slice ua (ls[j]).length uc) ∧ Owns w g (t' j) 5 1 (.slice ua (ls[j]).length uc) (ls[j]).length ((ls[j]).map byteCell) := by
  obtain ⟨us, h1, h2, h3⟩ := h
  obtain ⟨a, c, e, _, _, _, hx⟩ := h1.row
  cases e
  obtain ⟨b, off, e, _, hc⟩ := hx (fun e => by rw [e] at h2; simp at h2; omega)
  refine ⟨b, off, e, fun j hj => ?_⟩
  have ho := h3 j (by omega) hj
  obtain ⟨ua, uc, eu⟩ := ho.form
  have hcj := hc j us[j] (by rw [List.getElem?_eq_getElem])
  rw [eu] at ho hcj
  exact ⟨ua, uc, hcj, ho⟩

def AddAt (w : World) (g : Tags) (bp m : Nat) (ao : Option Addr) (cap : Nat) (fs : List (List UInt8)) (gk : Nat) (v4 : Value) (wr : World) : Prop :=
  ∃ (k : Nat) (g' : Tags), k ≤ fs.length ∧ gk = fs.length - k ∧ v4 = .int .i64 (k : Int) ∧ Turn w g wr g' [801, 802] ∧ Kept wr g' bp (m + k) ∧ Lists wr g' 720 (fun j => entTag (m + j)) (.slice ao fs.length cap) fs

set_option maxHeartbeats 4000000 in
theorem frames_add {w : World} {g : Tags} {bp m : Nat} (hK : Kept w g bp m) {ao : Option Addr} {cap : Nat} {fs : List (List UInt8)} (hT : Lists w g 720 (fun j => entTag (m + j)) (.slice ao fs.length cap) fs) (hm : m + fs.length < 1000000000) (hf : ∀ f ∈ fs, f.length ≤ 1000000000) {Q : Ending → World → Prop}
    (h : ∀ w' g', Turn w g w' g' [801, 802] → Kept w' g' bp (m + fs.length) → Q (.returned (.tuple #[])) w') : Calls Tryz.prog 13 #[.pointer (some ⟨bp, 0, none⟩), .slice ao fs.length cap] w Q := by
  have H := Lib.hid h
  have X0 := Lib.hid (And.intro hK hT)
  have HF := Lib.hid hf
  have f0 : (0 : Int) ≤ (fs.length : Int) := by omega
  have f1 : (fs.length : Int) ≤ 1000000000 := by omega
  clear h hK hT hf
  go_enter Tryz.func13, Tryz.ntmps13
  go_wp2_with fail
  go_loopg [4] fs.length (fun gk v4 wr => AddAt w g bp m ao cap fs gk v4 wr)
  case atStart => exact ⟨0, g, Nat.zero_le _, rfl, rfl, Turn.refl _ _ _, X0.out.1, X0.out.2⟩
  case round =>
    obtain ⟨k, g1, hk, rfl, rfl, hT, hK, hTd⟩ := hrel
    have k0 : (0 : Int) ≤ (k : Int) := by omega
    have X := Lib.hid (And.intro hT (And.intro hK hTd))
    clear hT hK X0
    by_cases hlt : k < fs.length
    · have k1 : (k : Int) < (fs.length : Int) := by omega
      obtain ⟨b, off, rfl, hc⟩ := lists_row hTd (by omega)
      obtain ⟨ua, uc, c0, hE⟩ := hc k hlt
      have hfl := HF.out _ (List.getElem_mem hlt)
      have Y := Lib.hid (And.intro hE (And.intro hfl hlt))
      clear hE hfl hc hTd hk
      generalize fs[k] = fk at *
      go_wp2_with fail
      refine kept_add X.out.2.1 (by have := Y.out.2.2; omega) Y.out.1 Y.out.2.1 fun w' g' T K => ?_
      have X2 := Lib.hid (And.intro (X.out.1.trans T (V := [801, 802]) (fun _ h => h) (fun _ h => h)) (And.intro K (X.out.2.2.turn T (by simp) (fun j => by unfold entTag; simp; omega))))
      clear T K X
      go_wp2_with fail
      go_roundg (fs.length - (k + 1))
      case measure => have := Y.out.2.2; omega
      case rel => exact ⟨k + 1, g', Y.out.2.2, rfl, by go_num, X2.out.1, X2.out.2.1, X2.out.2.2⟩
    · obtain rfl : k = fs.length := by omega
      clear hlt hk hTd
      go_wp2_with fail
      go_end0
      exact H.out _ g1 X.out.1 X.out.2.1

theorem frames_none {w : World} {g : Tags} {bp m : Nat} (hK : Kept w g bp m) (hm : m < 1000000000) {Q : Ending → World → Prop}
    (h : ∀ w' g', Turn w g w' g' [801, 802] → Kept w' g' bp m → Q (.returned (.tuple #[])) w') : Calls Tryz.prog 13 #[.pointer (some ⟨bp, 0, none⟩), .slice none 0 0] w Q :=
  frames_add (fs := []) (ao := none) (cap := 0) hK (Lists.nil _ _ _ _) hm (fun f hf => by cases hf) h

theorem kept_apart {w : World} {g : Tags} {bp m : Nat} (hK : Kept w g bp m) {Q : Ending → World → Prop} (h : ∀ w' g', Turn w g w' g' (802 :: entTags m) → Q (.returned (.bool true)) w') :
    Calls Tryz.prog 20 #[.pointer (some ⟨bp, 0, none⟩)] w Q := by
  obtain ⟨cs, hs, hB, h0, hl, hN, hF⟩ := hK
  subst hl
  exact apart_t hB hN hF h

/-! ### Owners named anew -/
def ret (t a k m : Nat) (g : Tags) : Tags := fun b => if t + 4 ≤ g b ∧ g b < t + 4 + Li.M ∧ Li.far (g b - (t + 4)) a < k then entTag (m + Li.far (g b - (t + 4)) a) else g b
theorem ret_low {t a k m : Nat} {g : Tags} {b : Nat} (h : g b < t + 4) : ret t a k m g b = g b := by unfold ret; rw [if_neg (by omega)]
theorem far_add {a j : Nat} (ha : a < Li.M) (hj : j < 16) : Li.far ((a + j) % Li.M) a = j := by unfold Li.far Li.M at *; omega
theorem ret_told {t a k m : Nat} {g : Tags} {b j : Nat} (ha : a < Li.M) (hk : k ≤ 16) (hj : j < k) (h : g b = tt t a j) : ret t a k m g b = entTag (m + j) := by
  unfold tt at h
  have h1 : (a + j) % Li.M < Li.M := Nat.mod_lt _ (by decide)
  have h2 : g b - (t + 4) = (a + j) % Li.M := by omega
  unfold ret
  rw [h2, far_add ha (by omega), if_pos ⟨by omega, by omega, hj⟩]
theorem ret_key {t a k m : Nat} {g : Tags} {b n : Nat} (h : g b = t + 4 + n) (hn : ¬ Li.far n a < k) : ret t a k m g b = g b := by
  have h2 : g b - (t + 4) = n := by omega
  unfold ret
  rw [h2, if_neg (by omega)]

theorem Lists.to {w : World} {g g2 : Tags} {t u : Nat} {t' u' : Nat → Nat} {v : Value} {ls : List (List UInt8)} (h : Lists w g t t' v ls) (hg : ∀ b, g b = t → g2 b = u) (hg' : ∀ j, j < ls.length → ∀ b, g b = t' j → g2 b = u' j) : Lists w g2 u u' v ls := by
  obtain ⟨us, h1, h2, h3⟩ := h
  exact ⟨us, h1.to hg, h2, fun j a b => (h3 j a b).to (hg' j b)⟩
theorem Kept.to {w : World} {g g2 : Tags} {bp m : Nat} (h : Kept w g bp m) (hg : ∀ t, t < 10000000000 → ∀ b, g b = t → g2 b = t) (hm : m < 1000000000) : Kept w g2 bp m := by
  obtain ⟨cs, hs, hB, h0, hl, hN, hF⟩ := h
  obtain ⟨vb, h3, h4⟩ := hB.arr
  refine ⟨cs, hs, ⟨hB.box.to (hg _ (by decide)), ⟨vb, h3, h4.to (hg _ (by decide))⟩, hB.few, hB.ok⟩, h0, hl, hN, fun j hj => ?_⟩
  have := hF j hj
  rw [if_neg (Nat.not_lt_zero _)] at this ⊢
  obtain ⟨xs, hx⟩ := this
  exact ⟨xs, hx.to (hg _ (by unfold entTag; omega))⟩
theorem Early.to {w : World} {g g2 : Tags} {t u : Nat} {a : Option Value} {b : Option (List UInt8)} (h : Early w g t a b) (hg : ∀ b, g b = t → g2 b = u) : Early w g2 u a b := by
  cases a <;> cases b
  · trivial
  · exact h
  · exact h
  · exact Owns.to h hg
theorem EndIs.ret {w : World} {g : Tags} {t eb : Nat} {s : Li.St} {q : Nat} (h : EndIs w g t eb s q) {a k m : Nat} (ha : a < Li.M) (hk : k ≤ 16) (hs : s.awaited = (a + k) % Li.M) : EndIs w (ret t a k m g) t eb s q := by
  obtain ⟨wv, mb, f, h⟩ := h
  have low : ∀ x, x < t + 4 → ∀ b, g b = x → Go.Proofs.YtoedalocfepkoaaGreatDoor.ret t a k m g b = x := fun x hx b hb => (ret_low (by omega)).trans hb
  refine ⟨wv, mb, f, h.cells, low _ (by omega) _ h.tag, h.waits.to (low _ (by omega)) (fun _ _ => low _ (by omega)), h.map, low _ (by omega) _ h.mtag, fun n hn => ?_, h.win, h.few, h.small⟩
  by_cases hf : Li.far n a < k
  · have hno : s.early n = none := by
      cases e : s.early n with
      | none => rfl
      | some b =>
        have := (h.win.2.2 n (by rw [e]; simp)).2
        rw [hs] at this
        unfold Li.far Li.M at *
        omega
    have h1 := h.early n hn
    have h2 := early_none h1 hno
    rw [h2, hno]; trivial
  · exact (h.early n hn).to fun b hb => (ret_key hb hf).trans hb
end Go.Proofs.YtoedalocfepkoaaGreatDoor
