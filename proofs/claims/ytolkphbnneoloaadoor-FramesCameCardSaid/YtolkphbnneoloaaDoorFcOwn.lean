/- Frames: what Came tells is memory of its own, each list by itself. -/
import Derived.Test.YtolkphbnneoloaaDoorFcUse
import Derived.Test.YtolkphbnneoloaaDoorBk5
namespace Go.Proofs.YtolkphbnneoloaaDoor
open Go.RowKit Go.My

/-- Lists of bytes that are told: the list of them is tl's, each one has an owner of its own, from m on. -/
structure Told (w : World) (g : Tags) (tl m : Nat) (ao : Option Addr) (cap : Nat) (fs : List (List UInt8)) (gs : List Nat) : Prop where
  len : gs.length = fs.length
  own : Owns w g tl 22 1 (.slice ao fs.length cap) fs.length (List.zipWith frameVal gs fs)
  each : ∀ j (h : j < gs.length) (h' : j < fs.length), Owns w g (entTag (m + j)) bytesU8 1 (frameVal gs[j] fs[j]) (fs[j]).length ((fs[j]).map byteCell)

theorem Told.turn {w w' : World} {g g' : Tags} {T : List Nat} {tl m : Nat} {ao : Option Addr} {cap : Nat} {fs : List (List UInt8)} {gs : List Nat} (h : Told w g tl m ao cap fs gs) (k : Turn w g w' g' T) (h1 : tl ∉ T) (h2 : ∀ j, m ≤ j → entTag j ∉ T) : Told w' g' tl m ao cap fs gs :=
  ⟨h.len, h.own.turn k h1, fun j a b => (h.each j a b).turn k (h2 _ (Nat.le_add_right _ _))⟩

theorem Told.reads {w : World} {g : Tags} {tl m : Nat} {ao : Option Addr} {cap : Nat} {fs : List (List UInt8)} {gs : List Nat} (h : Told w g tl m ao cap fs gs) : FramesIn w (fun _ => True) (.slice ao fs.length cap) fs := by
  refine ⟨List.zipWith frameVal gs fs, RowIn.mono h.own.row (fun _ _ _ => trivial), by simp [h.len], fun j hj hj' => ?_⟩
  have hjg : j < gs.length := by rw [h.len]; exact hj'
  rw [List.getElem_zipWith]
  exact BytesIn.mono (h.each j hjg hj').bytes (fun _ _ _ => trivial)

/-- The owners behind Came. -/
noncomputable def toldTags (g : Tags) (n rb : Nat) (r : Option Nat) (gl : Option Nat) (gs : List Nat) (tr tl m : Nat) : Tags := fun b =>
  open Classical in if b < n then g b else if Use rb r b then tr else if gl = some b then tl else entTag (m + gs.idxOf b)

theorem own_of_cells {w : World} {g : Tags} {t b : Nat} {l : List UInt8} (hh : w.heap[b]? = some (.cells (l.map byteCell).toArray 5 (0, 0))) (hl : l.length ≤ 65536) (hg : g b = t) : Owns w g t bytesU8 1 (frameVal b l) l.length (l.map byteCell) := by
  refine ⟨some b, ⟨by simp, .inr ⟨b, 0, l.length, _, rfl, rfl, hh, Nat.le_refl _, by unfold maxLen; omega, by simp, ?_⟩⟩, fun b' hb' => by cases hb'; exact hg⟩
  rw [Nat.mul_one, List.drop_zero]
  exact List.take_of_length_le (by simp)

theorem came_o {w : World} {g : Tags} {tr : Nat} (tl m : Nat) {rb : Nat} {buf : List UInt8} (hR : Reader w g tr rb buf false) {tv : Nat} {va : Value} {c : List UInt8} (hv : Bytes w g tv va c) (hsz : buf.length + c.length ≤ 1000000000)
    {fs : List (List UInt8)} {rest : List UInt8} {k : Bool} (hall : Fr.all (buf ++ c) = (fs, rest, k)) {n : Int} (hn : (if k then 3 else 0) = n) {Q : Ending → World → Prop}
    (h : ∀ ao cap gs w' g', Turn w g w' g' [tr] → Told w' g' tl m ao cap fs gs → Reader w' g' tr rb rest k → Q (.returned (.tuple #[.slice ao fs.length cap, .int .i64 n])) w') :
    Calls Tryd.prog 15 #[.pointer (some ⟨rb, 0, none⟩), va] w Q := by
  obtain ⟨v, r, hr, hu⟩ := hR
  have hrb : rb < w.heap.size := (Array.getElem?_eq_some_iff.1 hr.1).1
  refine (came_any w rb v r buf hr _ va c hv hsz).mono ?_
  rintro e w' ⟨vl, gl, gs, v', r', he, hF, h1, h2, hR', h3, h4, h5, h6, h7⟩
  rw [hall] at he hF hR'
  simp only at he hF hR'
  obtain ⟨ao, cap, rfl⟩ := Own.form hF.own
  subst he
  simp only [hn]
  have old : ∀ b, b < w.heap.size → toldTags g w.heap.size rb r' gl gs tr tl m b = g b := fun b hb => by unfold toldTags; rw [if_pos hb]
  refine h ao cap gs w' (toldTags g w.heap.size rb r' gl gs tr tl m) ⟨h7.os, h7.tape, h7.output, h7.size, old, fun b hb hn => h6 b hb (fun e => hn (by rw [hu b (.inl e)]; exact List.mem_singleton.2 rfl)) (fun e => hn (by rw [hu b (.inr e.symm)]; exact List.mem_singleton.2 rfl))⟩ ⟨hF.len, ⟨gl, hF.own, fun b hb => ?_⟩, fun j hj hj' => ?_⟩ ⟨v', r', hR', fun b hb => ?_⟩
  · have := h2 b hb
    unfold toldTags
    rw [if_neg (by omega), if_neg, if_pos hb]
    rintro (e | e)
    · omega
    · exact h4 b hb e
  · refine own_of_cells (hF.cells j hj hj') (hF.most _ (List.getElem_mem hj')) ?_
    have hm := List.getElem_mem hj
    have := h1 _ hm
    unfold toldTags
    rw [if_neg (by omega), if_neg, if_neg]
    · rw [List.Nodup.idxOf_getElem hF.nodup j hj]
    · intro e; exact hF.apart _ e hm
    · rintro (e | e)
      · omega
      · exact h3 _ hm e
  · unfold toldTags
    by_cases hlt : b < w.heap.size
    · rw [if_pos hlt]
      refine hu b ?_
      rcases hb with hb | hb
      · exact .inl hb
      · rcases h5 with h5 | h5 | ⟨q, h5, h5'⟩
        · exact .inr (by rw [← h5]; exact hb)
        · rw [h5] at hb; cases hb
        · rw [h5] at hb; cases hb; omega
    · rw [if_neg hlt, if_pos hb]
end Go.Proofs.YtolkphbnneoloaaDoor
