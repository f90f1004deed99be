/- Frames: the contracts by owners, as far as FramesCame asks. -/
import Derived.Test.YtolkphbnneoloaaDoorFrCame
import Derived.Test.YtolkphbnneoloaaDoorSame
import Derived.Test.YtolkphbnneoloaaDoorTag
namespace Go.Proofs.YtolkphbnneoloaaDoor
open Go.RowKit Go.My

/-- The blocks that a reader uses. -/
def Use (rb : Nat) (g : Option Nat) (b : Nat) : Prop := b = rb ∨ g = some b

theorem came_broken {w : World} {rb : Nat} {v : Value} {g : Option Nat} {buf : List UInt8} (hR : Rd w rb v g buf true) (va : Value) :
    Calls Tryd.prog 15 #[.pointer (some ⟨rb, 0, none⟩), va] w fun e w' => e = .returned (.tuple #[.slice none 0 0, .int .i64 10]) ∧ w = w' := by
  obtain ⟨k0, k1, k2, kf⟩ := hR.cell
  clear kf hR
  go_enter Tryd.func15, Tryd.ntmps15
  go_wp2
  go_ret2
  exact ⟨rfl, rfl⟩

theorem left_said {w : World} {rb : Nat} {v : Value} {g : Option Nat} {buf : List UInt8} {broken : Bool} (hR : Rd w rb v g buf broken) :
    Calls Tryd.prog 18 #[.pointer (some ⟨rb, 0, none⟩)] w fun e w' => e = .returned (.int .i64 buf.length) ∧ w = w' := by
  obtain ⟨ao, cap, rfl⟩ := Own.form hR.2.1
  obtain ⟨k0, k1, k2, kf⟩ := hR.cell
  clear kf hR
  go_enter Tryd.func18, Tryd.ntmps18
  go_wp2
  go_ret
  exact ⟨rfl, rfl⟩

/-- A new reader. -/
def NewSaid (w : World) (e : Ending) (w' : World) : Prop :=
  ∃ rb, e = .returned (.pointer (some ⟨rb, 0, none⟩)) ∧ rb = w.heap.size ∧ Rd w' rb (.slice none 0 0) none [] false ∧ w' = w.alloc (.cells #[.slice none 0 0, .bool true, .bool false] 61)

theorem new_said (w : World) : Calls Tryd.prog 13 #[] w (NewSaid w) := by
  go_enter Tryd.func13, Tryd.ntmps13
  go_wp2
  go_ret
  exact ⟨w.heap.size, rfl, rfl, ⟨_root_.Go.heap_alloc_new w _, Own.nil _ _ _, by simp⟩, rfl⟩

theorem Rd.frame {w w' : World} {rb : Nat} {v : Value} {g : Option Nat} {buf : List UInt8} {broken : Bool} (h : Rd w rb v g buf broken) (hs : ∀ k, Use rb g k → k < w.heap.size → w'.heap[k]? = w.heap[k]?) : Rd w' rb v g buf broken :=
  ⟨(hs rb (.inl rfl) (Array.getElem?_eq_some_iff.1 h.1).1).trans h.1, h.2.1.frame fun k hk => hs k (.inr hk) (h.2.1.lt k hk), h.2.2⟩

theorem Rd.use_lt {w : World} {rb : Nat} {v : Value} {g : Option Nat} {buf : List UInt8} {broken : Bool} (h : Rd w rb v g buf broken) : ∀ k, Use rb g k → k < w.heap.size := by
  rintro k (hk | hk)
  · rw [hk]; exact (Array.getElem?_eq_some_iff.1 h.1).1
  · exact h.2.1.lt k hk

/-- A reader that t owns. -/
def Reader (w : World) (g : Tags) (t : Nat) (rb : Nat) (buf : List UInt8) (broken : Bool) : Prop :=
  ∃ v k, Rd w rb v k buf broken ∧ ∀ b, Use rb k b → g b = t

theorem Reader.turn {w w' : World} {g g' : Tags} {T : List Nat} {t rb : Nat} {buf : List UInt8} {broken : Bool} (h : Reader w g t rb buf broken) (k : Turn w g w' g' T) (ht : t ∉ T) : Reader w' g' t rb buf broken := by
  obtain ⟨v, r, hr, hu⟩ := h
  exact ⟨v, r, hr.frame fun b hb hlt => k.block b hlt (by rw [hu b hb]; exact ht), fun b hb => (k.old b (hr.use_lt b hb)).trans (hu b hb)⟩

theorem broken_t {w : World} {g : Tags} {tr : Nat} {rb : Nat} {buf : List UInt8} (hR : Reader w g tr rb buf true) (va : Value) {Q : Ending → World → Prop}
    (h : Q (.returned (.tuple #[.slice none 0 0, .int .i64 10])) w) : Calls Tryd.prog 15 #[.pointer (some ⟨rb, 0, none⟩), va] w Q := by
  obtain ⟨v, r, hr, hu⟩ := hR
  refine (came_broken hr va).mono ?_
  rintro e w' ⟨rfl, rfl⟩
  exact h

theorem rleft_t {w : World} {g : Tags} {tr : Nat} {rb : Nat} {buf : List UInt8} {broken : Bool} (hR : Reader w g tr rb buf broken) {Q : Ending → World → Prop}
    (h : Q (.returned (.int .i64 buf.length)) w) : Calls Tryd.prog 18 #[.pointer (some ⟨rb, 0, none⟩)] w Q := by
  obtain ⟨v, r, hr, hu⟩ := hR
  refine (left_said hr).mono ?_
  rintro e w' ⟨rfl, rfl⟩
  exact h

theorem new_t (w : World) (g : Tags) (t : Nat) {Q : Ending → World → Prop}
    (h : ∀ rb w' g', Turn w g w' g' [] → Reader w' g' t rb [] false → Q (.returned (.pointer (some ⟨rb, 0, none⟩))) w') : Calls Tryd.prog 13 #[] w Q := by
  refine (new_said w).mono ?_
  rintro e w' ⟨rb, rfl, hrb, hR, rfl⟩
  refine h rb _ _ (Turn.alloc w g t _) ⟨_, _, hR, ?_⟩
  rintro b (hb | hb)
  · rw [Tags.ext_new _ _ _ _ (by omega)]
  · cases hb
end Go.Proofs.YtolkphbnneoloaaDoor
