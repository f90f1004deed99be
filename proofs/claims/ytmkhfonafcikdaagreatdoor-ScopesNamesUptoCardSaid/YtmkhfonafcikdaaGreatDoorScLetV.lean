/- Scopes: letters; is a text one. -/
import Derived.Test.YtmkhfonafcikdaaGreatDoorTrC1
import Derived.Test.YtmkhfonafcikdaaGreatDoorTrC2
namespace Go.Proofs.YtmkhfonafcikdaaGreatDoor
open Go.RowKit Go.My Go.Nd

/-- The literal of the four letters. -/
def letObj : Obj := .cells #[.string ⟨#[120]⟩, .string ⟨#[121]⟩, .string ⟨#[122]⟩, .string ⟨#[116]⟩] 9
set_option maxRecDepth 100000 in
theorem letters_t {w : World} : Calls Tryz.prog 33 #[] w fun e w' => e = .returned (.slice (some ⟨w.heap.size, 0, none⟩) 4 4) ∧ w' = w.alloc letObj := by
  go_enter Tryz.func33, Tryz.ntmps33
  go_wp2_with fail
  go_ret
  exact ⟨rfl, rfl⟩

theorem contains_let (l : Tx) : Lib.containsS (Go.Nd.letters.map bs) (bs l) = Go.Nd.letters.contains l := by
  rw [Bool.eq_iff_iff, Lib.containsS_iff]
  simp only [List.mem_map, List.contains_iff_mem]
  constructor
  · rintro ⟨x, hx, he⟩
    have : x = l := by rw [← bs_list x, he, bs_list]
    rw [← this]; exact hx
  · intro h; exact ⟨l, h, rfl⟩

/-- slices.Contains over the literal, wherever it lies. -/
theorem islet_t {w : World} {b : Nat} (hb : w.heap[b]? = some (.cells #[.string ⟨#[120]⟩, .string ⟨#[121]⟩, .string ⟨#[122]⟩, .string ⟨#[116]⟩] 9 (0, 0))) (l : Tx) :
    Calls Tryz.prog 32 #[.slice (some ⟨b, 0, none⟩) 4 4, .string (bs l)] w fun e w' => e = .returned (.bool (Go.Nd.letters.contains l)) ∧ w' = w := by
  refine Calls.mono (Tryz.slices_Contains_string b 0 4 4 (Go.Nd.letters.map bs) (bs l) _ (by decide) (by decide) (fun j hj => ?_)) ?_
  · rw [cell_of_row _ b (0 + j) _ 9 (0, 0) hb]
    have hj7 : j < 4 := hj
    match j, hj7 with
    | 0, _ => rfl
    | 1, _ => rfl
    | 2, _ => rfl
    | 3, _ => rfl
  · rintro e w' ⟨rfl, rfl⟩
    rw [show (Go.Nd.letters.map bs).take 4 = Go.Nd.letters.map bs from rfl, contains_let]
    exact ⟨rfl, rfl⟩
end Go.Proofs.YtmkhfonafcikdaaGreatDoor
