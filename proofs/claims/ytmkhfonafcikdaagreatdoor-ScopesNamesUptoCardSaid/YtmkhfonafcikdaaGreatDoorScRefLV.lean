/- The document's scopes: Library. -/
import Derived.Test.YtmkhfonafcikdaaGreatDoorScRefV
namespace Go.Proofs.YtmkhfonafcikdaaGreatDoor
open Go.RowKit Go.My Go.Nd

set_option maxRecDepth 100000 in
set_option maxHeartbeats 2000000 in
theorem rlib_t {w : World} (s : Tx) : Calls Tryz.prog 17 #[.string (bs s)] w fun e w' => e = .returned (.tuple #[.int .i64 (((libOf s).getD 0 : Nat) : Int), .bool (libOf s).isSome]) ∧ Below w.heap.size w w' := by
  have hT := bsT s
  go_enter Tryz.func17, Tryz.ntmps17
  by_cases h0 : s = [115, 113, 102]
  · subst h0
    go_wp2_with fail
    go_ret2
    exact ⟨rfl, Below.refl _ _⟩
  · by_cases h1 : s = [102, 97, 99]
    · subst h1
      go_wp2_with fail
      go_ret2
      exact ⟨rfl, Below.refl _ _⟩
    · by_cases h2 : s = [98, 97, 115, 105, 115]
      · subst h2
        go_wp2_with fail
        go_ret2
        exact ⟨rfl, Below.refl _ _⟩
      · by_cases h3 : s = [108, 101, 110]
        · subst h3
          go_wp2_with fail
          go_ret2
          exact ⟨rfl, Below.refl _ _⟩
        · by_cases h4 : s = [103, 99, 100]
          · subst h4
            go_wp2_with fail
            go_ret2
            exact ⟨rfl, Below.refl _ _⟩
          · by_cases h5 : s = [100, 101, 103]
            · subst h5
              go_wp2_with fail
              go_ret2
              exact ⟨rfl, Below.refl _ _⟩
            · by_cases h6 : s = [115, 108, 111, 112, 101]
              · subst h6
                go_wp2_with fail
                go_ret2
                exact ⟨rfl, Below.refl _ _⟩
              · by_cases h7 : s = [97, 116]
                · subst h7
                  go_wp2_with fail
                  go_ret2
                  exact ⟨rfl, Below.refl _ _⟩
                · by_cases h8 : s = [97, 100, 100]
                  · subst h8
                    go_wp2_with fail
                    go_ret2
                    exact ⟨rfl, Below.refl _ _⟩
                  · by_cases h9 : s = [114, 101, 115]
                    · subst h9
                      go_wp2_with fail
                      go_ret2
                      exact ⟨rfl, Below.refl _ _⟩
                    · have HL := Lib.hid (show libOf s = none by unfold libOf; simp [h0, h1, h2, h3, h4, h5, h6, h7, h8, h9])
                      have b0 := beq_eq_false_iff_ne.2 h0
                      have b1 := beq_eq_false_iff_ne.2 h1
                      have b2 := beq_eq_false_iff_ne.2 h2
                      have b3 := beq_eq_false_iff_ne.2 h3
                      have b4 := beq_eq_false_iff_ne.2 h4
                      have b5 := beq_eq_false_iff_ne.2 h5
                      have b6 := beq_eq_false_iff_ne.2 h6
                      have b7 := beq_eq_false_iff_ne.2 h7
                      have b8 := beq_eq_false_iff_ne.2 h8
                      have b9 := beq_eq_false_iff_ne.2 h9
                      go_wp2_with fail
                      go_ret2
                      exact ⟨by rw [HL.out]; rfl, Below.refl _ _⟩
end Go.Proofs.YtmkhfonafcikdaaGreatDoor
