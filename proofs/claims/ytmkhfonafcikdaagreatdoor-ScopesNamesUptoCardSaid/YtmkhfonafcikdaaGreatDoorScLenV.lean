/- How many names a function has. No program in sight. -/
import Derived.Test.YtmkhfonafcikdaaGreatDoorScChkV
namespace Go.Nd
theorem ownN_len (args : List Tx) (b : Ns) : (ownN args b).length ≤ args.length + b.flat.length := by
  have h1 : ∀ (ss l : List Tx), (addAll l ss).length ≤ l.length + ss.length := by
    intro ss
    induction ss with
    | nil => intro l; exact Nat.le_refl _
    | cons s ss ih =>
      intro l
      have h1 := ih (addN l s)
      have h2 : (addN l s).length ≤ l.length + 1 := by
        unfold addN; split
        · omega
        · simp
      show (addAll (addN l s) ss).length ≤ _
      simp only [List.length_cons]; omega
  have q1 := h1 args []
  have q2 := h1 (lets b) (addAll [] args)
  have q3 : (lets b).length ≤ b.flat.length := by
    unfold lets
    rw [List.length_map]
    exact List.length_filter_le _ _
  rw [List.length_nil] at q1
  unfold ownN
  omega
end Go.Nd
namespace Go.Proofs.YtmkhfonafcikdaaGreatDoor
open Go.RowKit Go.My Go.Nd
theorem locals_len {p : Pr} (hS : SmallP p) (f : Int) : (locals wrapI p f).length ≤ 2000000 := by
  unfold locals
  split
  · exact Nat.zero_le _
  · split
    · have h1 := ownN_len [] p.body
      have h2 := hS.body
      rw [List.length_nil] at h1
      omega
    · split
      · rename_i g hg
        have h1 := ownN_len g.args g.body
        have h2 := hS.each g (List.mem_of_getElem? hg)
        omega
      · exact Nat.zero_le _
end Go.Proofs.YtmkhfonafcikdaaGreatDoor
