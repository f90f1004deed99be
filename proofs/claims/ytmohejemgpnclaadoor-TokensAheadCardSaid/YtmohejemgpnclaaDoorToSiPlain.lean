/- Tokens: signs behind one another. No program in sight. -/
import Derived.Test.YtmohejemgpnclaaDoorToPlain
namespace Go.To

def signToks (k : Nat) : List T := (List.range ((k + 1) / 2)).map fun i => ⟨3, if 2 * i + 1 < k then [61, 61] else [61], 2 * i⟩

theorem signs_read : ∀ k : Fin 40, read (List.replicate k.val 61) = (signToks k.val, 0, 0) := by decide +kernel

def badSign (c : Nat) : Bool := c == 33 || c == 62 || c == 95 || decide (126 < c) || (decide (c < 32) && !(c == 32 || c == 9 || c == 10 || c == 13))

theorem byte_read : ∀ c : Fin 256, (badSign c.val = true → read [40, UInt8.ofNat c.val, 40] = ([], 1, 4)) ∧
    (badSign c.val = false → (read [40, UInt8.ofNat c.val, 40]).2.2 = 0 ∨ ((read [40, UInt8.ofNat c.val, 40]).2.2 = 4 ∧ (read [40, UInt8.ofNat c.val, 40]).2.1 = 1)) := by decide +kernel

theorem signToks_len (k : Nat) : (signToks k).length = (k + 1) / 2 := by simp [signToks]
theorem signToks_at (k i : Nat) (hi : i < (signToks k).length) : (signToks k)[i] = ⟨3, if 2 * i + 1 < k then [61, 61] else [61], 2 * i⟩ := by simp [signToks]
end Go.To
