/- Programs as trees, plainly: of two signs the one that binds closer: all pairs. No program in sight. -/
import Derived.Test.YtiefpffccmdcoaaDoorPsLitT
namespace Go.Proofs.YtiefpffccmdcoaaDoor
open Go.Nd

def oneB (s : Tx) : Bool := match parse wrapI s with
  | (⟨[], .cons 13 [] (.cons _ _ _ _ _ .nil) .nil .nil .nil⟩, 0, 0) => true
  | _ => false
theorem one_of_B {s : Tx} (h : oneB s = true) : IsOne s := by
  unfold oneB at h
  split at h
  · rename_i k t l b e hp
    unfold IsOne exOf
    rw [hp]
    rfl
  · cases h
def bad6B (s : Tx) (p : Nat) : Bool := match parse wrapI s with
  | (⟨[], .nil⟩, q, 4) => q == p
  | _ => false
theorem bad6_of_B {s : Tx} {p : Nat} (h : bad6B s p = true) : parse wrapI s = (⟨[], .nil⟩, p, 4) := by
  unfold bad6B at h
  split at h
  · rename_i q hp
    rw [hp]; simp at h; rw [h]
  · cases h

def sg8 : List Tx := [[43], [45], [42], [47], [61, 61], [33, 61], [60], [60, 61]]
def sgn (i : Nat) : Tx := sg8.getD i []
def rankOf (s : Tx) : Nat := if s = [42] ∨ s = [47] then 3 else if s = [43] ∨ s = [45] then 2 else 1
def rx (s t : Tx) : Tx := [117, 32] ++ s ++ [32, 118, 32] ++ t ++ [32, 119, 59]
def rf (s t : Tx) : Tx := [40, 117, 32] ++ s ++ [32, 118, 41, 32] ++ t ++ [32, 119, 59]
def rs (s t : Tx) : Tx := [117, 32] ++ s ++ [32, 40, 118, 32] ++ t ++ [32, 119, 41, 59]
def nothing : Tx := [110, 111, 116]
def r1 (s : Tx) : Tx := [45, 117, 32] ++ s ++ [32, 110, 111, 116, 32, 118, 59]
def r2 (s : Tx) : Tx := [40, 45, 117, 41, 32] ++ s ++ [32, 40, 110, 111, 116, 32, 118, 41, 59]
def r3 (s : Tx) : Tx := [45, 117, 94, 50, 32] ++ s ++ [32, 118, 94, 51, 59]
def r4 (s : Tx) : Tx := [40, 45, 40, 117, 94, 50, 41, 41, 32] ++ s ++ [32, 40, 118, 94, 51, 41, 59]
def r5 : Tx := [45, 32, 45, 32, 117, 94, 48, 59]
def r6 : Tx := [45, 40, 45, 40, 117, 94, 48, 41, 41, 59]
def r7 (x : Tx) : Tx := [102, 40, 117, 44, 32] ++ x.dropLast ++ [41, 94, 52, 59]
def r8 (x : Tx) : Tx := [40, 102, 40, 117, 44, 32, 40] ++ x.dropLast ++ [41, 41, 41, 94, 52, 59]
def sameB (a b : Tx) : Bool := oneB a && oneB b && ndEq (exOf a) (exOf b)
def notSameB (a b : Tx) : Bool := oneB a && oneB b && !ndEq (exOf a) (exOf b)
/-- All that the statement asks of two signs. -/
def rankOk (s t : Tx) : Bool :=
  if rankOf s = 1 ∧ rankOf t = 1 then bad6B (rx s t) (5 + s.length) && sameB (rf s t) (rf s t) && sameB (rs s t) (rs s t) && notSameB (rf s t) (rs s t)
  else sameB (rx s t) (if rankOf s < rankOf t then rs s t else rf s t) && notSameB (rf s t) (rs s t) && sameB (r1 s) (r2 s) && sameB (r3 s) (r4 s) && sameB r5 r6 && sameB (r7 (rx s t)) (r8 (rx s t))
theorem ranks_all : (sg8.all fun s => sg8.all fun t => rankOk s t) = true := by kernel_rfl
theorem rank_ok {s t : Tx} (hs : s ∈ sg8) (ht : t ∈ sg8) : rankOk s t = true := List.all_eq_true.1 (List.all_eq_true.1 ranks_all s hs) t ht
end Go.Proofs.YtiefpffccmdcoaaDoor
