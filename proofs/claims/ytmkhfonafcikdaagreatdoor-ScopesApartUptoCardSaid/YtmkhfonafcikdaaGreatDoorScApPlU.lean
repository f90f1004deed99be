/- The name that is longer than all others, put together step by step; the four programs are small. No program in sight. -/
import Derived.Test.YtmkhfonafcikdaaGreatDoorScBulk2U
import Derived.Test.YtmkhfonafcikdaaGreatDoorTrB3
import Derived.Test.YtmkhfonafcikdaaGreatDoorScLocU
namespace Go.Nd
def partsN (p : Pr) : List Tx := (ownN [] p.body).flatten :: p.funcs.map nameF
/-- The name, after so many rounds. -/
def upName (p : Pr) (k : Nat) : Tx := [111, 119, 110, 95] ++ ((partsN p).take k).flatten
theorem partsN_len (p : Pr) : (partsN p).length = p.funcs.length + 1 := by simp [partsN]
theorem upName_zero (p : Pr) : upName p 0 = [111, 119, 110, 95] := rfl
theorem upName_one (p : Pr) : upName p 1 = upName p 0 ++ (ownN [] p.body).flatten := by simp [upName, partsN]
theorem upName_succ (p : Pr) (f : Nat) (hf : f < p.funcs.length) : upName p (f + 1 + 1) = upName p (f + 1) ++ (ownN (p.funcs[f]).args (p.funcs[f]).body).flatten ++ (p.funcs[f]).name := by
  have h : f < (p.funcs.map nameF).length := by simpa using hf
  unfold upName partsN
  rw [List.take_succ_cons, List.take_succ_cons, List.take_succ_eq_append_getElem h, List.getElem_map]
  simp [nameF]
theorem upName_all (p : Pr) : upName p (p.funcs.length + 1) = bigName p := by
  unfold upName
  rw [← partsN_len, List.take_length]
  simp [partsN, bigName]
theorem upName_le (p : Pr) (k : Nat) : (upName p k).length ≤ (bigName p).length := by
  rw [← upName_all, ← partsN_len]
  have e : ((partsN p).take (partsN p).length).flatten = ((partsN p).take k).flatten ++ ((partsN p).drop k).flatten := by
    rw [List.take_length, ← List.flatten_append, List.take_append_drop]
  unfold upName
  rw [e]
  simp only [List.length_append]; omega
theorem take_flat {l : List Tx} {i : Nat} (hi : i < l.length) : (l.take (i + 1)).flatten = (l.take i).flatten ++ l[i] := by
  rw [List.take_succ_eq_append_getElem hi, List.flatten_append]; simp

/-! How long it is. -/
theorem addAll_flat (ss : List Tx) : ∀ l : List Tx, (addAll l ss).flatten.length ≤ l.flatten.length + ss.flatten.length := by
  induction ss with
  | nil => intro l; exact Nat.le_refl _
  | cons s ss ih =>
    intro l
    have h1 := ih (addN l s)
    have h2 : (addN l s).flatten.length ≤ l.flatten.length + s.length := by
      unfold addN; split
      · omega
      · simp
    show (addAll (addN l s) ss).flatten.length ≤ _
    rw [List.flatten_cons, List.length_append]; omega
theorem texts_sz : ∀ xs : Ns, (xs.flat.map (·.text)).flatten.length ≤ xs.sz := by
  intro xs
  induction xs with
  | nil => exact Nat.le_refl _
  | cons k t l b e r ihl ihb ihe ihr =>
    show ((⟨k, t, l, b, e⟩ :: (l.flat ++ (b.flat ++ (e.flat ++ r.flat))) : List Nd).map (·.text)).flatten.length ≤ 1 + t.length + l.sz + b.sz + e.sz + r.sz
    simp only [List.map_cons, List.map_append, List.flatten_cons, List.flatten_append, List.length_append]
    omega
theorem filter_flat (q : Nd → Bool) (l : List Nd) : ((l.filter q).map (·.text)).flatten.length ≤ (l.map (·.text)).flatten.length := by
  induction l with
  | nil => exact Nat.le_refl _
  | cons x l ih =>
    rw [List.filter_cons]
    split
    · simp only [List.map_cons, List.flatten_cons, List.length_append]; omega
    · simp only [List.map_cons, List.flatten_cons, List.length_append]; omega
theorem args_flat (l : List (List UInt8)) : l.flatten.length ≤ (l.map (fun x : List UInt8 => x.length + 1)).sum := by
  induction l with
  | nil => exact Nat.le_refl _
  | cons x l ih => simp only [List.flatten_cons, List.length_append, List.map_cons, List.sum_cons]; omega
theorem own_flat (args : List Tx) (b : Ns) : (ownN args b).flatten.length ≤ (args.map (fun x : List UInt8 => x.length + 1)).sum + b.sz := by
  have h1 := addAll_flat args []
  have h2 := addAll_flat (lets b) (addAll [] args)
  have h3 : (lets b).flatten.length ≤ b.sz := Nat.le_trans (filter_flat _ _) (texts_sz b)
  have h4 := args_flat args
  rw [List.flatten_nil, List.length_nil] at h1
  unfold ownN
  omega
theorem big_len {p : Pr} (h : psz p ≤ 1048576) : (bigName p).length ≤ 1048580 := by
  have h1 := own_flat [] p.body
  have h2 : ((p.funcs.map nameF).flatten).length ≤ (p.funcs.map fsz).sum := by
    generalize p.funcs = fs
    induction fs with
    | nil => exact Nat.le_refl _
    | cons f fs ih =>
      have h3 := own_flat f.args f.body
      have e1 : (nameF f).length = (ownN f.args f.body).flatten.length + f.name.length := by unfold nameF; rw [List.length_append]
      have e2 : fsz f = 1 + f.name.length + (f.args.map (fun x : List UInt8 => x.length + 1)).sum + f.body.sz := rfl
      simp only [List.map_cons, List.flatten_cons, List.length_append, List.sum_cons]
      omega
  unfold psz at h
  unfold bigName
  simp only [List.length_append, List.length_cons, List.length_nil]
  simp only [List.map_nil, List.sum_nil] at h1
  omega

/-! The four programs are small. -/
theorem small_half {p : Pr} (h : psz2 p ≤ 1048576) {q : Pr} (hf : q.funcs = p.funcs ∨ ∃ g, q.funcs = p.funcs ++ [g] ∧ g.args.length ≤ 10 ∧ g.body.flat.length ≤ 10) (hb : q.body.flat.length ≤ p.body.flat.length + 10) : SmallP q := by
  obtain ⟨h1, h2, h3⟩ := half_of_psz2 h
  have hS := small_of_psz h1
  rcases hf with hf | ⟨g, hf, g1, g2⟩
  · exact ⟨by rw [hf]; omega, by rw [hf]; exact hS.each, by omega⟩
  · refine ⟨by rw [hf, List.length_append, List.length_singleton]; omega, fun f hm => ?_, by omega⟩
    rw [hf] at hm
    rcases List.mem_append.1 hm with hm | hm
    · exact hS.each f hm
    · obtain rfl := List.mem_singleton.1 hm
      omega
end Go.Nd
namespace Go.Proofs.YtmkhfonafcikdaaGreatDoor
open Go.Nd
theorem apart_small {p : Pr} (h : psz2 p ≤ 1048576) : SmallP (apart1 p) ∧ SmallP (apart2 p) ∧ SmallP (apart3 p) ∧ SmallP (apart4 p) := by
  have e1 : ((usesN (bigName p) .nil).app p.body).flat.length = p.body.flat.length + 2 := by rw [app_flat, uses_flat]; simp
  have e2 : (((usesN (bigName p) .nil).app p.body).app (setsN (bigName p))).flat.length = p.body.flat.length + 4 := by rw [app_flat, List.length_append, e1, sets_flat]; simp
  have e3 : (usesN (bigName p) .nil).flat.length = 2 := by rw [uses_flat]; rfl
  refine ⟨small_half h (.inl rfl) ?_, small_half h (.inl rfl) ?_, small_half h (.inr ⟨_, rfl, ?_, ?_⟩) ?_, small_half h (.inr ⟨_, rfl, ?_, ?_⟩) ?_⟩
  · show ((usesN (bigName p) .nil).app p.body).flat.length ≤ _; omega
  · show (((usesN (bigName p) .nil).app p.body).app (setsN (bigName p))).flat.length ≤ _; omega
  · exact Nat.zero_le _
  · show (usesN (bigName p) .nil).flat.length ≤ _; omega
  · show (((usesN (bigName p) .nil).app p.body).app (setsN (bigName p))).flat.length ≤ _; omega
  · exact (by decide : 1 ≤ 10)
  · show (usesN (bigName p) .nil).flat.length ≤ _; omega
  · show (((usesN (bigName p) .nil).app p.body).app (setsN (bigName p))).flat.length ≤ _; omega
end Go.Proofs.YtmkhfonafcikdaaGreatDoor
