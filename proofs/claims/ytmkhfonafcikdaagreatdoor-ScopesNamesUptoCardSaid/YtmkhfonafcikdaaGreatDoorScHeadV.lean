/- Scopes, plainly: functions one after the other; and as the document goes. No program in sight. -/
import Derived.Test.YtmkhfonafcikdaaGreatDoorTrC1
import Derived.Test.YtmkhfonafcikdaaGreatDoorScLetsV
namespace Go.Nd

theorem dup_snoc (l : List Tx) (s : Tx) : dup (l ++ [s]) = (dup l || l.contains s) := by
  induction l with
  | nil => simp [dup]
  | cons x l ih =>
    rw [List.cons_append]
    unfold dup
    rw [ih]
    have : (l ++ [s]).contains x = (l.contains x || x == s) := by
      rw [Bool.eq_iff_iff]
      simp
    rw [this, List.contains_cons]
    have : (x == s) = (s == x) := by rw [Bool.eq_iff_iff]; simp only [beq_iff_eq]; exact ⟨Eq.symm, Eq.symm⟩
    rw [this]
    cases l.contains x <;> cases (s == x) <;> cases dup l <;> cases l.contains s <;> rfl
theorem dup_app {l m : List Tx} (h : dup l = true) : dup (l ++ m) = true := by
  induction l with
  | nil => cases h
  | cons x l ih =>
    unfold dup at h
    rw [List.cons_append]
    unfold dup
    rw [Bool.or_eq_true] at h ⊢
    rcases h with h | h
    · left
      simp only [List.contains_iff_mem] at h ⊢
      exact List.mem_append_left _ h
    · exact .inr (ih h)
theorem dup_take {l : List Tx} {i : Nat} (h : dup (l.take i) = true) : dup l = true := by
  have := dup_app (m := l.drop i) h
  rwa [List.take_append_drop] at this
/-- Of texts the first i are all different; is the next one, too? -/
theorem dup_next {l : List Tx} {i : Nat} (hi : i < l.length) (h : dup (l.take i) = false) : dup (l.take (i + 1)) = (l.take i).contains l[i] := by
  rw [List.take_succ_eq_append_getElem hi, dup_snoc, h, Bool.false_or]
theorem addAll_take {l : List Tx} {i : Nat} (h : dup (l.take i) = false) : addAll [] (l.take i) = l.take i := by
  have := addAll_self (l.take i) [] (by rw [List.nil_append]; exact (dup_iff _).1 h)
  simpa using this

/-! ### Functions' heads, one after the other -/
def headsTo (fs : List Fn) (i : Nat) : Prop := (∀ f ∈ fs.take i, headOk f = true) ∧ dup ((fs.take i).map (·.name)) = false
theorem headsTo_zero (fs : List Fn) : headsTo fs 0 := ⟨(fun f h => by simp at h), rfl⟩
theorem names_take (fs : List Fn) (i : Nat) : (fs.take i).map (·.name) = (fs.map (·.name)).take i := List.map_take
theorem headsTo_succ {fs : List Fn} {i : Nat} (h : headsTo fs i) (hi : i < fs.length) (h1 : headOk fs[i] = true) (h2 : ((fs.take i).map (·.name)).contains (fs[i]).name = false) : headsTo fs (i + 1) := by
  refine ⟨fun f hf => ?_, ?_⟩
  · rw [List.take_succ_eq_append_getElem hi, List.mem_append] at hf
    rcases hf with hf | hf
    · exact h.1 f hf
    · rw [List.mem_singleton] at hf; rw [hf]; exact h1
  · rw [names_take, dup_next (by rw [List.length_map]; exact hi) (by rw [← names_take]; exact h.2), ← names_take, List.getElem_map]
    exact h2
theorem headsTo_all {fs : List Fn} (h : headsTo fs fs.length) : headsOk fs = true := by
  obtain ⟨h1, h2⟩ := h
  rw [List.take_length] at h1 h2
  unfold headsOk
  rw [h2, Bool.and_eq_true, List.all_eq_true]
  exact ⟨h1, rfl⟩
theorem heads_bad {fs : List Fn} {i : Nat} (hi : i < fs.length) (h : headOk fs[i] = false ∨ ((fs.take i).map (·.name)).contains (fs[i]).name = true) : headsOk fs = false := by
  unfold headsOk
  rcases h with h | h
  · have : fs.all headOk = false := by
      rw [List.all_eq_false]
      exact ⟨fs[i], List.getElem_mem hi, by rw [h]; simp⟩
    rw [this]; rfl
  · have : dup (fs.map (·.name)) = true := by
      refine dup_take (i := i + 1) ?_
      rw [List.take_succ_eq_append_getElem (by rw [List.length_map]; exact hi), dup_snoc, ← names_take, List.getElem_map, h, Bool.or_true]
    rw [this]; simp
theorem nodup_of_heads {fs : List Fn} (h : headsOk fs = true) : (fs.map (·.name)).Nodup := by
  unfold headsOk at h
  simp only [Bool.and_eq_true, Bool.not_eq_true'] at h
  exact (dup_iff _).1 h.2
theorem scheck_bad {wrap : Int → Int} {p : Pr} (hc : check wrap p = true) (h : (headsOk p.funcs && finesOk p) = false) : scheck wrap p = 7 := by
  unfold scheck
  rw [if_pos hc, h]; rfl
theorem scheck_ok {wrap : Int → Int} {p : Pr} (hc : check wrap p = true) (h : headsOk p.funcs = true) (h2 : finesOk p = true) : scheck wrap p = 0 := by
  unfold scheck
  rw [if_pos hc, h, h2]; rfl
theorem scheck_arg {wrap : Int → Int} {p : Pr} (hc : check wrap p = false) : scheck wrap p = 1 := by
  unfold scheck
  rw [hc]; rfl
theorem manyOf_snoc (fs : List Fn) (f : Fn) (s : Tx) : manyOf (fs ++ [f]) s = if f.name = s then some f.args.length else manyOf fs s := by
  unfold manyOf
  rw [List.foldl_append]; rfl
theorem manyOf_take {fs : List Fn} {i : Nat} (hi : i < fs.length) (s : Tx) : manyOf (fs.take (i + 1)) s = if (fs[i]).name = s then some (fs[i]).args.length else manyOf (fs.take i) s := by
  rw [List.take_succ_eq_append_getElem hi, manyOf_snoc]
/-- All parts: the functions, and the body as one. -/
def partsOf (p : Pr) : List Fn := p.funcs ++ [⟨[], [], p.body⟩]
theorem fines_is (p : Pr) : finesOk p = !(partsOf p).any fun f => !fineF (manyOf p.funcs) f.args f.body := by
  unfold finesOk partsOf
  rw [List.any_append, List.any_cons, List.any_nil, Bool.or_false, Bool.not_or, Bool.not_not, List.not_any_eq_all_not]
  simp only [Bool.not_not]

/-! ### As the document goes -/
def callsP (fs : List Fn) (s : Tx) (k : Nat) : Bool := match fs.find? (fun f => f.name == s) with | some f => f.args.length == k | none => libOf s == some k
def knownX (fs : List Fn) (own : List Tx) (x : Nd) : Bool := !((x.kind == 2 && !letters.contains x.text && !own.contains x.text) || (x.kind == 4 && !callsP fs x.text x.l.len))
def known (fs : List Fn) (own : List Tx) (xs : Ns) : Bool := xs.flat.all (knownX fs own)
def knownOne (fs : List Fn) (own : List Tx) (x : Nd) : Bool := knownX fs own x && known fs own x.l && known fs own x.body && known fs own x.els
theorem known_items (fs : List Fn) (own : List Tx) (xs : Ns) : known fs own xs = xs.items.all (knownOne fs own) := by
  induction xs with
  | nil => rfl
  | cons k t l b e r _ _ _ ih =>
    show (_ :: (l.flat ++ (b.flat ++ (e.flat ++ r.flat)))).all _ = (_ :: r.items).all _
    rw [List.all_cons, List.all_append, List.all_append, List.all_append, List.all_cons, ← ih]
    unfold knownOne known
    simp only [Bool.and_assoc]
theorem callsP_many {fs : List Fn} (h : (fs.map (·.name)).Nodup) (s : Tx) (k : Nat) : callsP fs s k = (match manyOf fs s with | some n => n == k | none => libOf s == some k) := by
  unfold callsP
  cases hf : fs.find? (fun f => f.name == s) with
  | none =>
    rw [List.find?_eq_none] at hf
    rw [manyOf_none fun f hm e => hf f hm (by simp [e])]
  | some f =>
    have h1 := List.find?_some hf
    have h2 := List.mem_of_find?_eq_some hf
    simp only [beq_iff_eq] at h1
    rw [← h1, manyOf_some h h2]
theorem fine_known {fs : List Fn} (h : (fs.map (·.name)).Nodup) (own : List Tx) (x : Nd) : knownX fs own x = fineX own (manyOf fs) x := by
  unfold knownX fineX
  by_cases h2 : x.kind = 2
  · have h2' : (x.kind == 2) = true := by simp [h2]
    have h4' : (x.kind == 4) = false := by simp [h2]
    rw [if_pos h2, h2', h4']
    cases letters.contains x.text <;> cases own.contains x.text <;> rfl
  · have h2' : (x.kind == 2) = false := by simp [h2]
    rw [if_neg h2, h2']
    by_cases h4 : x.kind = 4
    · have h4' : (x.kind == 4) = true := by simp [h4]
      rw [if_pos h4, h4', callsP_many h, Bool.false_and, Bool.false_and, Bool.false_or, Bool.true_and, Bool.not_not]
      cases manyOf fs x.text <;> rfl
    · have h4' : (x.kind == 4) = false := by simp [h4]
      rw [if_neg h4, h4']; rfl
theorem known_fine {fs : List Fn} (h : (fs.map (·.name)).Nodup) (args : List Tx) (b : Ns) : known fs (ownN args b) b = fineF (manyOf fs) args b := by
  unfold known fineF
  congr 1
  funext x
  exact fine_known h _ x
end Go.Nd
