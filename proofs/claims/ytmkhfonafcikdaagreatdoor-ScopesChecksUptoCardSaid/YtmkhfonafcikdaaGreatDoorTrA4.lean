/- Texts put together: MapStr, Tag2, ToIt, ToIt2, PxPut, NdUntw. -/
import Derived.Test.YtmkhfonafcikdaaGreatDoorTrA3
import Derived.Test.YtmkhfonafcikdaaGreatDoorTrA2
import Derived.StringKeys
import Derived.RangeFuncIn
import Derived.RangeFuncLeaves
import Derived.RangeFuncRecord
import Derived.OwnWalkIn
import Derived.RangeFuncCalls

/- A map with strings for keys that the call itself keeps in one block: what it holds, as a function of the key; its elements stay values. No program in sight. -/
namespace Go.Proofs.YtmkhfonafcikdaaGreatDoor
open Go.RowKit Go.Maps Go.My Go.WideMaps

/-- Block b is a map, of n entries at most, that holds at each string what f says. -/
def MapS (P : Program) (k : TypeId) (w : World) (b n : Nat) (f : List UInt8 → Option Value) : Prop :=
  ∃ D : DataW Value, w.ownsMap P k selfElem b n D ∧ IsMap D ∧ ∀ s : List UInt8, s.length ≤ maxLen → (has D (.string s) = (f s).isSome ∧ ∀ u, f s = some u → ∀ z, D.atKey (.string s) z = .held u)

section
variable {P : Program} {k : TypeId} {w : World} {b n : Nat} {f : List UInt8 → Option Value}

theorem MapS.made (w : World) (P : Program) (k : TypeId) : MapS P k (w.alloc (.map #[] 0)) w.heap.size 0 (fun _ => none) :=
  ⟨.map [], World.ownsMap_made w P k selfElem, isMap_empty, fun i _ => ⟨rfl, fun u h => by cases h⟩⟩
theorem MapS.lt (h : MapS P k w b n f) : b < w.heap.size := by obtain ⟨D, h, _⟩ := h; exact h.lt
theorem MapS.mono (h : MapS P k w b n f) {m : Nat} (hm : n ≤ m) : MapS P k w b m f := by obtain ⟨D, h, r⟩ := h; exact ⟨D, h.mono hm, r⟩
theorem MapS.frame {w' : World} (h : MapS P k w b n f) (hb : w'.heap[b]? = w.heap[b]?) : MapS P k w' b n f := by
  obtain ⟨D, ⟨es, clock, h1, h2⟩, r⟩ := h
  exact ⟨D, ⟨es, clock, hb.trans h1, h2⟩, r⟩

theorem keyOf_bs (hk : P.underlying k = some .string) {s : List UInt8} (hs : s.length ≤ maxLen) : keyOf P k (.string (bs s)) = some (.string s) := by
  have := keyOf_string_mk hk (s := bs s) (by rw [bs_size]; exact hs)
  rwa [bs_list] at this

/-- 'v, ok := m[k]', where it is. -/
theorem MapS.look_some {t e : TypeId} (h : MapS P k w b n f) (hk : P.underlying k = some .string) (ht : P.underlying t = some (.map k e)) {z : Value} (hz : (zeroValue e).run P w = .ok z w) {s : List UInt8} (hs : s.length ≤ maxLen) {u : Value} (hu : f s = some u) :
    (Instr.lookup t (.map (some b)) (.string (bs s)) true).run P w = .ok (.tuple #[u, .bool true]) w := by
  obtain ⟨D, h, hm, hf⟩ := h
  obtain ⟨h1, h2⟩ := hf s hs
  obtain ⟨v, ps, hrun, hv⟩ := h.look_ok (R := selfElem) (string_keyed hk) ht hz (zd := .held z) (zp := []) rfl (keyOf_bs hk hs)
  rw [h1, hu] at hrun
  rw [h2 u hu] at hv
  simp only [selfElem, Option.some.injEq, Prod.mk.injEq, DataW.held.injEq] at hv
  rw [hv.1] at hrun
  exact hrun
/-- .. and where it is not. -/
theorem MapS.look_none {t e : TypeId} (h : MapS P k w b n f) (hk : P.underlying k = some .string) (ht : P.underlying t = some (.map k e)) {z : Value} (hz : (zeroValue e).run P w = .ok z w) {s : List UInt8} (hs : s.length ≤ maxLen) (hu : f s = none) :
    (Instr.lookup t (.map (some b)) (.string (bs s)) true).run P w = .ok (.tuple #[z, .bool false]) w := by
  obtain ⟨D, h, hm, hf⟩ := h
  obtain ⟨h1, h2⟩ := hf s hs
  obtain ⟨v, ps, hrun, hv⟩ := h.look_ok (R := selfElem) (string_keyed hk) ht hz (zd := .held z) (zp := []) rfl (keyOf_bs hk hs)
  rw [h1, hu] at hrun
  rw [atKey_of_not_has (by rw [h1, hu]; rfl)] at hv
  simp only [selfElem, Option.some.injEq, Prod.mk.injEq, DataW.held.injEq] at hv
  rw [hv.1] at hrun
  exact hrun
/-- 'm[k]'. -/
theorem MapS.at {t e : TypeId} (h : MapS P k w b n f) (hk : P.underlying k = some .string) (ht : P.underlying t = some (.map k e)) {z : Value} (hz : (zeroValue e).run P w = .ok z w) {s : List UInt8} (hs : s.length ≤ maxLen) :
    (Instr.lookup t (.map (some b)) (.string (bs s)) false).run P w = .ok ((f s).getD z) w := by
  obtain ⟨D, h, hm, hf⟩ := h
  obtain ⟨h1, h2⟩ := hf s hs
  obtain ⟨v, ps, hrun, hv⟩ := h.lookup (R := selfElem) (string_keyed hk) ht hz (zd := .held z) (zp := []) rfl (keyOf_bs hk hs)
  cases hu : f s with
  | some u =>
    rw [h2 u hu] at hv
    simp only [selfElem, Option.some.injEq, Prod.mk.injEq, DataW.held.injEq] at hv
    rw [hv.1] at hrun
    exact hrun
  | none =>
    rw [atKey_of_not_has (by rw [h1, hu]; rfl)] at hv
    simp only [selfElem, Option.some.injEq, Prod.mk.injEq, DataW.held.injEq] at hv
    rw [hv.1] at hrun
    exact hrun

theorem str_ne {i j : List UInt8} (h : i ≠ j) : (Lit.string i) ≠ (Lit.string j) := fun e => h (by cases e; rfl)

/-- 'm[k] = v'. -/
theorem MapS.store {t e : TypeId} (h : MapS P k w b n f) (hk : P.underlying k = some .string) (ht : P.underlying t = some (.map k e)) (hn : n < maxLen) {s : List UInt8} (hs : s.length ≤ maxLen) (u : Value) :
    ∃ w', (Instr.mapUpdate t (.map (some b)) (.string (bs s)) u).run P w = .ok () w' ∧ MapS P k w' b (n + 1) (fun j => if j = s then some u else f j) ∧ w.grownBy w' (some b) := by
  obtain ⟨D, h, hm, hf⟩ := h
  obtain ⟨w', hrun, h1, h2⟩ := h.store (R := selfElem) (string_keyed hk) ht hn (keyOf_bs hk hs) (val := u) (d := .held u) (ps := []) rfl
  refine ⟨w', hrun, ⟨_, h1, hm.put _ _, fun j hj => ?_⟩, h2.grown⟩
  by_cases e : j = s
  · subst e
    have hkl : WideAt.IsKeyLit (Lit.string j) := by simp [WideAt.IsKeyLit]
    simp only [if_true, Option.isSome_some]
    exact ⟨has_put_same hm hkl _, fun v hv z => by cases hv; exact atKey_put_same hm hkl _ _⟩
  · simp only [if_neg e]
    obtain ⟨g1, g2⟩ := hf j hj
    exact ⟨by rw [has_put_other (str_ne e)]; exact g1, fun v hv z => by rw [atKey_put_other (str_ne e)]; exact g2 v hv z⟩
end
end Go.Proofs.YtmkhfonafcikdaaGreatDoor

/- Memory by owners: owners may be named anew for a call. No program in sight. -/
namespace Go.My
open Go.RowKit

/-- Names behind a call that was looked at under other names (s: the other name of an owner; r: the owner's name of the other one). -/
def Tags.back (g g0 : Tags) (n : Nat) (r : Nat → Nat) : Tags := fun b => if b < n then g b else r (g0 b)

theorem Turn.back {w w' : World} {g g0 : Tags} {T : List Nat} (s r : Nat → Nat) (h : Turn w (fun b => s (g b)) w' g0 T) (hT : ∀ t, s t ∉ T) : Turn w g w' (g.back g0 w.heap.size r) [] :=
  ⟨h.os, h.tape, h.output, h.size, fun b hb => by unfold Tags.back; rw [if_pos hb], fun b hb _ => h.block b hb (hT _)⟩

theorem back_tag {w w' : World} {g g0 : Tags} {T : List Nat} {s r : Nat → Nat} (h : Turn w (fun b => s (g b)) w' g0 T) {x t : Nat} (hs : ∀ y, s y = x → y = t) (hr : r x = t) (b : Nat) (hb : g0 b = x) : g.back g0 w.heap.size r b = t := by
  unfold Tags.back
  split
  · rename_i hlt
    exact hs _ ((h.old b hlt).symm.trans hb)
  · rw [hb, hr]

theorem Bytes.back {w w' : World} {g g0 : Tags} {T : List Nat} {s r : Nat → Nat} (h : Turn w (fun b => s (g b)) w' g0 T) {x t : Nat} (hs : ∀ y, s y = x → y = t) (hr : r x = t) {v : Value} {l : List UInt8} (hv : Bytes w' g0 x v l) : Bytes w' (g.back g0 w.heap.size r) t v l :=
  BytesIn.mono hv fun b _ hb => back_tag h hs hr b hb

theorem Owns.back {w w' : World} {g g0 : Tags} {T : List Nat} {s r : Nat → Nat} (h : Turn w (fun b => s (g b)) w' g0 T) {x t : Nat} (hs : ∀ y, s y = x → y = t) (hr : r x = t) {e : TypeId} {size : Nat} {v : Value} {n : Nat} {xs : List Value} (hv : Owns w' g0 x e size v n xs) : Owns w' (g.back g0 w.heap.size r) t e size v n xs := by
  obtain ⟨k, ho, hk⟩ := hv
  exact ⟨k, ho, fun b hb => back_tag h hs hr b (hk b hb)⟩

/-- The same facts under other names. -/
theorem Bytes.named {w : World} {g : Tags} {t : Nat} {v : Value} {l : List UInt8} (h : Bytes w g t v l) (s : Nat → Nat) : Bytes w (fun b => s (g b)) (s t) v l := BytesIn.mono h fun b _ hb => by show s (g b) = s t; rw [hb]
theorem Owns.named {w : World} {g : Tags} {t : Nat} {e : TypeId} {size : Nat} {v : Value} {n : Nat} {xs : List Value} (h : Owns w g t e size v n xs) (s : Nat → Nat) : Owns w (fun b => s (g b)) (s t) e size v n xs := by
  obtain ⟨k, ho, hk⟩ := h
  exact ⟨k, ho, fun b hb => by show s (g b) = s t; rw [hk b hb]⟩
end Go.My

/- A range over a function: the statement, by its iterator's contract. No program in sight. -/
namespace Go.My
open Go.RowKit

/-- A call of yield is one round of the loop l. -/
def YieldsTo (P : Program) (l : Nat) (args : Array Value) (W : World) (R : Ending → World → Prop) : Prop :=
  ∃ fn tmps assign body, (Instr.yield l args).run P W = .ok (.round l fn tmps assign body) W ∧ RoundIn Fence.wide 4 P l fn tmps assign body W R

theorem wp_range {P : Program} {g : Operand} {ps : Array Tmp} {assign body : Code} {Q : Exit → Act → World → Prop} {a : Act} {w : World} {gf : Nat} {lb : Array Value}
    (hg : a.eval g = .func (.func gf) #[] lb) (eg : ∀ args w, (callFunc gf args).run P w = .ok (.enter gf args) w)
    (h : ∀ fn : FuncId, Calls P gf (#[.func (.yield (w.heap.size + 1)) #[] #[]] ++ lb)
      ((w.alloc (.deferred (some []))).alloc (.loop { state := .ready, pending := none, fn := fn, tmps := a.tmps, params := ps, assign := assign, body := body, defers := w.heap.size }))
      (rangePost Fence.wide 5 P (w.heap.size + 1) Q { a with defers := { target := .collected w.heap.size, args := #[] } :: a.defers })) :
    (Code.rangeFunc g ps assign body).wp P Q a w := by
  refine (wpIn_wide (n := 5)).1 (wpIn_rangeFunc fun fn _ => ?_)
  have h1 := h fn
  have h2 := run_enterLoop_outer (P := P) (w := w) fn a.tmps ps assign body
  generalize (w.alloc (.deferred (some []))).alloc (.loop { state := .ready, pending := none, fn := fn, tmps := a.tmps, params := ps, assign := assign, body := body, defers := w.heap.size }) = W1 at h1 h2
  have h3 : (resolve a.eval (rangeCall g (w.heap.size + 1)) 0).run P W1 = .ok { target := .fn (.func gf) lb, args := #[.func (.yield (w.heap.size + 1)) #[] #[]] } W1 := by
    simp only [resolve, hg]
    simp [go_sem]
  have h4 : (invoke (.fn (.func gf) lb) #[.func (.yield (w.heap.size + 1)) #[] #[]]).run P W1 = .ok (.enter gf (#[.func (.yield (w.heap.size + 1)) #[] #[]] ++ lb)) W1 := by
    simp [invoke, go_sem, eg]
  exact ⟨w.heap.size + 1, [{ target := .collected w.heap.size, args := #[] }], W1, _, W1, gf, _, W1, h2, h3, fun _ _ => trivial, h4, fun _ => by decide, callsIn_wide.2 h1⟩

/-- One cell of its own. -/
def Box1 (w : World) (g : Tags) (b : Nat) (ty : TypeId) (t : Nat) (cs : Array Value) : Prop := w.heap[b]? = some (.cells cs ty (0, 0)) ∧ g b = t
theorem Box1.lt {w : World} {g : Tags} {b : Nat} {ty : TypeId} {t : Nat} {cs : Array Value} (h : Box1 w g b ty t cs) : b < w.heap.size := (Array.getElem?_eq_some_iff.1 h.1).1
theorem Box1.turn {w w' : World} {g g' : Tags} {T : List Nat} {b : Nat} {ty : TypeId} {t : Nat} {cs : Array Value} (h : Box1 w g b ty t cs) (k : Turn w g w' g' T) (ht : t ∉ T) : Box1 w' g' b ty t cs :=
  ⟨(k.block b h.lt (by rw [h.2]; exact ht)).trans h.1, (k.old b h.lt).trans h.2⟩
theorem Box1.cell {w : World} {g : Tags} {b : Nat} {ty : TypeId} {t : Nat} {cs : Array Value} (h : Box1 w g b ty t cs) (i : Nat) : w.cell? ⟨b, i, none⟩ = cs[i]? ∧ w.frozen? ⟨b, i, none⟩ = false :=
  ⟨cell_of_row w b i _ _ _ h.1, frozen_of_row w b i _ _ h.1⟩
theorem Box1.alloc (w : World) (g : Tags) (ty : TypeId) (t : Nat) (cs : Array Value) : Box1 (w.alloc (.cells cs ty)) (g.ext w.heap.size t) w.heap.size ty t cs :=
  ⟨heap_alloc_new w _, Tags.ext_new _ _ _ _ (Nat.le_refl _)⟩
theorem Box1.store {w : World} {g : Tags} {b : Nat} {ty : TypeId} {t : Nat} {cs : Array Value} (h : Box1 w g b ty t cs) (i : Nat) (v : Value) :
    Turn w g (w.setCell ⟨b, i, none⟩ v) g [t] ∧ Box1 (w.setCell ⟨b, i, none⟩ v) g b ty t (cs.setIfInBounds i v) := by
  refine ⟨?_, heap_setCell_same w b i _ _ v h.1, h.2⟩
  have := Turn.setCell w g ⟨b, i, none⟩ v (by simp) rfl rfl rfl
  rw [h.2] at this; exact this
end Go.My

/- A range over a function: its rounds. No program in sight. -/
namespace Go.My
open Go.RowKit

/-- A block of its own. -/
def Blk (w : World) (g : Tags) (b t : Nat) (o : Obj) : Prop := w.heap[b]? = some o ∧ g b = t
theorem Blk.lt {w : World} {g : Tags} {b t : Nat} {o : Obj} (h : Blk w g b t o) : b < w.heap.size := (Array.getElem?_eq_some_iff.1 h.1).1
theorem Blk.turn {w w' : World} {g g' : Tags} {T : List Nat} {b t : Nat} {o : Obj} (h : Blk w g b t o) (k : Turn w g w' g' T) (ht : t ∉ T) : Blk w' g' b t o :=
  ⟨(k.block b h.lt (by rw [h.2]; exact ht)).trans h.1, (k.old b h.lt).trans h.2⟩
theorem Blk.alloc (w : World) (g : Tags) (t : Nat) (o : Obj) : Blk (w.alloc o) (g.ext w.heap.size t) w.heap.size t o :=
  ⟨heap_alloc_new w _, Tags.ext_new _ _ _ _ (Nat.le_refl _)⟩
theorem Turn.putObj (w : World) (g : Tags) (r : Nat) (o : Obj) : Turn w g (w.putObj r o) g [g r] :=
  ⟨rfl, rfl, rfl, by simp, fun _ _ => rfl, fun b _ hn => World.putObj_heap_other (fun e => hn (by rw [e]; exact List.mem_singleton.2 rfl))⟩
theorem Blk.put {w : World} {g : Tags} {b t : Nat} {o : Obj} (h : Blk w g b t o) (o' : Obj) : Turn w g (w.putObj b o') g [t] ∧ Blk (w.putObj b o') g b t o' := by
  refine ⟨?_, World.putObj_heap_same h.lt, h.2⟩
  have := Turn.putObj w g b o'
  rw [h.2] at this; exact this

theorem rec_back {r : Loop} (h1 : r.state = .ready) (h2 : r.pending = none) : ({ ({ r with state := .busy } : Loop) with state := .ready, pending := none } : Loop) = r := by
  cases r; simp_all

/-- How the body of a round may be left. -/
def RoundEnd (l t : Nat) (r : Loop) (R : Ending → World → Prop) : Exit → Act → World → Prop
  | .normal, _, w => ∃ g, Blk w g l t (.loop { r with state := .busy }) ∧ R (.returned (.bool true)) (w.putObj l (.loop r))
  | .ret, _, w => ∃ g, Blk w g l t (.loop { r with state := .busy }) ∧ R (.returned (.bool false)) (w.putObj l (.loop { r with state := .done, pending := some .ret }))
  | _, _, _ => False

theorem yields_of {P : Program} {l : Nat} {r : Loop} {W : World} {g : Tags} {t : Nat} {x : Value} {R : Ending → World → Prop} {p : Tmp} {tmps : Array Value} {assign body : Code}
    (hl : Blk W g l t (.loop r)) (h1 : r.state = .ready) (h2 : r.pending = none) (e1 : r.tmps = tmps) (e2 : r.params = #[p]) (e3 : r.assign = assign) (e4 : r.body = body)
    (h : assign.wpIn (Fence.wide.inRound l) 4 P (Exit.then (fun a₁ w₁ => ∃ g1, Blk w₁ g1 l t (.loop r) ∧ body.wpIn (Fence.wide.inRound l) 4 P (RoundEnd l t r R) a₁ (w₁.putObj l (.loop { r with state := .busy }))) (fun _ _ _ => False)) { tmps := tmps.setIfInBounds p x, defers := [] } W) :
    YieldsTo P l #[x] W R := by
  subst e1 e3 e4
  have hy := run_yield (P := P) (args := #[x]) hl.1 (by rw [e2]; rfl)
  have hz : (r.params.zip #[x]).foldl (fun tmps (t, a) => tmps.setIfInBounds t a) r.tmps = r.tmps.setIfInBounds p x := by rw [e2]; simp
  rw [hz] at hy
  refine ⟨r.fn, _, r.assign, r.body, hy, roundIn_of_wpIn trivial (wpIn_mono h ?_)⟩
  intro e a w hp
  cases e with
  | normal =>
    obtain ⟨g1, hb, hw⟩ := hp
    refine ⟨_, run_beginRound hb.1 h1, wpIn_mono hw ?_⟩
    intro e a w hp
    cases e with
    | normal =>
      obtain ⟨g2, hb2, hR⟩ := hp
      refine ⟨_, _, run_endRound none hb2.1, ?_⟩
      have e := rec_back h1 h2
      simp only [Option.isNone_none, if_true]
      rw [e]; exact hR
    | ret =>
      obtain ⟨g2, hb2, hR⟩ := hp
      exact ⟨_, _, run_endRound (some .ret) hb2.1, hR⟩
    | exit id => exact hp.elim
    | goto t => exact hp.elim
    | panic c => exact hp.elim
    | outgrown => exact hp.elim
  | exit id => exact hp.elim
  | goto t => exact hp.elim
  | ret => exact hp.elim
  | panic c => exact hp.elim
  | outgrown => exact hp.elim

theorem wp_range2 {P : Program} {g : Operand} {ps : Array Tmp} {assign body : Code} {Q : Exit → Act → World → Prop} {a : Act} {w : World} {gf : Nat} {lb : Array Value}
    (hg : a.eval g = .func (.func gf) #[] lb) (eg : ∀ args w, (callFunc gf args).run P w = .ok (.enter gf args) w)
    (h : ∀ r : Loop, r.state = .ready → r.pending = none → r.tmps = a.tmps → r.params = ps → r.assign = assign → r.body = body → Calls P gf (#[.func (.yield (w.heap.size + 1)) #[] #[]] ++ lb)
      ((w.alloc (.deferred (some []))).alloc (.loop r))
      (rangePost Fence.wide 5 P (w.heap.size + 1) Q { a with defers := { target := .collected w.heap.size, args := #[] } :: a.defers })) :
    (Code.rangeFunc g ps assign body).wp P Q a w :=
  wp_range hg eg fun _ => h _ rfl rfl rfl rfl rfl rfl

section
variable {P : Program} {F : Fence} {nF : Nat} (w : World)
/-- APPEND, FOR THE WALK IN A ROUND. -/
theorem wpListIn_append_t {ops : Array Oper} {rest : List Oper} {o : Oper} {a : Act} {Q : Exit → Act → World → Prop} (hgd : o.guard = none) (s x : Operand) {t e : TypeId}
    (ho : o.op = .call { callee := .builtin .append, args := #[s, x], argTypes := #[t, t] }) {size bytes : Nat} {z : Value} (E : Elem P t e size bytes z)
    {v : Value} {n : Nat} {xs : List Value} {g : Tags} {tg : Nat} (hs : a.eval s = v) (hown : Owns w g tg e size v n xs) {y : Value} {m : Nat} {news : List Value} (hy : a.eval x = y) (hx : Src w size y m news) (h1 : ∀ u ∈ news, u.oneCell' = true)
    (h63 : n + m ≤ maxLen) (hbytes : (n + m) * bytes ≤ 140737488355328)
    (h : ∀ ao cap w' g', Owns w' g' tg e size (.slice ao (n + m) cap) (n + m) (xs ++ news) → Turn w g w' g' [tg] → wpListIn F nF P ops Q rest (a.put o.dst (.slice ao (n + m) cap)) w') : wpListIn F nF P ops Q (o :: rest) a w := by
  obtain ⟨k, ho', hk⟩ := hown
  obtain ⟨v', w', k', hr, h2, h3, h4⟩ := run_append (P := P) w E o.type ho' hx h1 h63 hbytes
  refine wpListIn_plain hgd fun K hK => ?_
  unfold Oper.wpIn
  refine ⟨by simp [Oper.about, ho, resolve, Target.leads, Sem.run_pure], ?_⟩
  rw [Oper.semAt_plain F _ _ (by rw [ho]; intro c hc'; cases hc')]
  simp [execOp, ho, resolve, invoke, builtin, hs, hy, hr, Result.andThen]
  refine hK _ _ ?_
  obtain ⟨ao, cap, rfl⟩ := own_form h2
  refine h ao cap w' (g.ext w.heap.size tg) ⟨k', h2, fun b hb => ?_⟩ (Turn.of_step h3 g tg hk)
  rcases h4 with rfl | ⟨j, hj, hge⟩
  · rw [Tags.ext_old _ _ _ _ (ho'.lt b hb)]; exact hk b hb
  · rw [hj] at hb; cases hb; exact Tags.ext_new _ _ _ _ hge
end
end Go.My

/- A struct in a block of its own: its cells written one by one. No program in sight. -/
namespace Go.My
open Go.RowKit

/-- From w to w': block c now holds these cells; all else is as it was. -/
structure Put (w w' : World) (c : Nat) (cs : Array Value) (T : TypeId) : Prop where
  row : w'.heap[c]? = some (.cells cs T (0, 0))
  os : w'.os = w.os
  tape : w'.tape = w.tape
  output : w'.output = w.output
  size : w'.heap.size = w.heap.size
  oth : ∀ k, k ≠ c → w'.heap[k]? = w.heap[k]?

theorem Put.one {w : World} {c : Nat} {cs : Array Value} {T : TypeId} (h : w.heap[c]? = some (.cells cs T (0, 0))) (i : Nat) (v : Value) : Put w (w.setCell ⟨c, i, none⟩ v) c (cs.setIfInBounds i v) T :=
  ⟨heap_setCell_same w c i _ _ v h, rfl, rfl, rfl, by simp, fun k hk => Below.heap_setCell w ⟨c, i, none⟩ v k (by simpa using hk)⟩
theorem Put.trans {w w1 w2 : World} {c : Nat} {cs ds : Array Value} {T : TypeId} (h : Put w w1 c cs T) (k : Put w1 w2 c ds T) : Put w w2 c ds T :=
  ⟨k.row, k.os.trans h.os, k.tape.trans h.tape, k.output.trans h.output, k.size.trans h.size, fun j hj => (k.oth j hj).trans (h.oth j hj)⟩
theorem Put.below {w0 w w' : World} {n c : Nat} {cs : Array Value} {T : TypeId} (h : Put w w' c cs T) (hb : Below n w0 w) (hn : n ≤ c) : Below n w0 w' :=
  ⟨h.os.trans hb.os, h.tape.trans hb.tape, h.output.trans hb.output, by rw [h.size]; exact hb.size, fun k hk => (h.oth k (by omega)).trans (hb.block k hk)⟩
theorem Put.step {w w' : World} {c : Nat} {cs : Array Value} {T : TypeId} (h : Put w w' c cs T) : Step w w' (some c) :=
  ⟨h.os, h.tape, h.output, by rw [h.size]; exact Nat.le_refl _, fun k _ hk => h.oth k fun e => hk (by rw [e])⟩
theorem Put.cells {w w' : World} {c : Nat} {cs : Array Value} {T : TypeId} (h : Put w w' c cs T) (i : Nat) : w'.cell? ⟨c, i, none⟩ = cs[i]? ∧ w'.frozen? ⟨c, i, none⟩ = false := ⟨cell_of_row _ _ _ _ _ _ h.row, frozen_of_row _ _ _ _ _ h.row⟩

theorem put2 {w : World} {c : Nat} {z0 z1 : Value} {T : TypeId} (h : w.heap[c]? = some (.cells #[z0, z1] T (0, 0))) (v0 v1 : Value) : Put w ((w.setCell ⟨c, 0, none⟩ v0).setCell ⟨c, 1, none⟩ v1) c #[v0, v1] T :=
  (Put.one h 0 v0).trans (Put.one (Put.one h 0 v0).row 1 v1)
theorem put3 {w : World} {c : Nat} {z0 z1 z2 : Value} {T : TypeId} (h : w.heap[c]? = some (.cells #[z0, z1, z2] T (0, 0))) (v0 v1 v2 : Value) : Put w (((w.setCell ⟨c, 0, none⟩ v0).setCell ⟨c, 1, none⟩ v1).setCell ⟨c, 2, none⟩ v2) c #[v0, v1, v2] T :=
  have h1 := put2' h v0 v1
  h1.trans (Put.one h1.row 2 v2)
where put2' {w : World} {c : Nat} {z0 z1 z2 : Value} {T : TypeId} (h : w.heap[c]? = some (.cells #[z0, z1, z2] T (0, 0))) (v0 v1 : Value) : Put w ((w.setCell ⟨c, 0, none⟩ v0).setCell ⟨c, 1, none⟩ v1) c #[v0, v1, z2] T :=
  (Put.one h 0 v0).trans (Put.one (Put.one h 0 v0).row 1 v1)
theorem put5 {w : World} {c : Nat} {z0 z1 z2 z3 z4 : Value} {T : TypeId} (h : w.heap[c]? = some (.cells #[z0, z1, z2, z3, z4] T (0, 0))) (v0 v1 v2 v3 v4 : Value) :
    Put w (((((w.setCell ⟨c, 0, none⟩ v0).setCell ⟨c, 1, none⟩ v1).setCell ⟨c, 2, none⟩ v2).setCell ⟨c, 3, none⟩ v3).setCell ⟨c, 4, none⟩ v4) c #[v0, v1, v2, v3, v4] T := by
  have h0 : Put w _ c #[v0, z1, z2, z3, z4] T := Put.one h 0 v0
  have h1 : Put w _ c #[v0, v1, z2, z3, z4] T := h0.trans (Put.one h0.row 1 v1)
  have h2 : Put w _ c #[v0, v1, v2, z3, z4] T := h1.trans (Put.one h1.row 2 v2)
  have h3 : Put w _ c #[v0, v1, v2, v3, z4] T := h2.trans (Put.one h2.row 3 v3)
  exact h3.trans (Put.one h3.row 4 v4)

/-- A new block. -/
theorem Put.new (w : World) (cs : Array Value) (T : TypeId) : Below w.heap.size w (w.alloc (.cells cs T)) ∧ (w.alloc (.cells cs T)).heap[w.heap.size]? = some (.cells cs T (0, 0)) ∧ (w.alloc (.cells cs T)).heap.size = w.heap.size + 1 :=
  ⟨Below.alloc (Below.refl _ w) (Nat.le_refl _) _, heap_alloc_new w _, World.size_alloc _ _⟩

theorem row5 {w : World} {c : Nat} {v0 v1 v2 v3 v4 : Value} {T : TypeId} (h : w.heap[c]? = some (.cells #[v0, v1, v2, v3, v4] T (0, 0))) :
    w.cell? ⟨c, 0, none⟩ = some v0 ∧ w.cell? ⟨c, 1, none⟩ = some v1 ∧ w.cell? ⟨c, 2, none⟩ = some v2 ∧ w.cell? ⟨c, 3, none⟩ = some v3 ∧ w.cell? ⟨c, 4, none⟩ = some v4 ∧
    w.frozen? ⟨c, 0, none⟩ = false ∧ w.frozen? ⟨c, 1, none⟩ = false ∧ w.frozen? ⟨c, 2, none⟩ = false ∧ w.frozen? ⟨c, 3, none⟩ = false ∧ w.frozen? ⟨c, 4, none⟩ = false :=
  ⟨cell_of_row w c 0 _ _ _ h, cell_of_row w c 1 _ _ _ h, cell_of_row w c 2 _ _ _ h, cell_of_row w c 3 _ _ _ h, cell_of_row w c 4 _ _ _ h, frozen_of_row w c 0 _ _ h, frozen_of_row w c 1 _ _ h, frozen_of_row w c 2 _ _ h, frozen_of_row w c 3 _ _ h, frozen_of_row w c 4 _ _ h⟩

/-- What a cell of a struct holds gives the result. -/
theorem results_cell1 {fn : Func} {p : Tmp} {tp : TypeId} (h : fn.results = #[.cell p tp]) (tmps : Array Value) (P : Program) (w : World) {a : Addr} {va : Value}
    (ea : tmps.getD p undef = .pointer (some a)) (ra : (loadVar tp a).run P w = .ok va w) : (results fn tmps).run P w = .ok va w := by
  have ea' : tmps[p]?.getD undef = .pointer (some a) := by simpa using ea
  simp [results, h, ea', asAddr, ra]
/-- A block that was there is as it was behind a step of the reader. -/
theorem Step.kept {w w' : World} {rb c : Nat} (h : Step w w' (some rb)) (hc : c < w.heap.size) (hne : c ≠ rb) : w'.heap[c]? = w.heap[c]? := h.block c hc fun e => hne (by cases e; rfl)
/-- What is written into a new block is no step in what was there. -/
theorem Step.put {w w1 w2 : World} {rb c : Nat} {cs : Array Value} {T : TypeId} (hs : Step w w1 (some rb)) (hp : Put w1 w2 c cs T) (hc : w.heap.size ≤ c) : Step w w2 (some rb) :=
  ⟨hp.os.trans hs.os, hp.tape.trans hs.tape, hp.output.trans hs.output, by rw [hp.size]; exact hs.size, fun k hk hk' => (hp.oth k (by omega)).trans (hs.block k hk hk')⟩
end Go.My

/- Nodes, texts, functions in memory: marks behind lists forgotten (as ShLit has it, for seats without shows). No program in sight. -/
namespace Go.My
open Go.RowKit Go.Nd

theorem Room.untw {tw : Bool} {n c : Nat} (h : Room tw n c) : Room false n c := ⟨h.1, h.2.1, h.2.2.1, fun e => by cases e⟩
theorem NodesAt.untw {w : World} {S : Nat → Prop} {tw : Bool} {a : Option Addr} {xs : Ns} (h : NodesAt w S tw a xs) : NodesAt w S false a xs := by
  induction h with
  | nil a h => exact .nil a fun e => by cases e
  | cons hS hk ht d0 d1 d2 d3 d4 r1 r2 r3 _ _ _ _ i1 i2 i3 i4 => exact .cons hS hk ht d0 d1 d2 d3 d4 r1.untw r2.untw r3.untw i1 i2 i3 i4
theorem Nodes.untw {w : World} {S : Nat → Prop} {tw : Bool} {v : Value} {xs : Ns} (h : Nodes w S tw v xs) : Nodes w S false v xs := by
  obtain ⟨a, c, h1, h2, h3⟩ := h; exact ⟨a, c, h1, h2.untw, h3.untw⟩
theorem TextsIn.untw {w : World} {S : Nat → Prop} {tw : Bool} {v : Value} {ts : List (List UInt8)} (h : TextsIn w S tw v ts) : TextsIn w S false v ts := by
  obtain ⟨a, c, h1, h2, h3, h4, h5, h6⟩ := h
  exact ⟨a, c, h1, h2, h3, h4, (fun e => by cases e), h6⟩
theorem FuncsIn.untw {w : World} {S : Nat → Prop} {tw : Bool} {v : Value} {fs : List Nd.Fn} (h : FuncsIn w S tw v fs) : FuncsIn w S false v fs := by
  obtain ⟨a, c, h1, h2, h3, h4, h5, h6⟩ := h
  refine ⟨a, c, h1, h2, h3, h4, (fun e => by cases e), fun i hi => ?_⟩
  obtain ⟨b, off, v1, v2, k1, k2, k3⟩ := h6 i hi
  exact ⟨b, off, v1, v2, k1, k2, ⟨k3.name, k3.d0, k3.d1, k3.d2, k3.args.untw, k3.body.untw⟩⟩
end Go.My
