/- A range over a function: its rounds. No program in sight. -/
import Derived.Test.YtcldcigopkfmmaaGreatDoorToIt
import Derived.OwnWalkIn
import Derived.RangeFuncCalls
namespace Go.My
open Go.RowKit

/-- A block of its own. -/
def Blk (w : World) (g : Tags) (b t : Nat) (o : Obj) : Prop := w.heap[b]? = some o ∧ g b = t
theorem Blk.lt {w : World} {g : Tags} {b t : Nat} {o : Obj} (h : Blk w g b t o) : b < w.heap.size := (Array.getElem?_eq_some_iff.1 h.1).1
theorem Blk.turn {w w' : World} {g g' : Tags} {T : List Nat} {b t : Nat} {o : Obj} (h : Blk w g b t o) (k : Turn w g w' g' T) (ht : t ∉ T) : Blk w' g' b t o :=
  ⟨(k.block b h.lt (by rw [h.2]; exact ht)).trans h.1, (k.old b h.lt).trans h.2⟩
theorem Blk.alloc (w : World) (g : Tags) (t : Nat) (o : Obj) : Blk (w.alloc o) (g.ext w.heap.size t) w.heap.size t o :=
  ⟨heap_alloc_new w _, Tags.ext_new _ _ _ _ (Nat.le_refl _)⟩
theorem Turn.putObj (w : World) (g : Tags) (r : Nat) (o : Obj) : Turn w g (w.putObj r o) g [g r] :=
  ⟨rfl, rfl, rfl, by simp, fun _ _ => rfl, fun b _ hn => World.putObj_heap_other (fun e => hn (by rw [e]; exact List.mem_singleton.2 rfl))⟩
theorem Blk.put {w : World} {g : Tags} {b t : Nat} {o : Obj} (h : Blk w g b t o) (o' : Obj) : Turn w g (w.putObj b o') g [t] ∧ Blk (w.putObj b o') g b t o' := by
  refine ⟨?_, World.putObj_heap_same h.lt, h.2⟩
  have := Turn.putObj w g b o'
  rw [h.2] at this; exact this

theorem rec_back {r : Loop} (h1 : r.state = .ready) (h2 : r.pending = none) : ({ ({ r with state := .busy } : Loop) with state := .ready, pending := none } : Loop) = r := by
  cases r; simp_all

/-- How the body of a round may be left. -/
def RoundEnd (l t : Nat) (r : Loop) (R : Ending → World → Prop) : Exit → Act → World → Prop
  | .normal, _, w => ∃ g, Blk w g l t (.loop { r with state := .busy }) ∧ R (.returned (.bool true)) (w.putObj l (.loop r))
  | .ret, _, w => ∃ g, Blk w g l t (.loop { r with state := .busy }) ∧ R (.returned (.bool false)) (w.putObj l (.loop { r with state := .done, pending := some .ret }))
  | _, _, _ => False

theorem yields_of {P : Program} {l : Nat} {r : Loop} {W : World} {g : Tags} {t : Nat} {x : Value} {R : Ending → World → Prop} {p : Tmp} {tmps : Array Value} {assign body : Code}
    (hl : Blk W g l t (.loop r)) (h1 : r.state = .ready) (h2 : r.pending = none) (e1 : r.tmps = tmps) (e2 : r.params = #[p]) (e3 : r.assign = assign) (e4 : r.body = body)
    (h : assign.wpIn (Fence.wide.inRound l) 4 P (Exit.then (fun a₁ w₁ => ∃ g1, Blk w₁ g1 l t (.loop r) ∧ body.wpIn (Fence.wide.inRound l) 4 P (RoundEnd l t r R) a₁ (w₁.putObj l (.loop { r with state := .busy }))) (fun _ _ _ => False)) { tmps := tmps.setIfInBounds p x, defers := [] } W) :
    YieldsTo P l #[x] W R := by
  subst e1 e3 e4
  have hy := run_yield (P := P) (args := #[x]) hl.1 (by rw [e2]; rfl)
  have hz : (r.params.zip #[x]).foldl (fun tmps (t, a) => tmps.setIfInBounds t a) r.tmps = r.tmps.setIfInBounds p x := by rw [e2]; simp
  rw [hz] at hy
  refine ⟨r.fn, _, r.assign, r.body, hy, roundIn_of_wpIn trivial (wpIn_mono h ?_)⟩
  intro e a w hp
  cases e with
  | normal =>
    obtain ⟨g1, hb, hw⟩ := hp
    refine ⟨_, run_beginRound hb.1 h1, wpIn_mono hw ?_⟩
    intro e a w hp
    cases e with
    | normal =>
      obtain ⟨g2, hb2, hR⟩ := hp
      refine ⟨_, _, run_endRound none hb2.1, ?_⟩
      have e := rec_back h1 h2
      simp only [Option.isNone_none, if_true]
      rw [e]; exact hR
    | ret =>
      obtain ⟨g2, hb2, hR⟩ := hp
      exact ⟨_, _, run_endRound (some .ret) hb2.1, hR⟩
    | exit id => exact hp.elim
    | goto t => exact hp.elim
    | panic c => exact hp.elim
    | outgrown => exact hp.elim
  | exit id => exact hp.elim
  | goto t => exact hp.elim
  | ret => exact hp.elim
  | panic c => exact hp.elim
  | outgrown => exact hp.elim

theorem wp_range2 {P : Program} {g : Operand} {ps : Array Tmp} {assign body : Code} {Q : Exit → Act → World → Prop} {a : Act} {w : World} {gf : Nat} {lb : Array Value}
    (hg : a.eval g = .func (.func gf) #[] lb) (eg : ∀ args w, (callFunc gf args).run P w = .ok (.enter gf args) w)
    (h : ∀ r : Loop, r.state = .ready → r.pending = none → r.tmps = a.tmps → r.params = ps → r.assign = assign → r.body = body → Calls P gf (#[.func (.yield (w.heap.size + 1)) #[] #[]] ++ lb)
      ((w.alloc (.deferred (some []))).alloc (.loop r))
      (rangePost Fence.wide 5 P (w.heap.size + 1) Q { a with defers := { target := .collected w.heap.size, args := #[] } :: a.defers })) :
    (Code.rangeFunc g ps assign body).wp P Q a w :=
  wp_range hg eg fun _ => h _ rfl rfl rfl rfl rfl rfl

section
variable {P : Program} {F : Fence} {nF : Nat} (w : World)
/-- APPEND, FOR THE WALK IN A ROUND. -/
theorem wpListIn_append_t {ops : Array Oper} {rest : List Oper} {o : Oper} {a : Act} {Q : Exit → Act → World → Prop} (hgd : o.guard = none) (s x : Operand) {t e : TypeId}
    (ho : o.op = .call { callee := .builtin .append, args := #[s, x], argTypes := #[t, t] }) {size bytes : Nat} {z : Value} (E : Elem P t e size bytes z)
    {v : Value} {n : Nat} {xs : List Value} {g : Tags} {tg : Nat} (hs : a.eval s = v) (hown : Owns w g tg e size v n xs) {y : Value} {m : Nat} {news : List Value} (hy : a.eval x = y) (hx : Src w size y m news) (h1 : ∀ u ∈ news, u.oneCell' = true)
    (h63 : n + m ≤ maxLen) (hbytes : (n + m) * bytes ≤ 140737488355328)
    (h : ∀ ao cap w' g', Owns w' g' tg e size (.slice ao (n + m) cap) (n + m) (xs ++ news) → Turn w g w' g' [tg] → wpListIn F nF P ops Q rest (a.put o.dst (.slice ao (n + m) cap)) w') : wpListIn F nF P ops Q (o :: rest) a w := by
  obtain ⟨k, ho', hk⟩ := hown
  obtain ⟨v', w', k', hr, h2, h3, h4⟩ := run_append (P := P) w E o.type ho' hx h1 h63 hbytes
  refine wpListIn_plain hgd fun K hK => ?_
  unfold Oper.wpIn
  refine ⟨by simp [Oper.about, ho, resolve, Target.leads, Sem.run_pure], ?_⟩
  rw [Oper.semAt_plain F _ _ (by rw [ho]; intro c hc'; cases hc')]
  simp [execOp, ho, resolve, invoke, builtin, hs, hy, hr, Result.andThen]
  refine hK _ _ ?_
  obtain ⟨ao, cap, rfl⟩ := own_form h2
  refine h ao cap w' (g.ext w.heap.size tg) ⟨k', h2, fun b hb => ?_⟩ (Turn.of_step h3 g tg hk)
  rcases h4 with rfl | ⟨j, hj, hge⟩
  · rw [Tags.ext_old _ _ _ _ (ho'.lt b hb)]; exact hk b hb
  · rw [hj] at hb; cases hb; exact Tags.ext_new _ _ _ _ hge
end
end Go.My
