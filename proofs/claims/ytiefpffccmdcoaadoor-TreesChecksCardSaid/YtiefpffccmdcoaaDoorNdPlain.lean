/- Programs as trees, plainly: nodes, what may be. No program in sight. -/
import Derived.Test.YtiefpffccmdcoaaDoorToPlain
namespace Go.Nd

/-- A list of nodes: the first one (its kind, its text, its three lists), and the rest. -/
inductive Ns where
  | nil
  | cons (kind : Nat) (text : List UInt8) (l body els rest : Ns)
deriving DecidableEq

/-- One node. -/
structure Nd where
  kind : Nat
  text : List UInt8
  l : Ns
  body : Ns
  els : Ns

def Ns.items : Ns → List Nd
  | .nil => []
  | .cons k t l b e r => ⟨k, t, l, b, e⟩ :: r.items
def Ns.len (x : Ns) : Nat := x.items.length
def Nd.one (x : Nd) : Ns := .cons x.kind x.text x.l x.body x.els .nil

theorem Ns.items_nil : Ns.nil.items = [] := rfl
theorem Ns.items_cons (k : Nat) (t : List UInt8) (l b e r : Ns) : (Ns.cons k t l b e r).items = ⟨k, t, l, b, e⟩ :: r.items := rfl

structure Fn where
  name : List UInt8
  args : List (List UInt8)
  body : Ns
structure Pr where
  funcs : List Fn
  body : Ns

/-- Digits without a needless nought. -/
def plain (s : List UInt8) : Bool := s.all To.isD && (match s with | [] => false | [_] => true | c :: _ => c.toNat != 48)

def signs : List (List UInt8) := [[43], [45], [42], [47], [61, 61], [33, 61], [60], [60, 61]]

/-- Is the second one a number? -/
def raised (l : Ns) : Bool := match l.items with | [_, x] => x.kind == 1 | _ => false

/-- May a node be an expression, what is in it aside? -/
def head (k : Nat) (t : List UInt8) (l : Ns) : Bool :=
  if k = 1 then l.len == 0 && plain t
  else if k = 2 then l.len == 0 && To.name t
  else if k = 3 then t.isEmpty
  else if k = 4 then To.name t
  else if k = 6 ∨ k = 7 then l.len == 1 && t.isEmpty
  else if k = 5 then (if t = [94] then raised l else l.len == 2 && signs.contains t)
  else false

/-- May all of them be expressions? -/
def exprs : Ns → Bool
  | .nil => true
  | .cons k t l b e r => (b.len == 0 && e.len == 0 && exprs l && head k t l) && exprs r

def form (inner : Bool) (k : Nat) (t : List UInt8) (b e : Ns) : Bool :=
  if k = 9 then t.isEmpty
  else if k = 10 then t.isEmpty && e.len == 0
  else if k = 8 then b.len == 0 && e.len == 0 && To.name t
  else if k = 11 then t.isEmpty && b.len == 0 && e.len == 0 && inner
  else if k = 12 ∨ k = 13 then t.isEmpty && b.len == 0 && e.len == 0
  else false

/-- May all of them be statements? -/
def stmts (inner : Bool) : Ns → Bool
  | .nil => true
  | .cons k t l b e r => (l.len == 1 && exprs l && stmts inner b && stmts inner e && form inner k t b e) && stmts inner r

/-- How deep: as the machine reckons. -/
def deep (wrap : Int → Int) : Ns → Int
  | .nil => 0
  | .cons _ _ l b e r => max (wrap (1 + max (max (deep wrap l) (deep wrap b)) (deep wrap e))) (deep wrap r)

def long : Ns → Bool
  | .nil => false
  | .cons k t l b e r => ((k == 1 && decide (200 < t.length)) || long l || long b || long e) || long r

def great (wrap : Int → Int) (l : Ns) : Bool := decide (64 < deep wrap l) || long l

def check (wrap : Int → Int) (p : Pr) : Bool :=
  p.funcs.all (fun f => To.name f.name && f.args.all To.name && stmts true f.body) && stmts false p.body && !(great wrap p.body || p.funcs.any (fun f => great wrap f.body))

theorem deep_nonneg (wrap : Int → Int) (x : Ns) : 0 ≤ deep wrap x := by
  cases x with
  | nil => exact Int.le_refl _
  | cons k t l b e r =>
    have : 0 ≤ deep wrap r := deep_nonneg wrap r
    unfold deep; omega
theorem deep_le (wrap : Int → Int) (m : Int) (hm : 0 ≤ m) (hw : ∀ x, wrap x ≤ m) (x : Ns) : deep wrap x ≤ m := by
  induction x with
  | nil => exact hm
  | cons k t l b e r _ _ _ ihr => unfold deep; have := hw (1 + max (max (deep wrap l) (deep wrap b)) (deep wrap e)); omega
end Go.Nd
