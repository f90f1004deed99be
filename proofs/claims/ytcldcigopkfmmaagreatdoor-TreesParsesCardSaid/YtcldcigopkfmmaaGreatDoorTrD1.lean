/- Texts put together: ToPlain, NdPlain, NdParse, NdSuf, NdFuel, PsPlain, PsMay, ShPlain, PsBulk, PrKind. -/

/- Tokens, plainly. No program in sight. -/
namespace Go.To

def isL (c : UInt8) : Bool := (97 ≤ c.toNat && c.toNat ≤ 122) || (65 ≤ c.toNat && c.toNat ≤ 90)
def isD (c : UInt8) : Bool := 48 ≤ c.toNat && c.toNat ≤ 57
def isW (c : UInt8) : Bool := isL c || isD c || c.toNat == 95
def isB (c : UInt8) : Bool := c.toNat == 32 || c.toNat == 9 || c.toNat == 10 || c.toNat == 13

/-- The signs of one byte. -/
def isS (c : UInt8) : Bool := [43, 45, 42, 47, 94, 40, 41, 91, 93, 44, 59, 123, 125, 61, 60].contains c.toNat

/-- How many bytes at the beginning are some of these. -/
def run (p : UInt8 → Bool) : List UInt8 → Nat
  | [] => 0
  | c :: l => if p c then run p l + 1 else 0

def word (l : List UInt8) : Nat := if run isL l = 0 then 0 else run isW l
def number (l : List UInt8) : Nat := run isD l
def sign : List UInt8 → Nat
  | [] => 0
  | c :: l => if (c.toNat = 61 ∨ c.toNat = 33 ∨ c.toNat = 60) ∧ l.head? = some 61 then 2 else if isS c then 1 else 0

/-- How many bytes at the beginning say nothing (inside: of a comment). -/
def sil : Bool → List UInt8 → Nat
  | _, [] => 0
  | true, c :: l => if c.toNat = 10 then sil false l + 1 else sil true l + 1
  | false, c :: l => if isB c then sil false l + 1 else if c.toNat = 35 then sil true l + 1 else 0

/-- The kind of the token that stands at the beginning, how long it is; kind 0: none does. -/
def tok (l : List UInt8) : Nat × Nat := if 0 < word l then (1, word l) else if 0 < number l then (2, number l) else if 0 < sign l then (3, sign l) else (0, 0)

structure T where
  kind : Nat
  text : List UInt8
  pos : Nat
deriving DecidableEq

/-- All tokens of what is left, from a place on at which none is silent; the place where there is none. -/
def scan : Nat → Nat → List UInt8 → List T × Option Nat
  | 0, _, _ => ([], none)
  | f + 1, p, l =>
    if l = [] then ([], none)
    else if (tok l).1 = 0 then ([], some p)
    else (⟨(tok l).1, l.take (tok l).2, p⟩ :: (scan f (p + (tok l).2 + sil false (l.drop (tok l).2)) ((l.drop (tok l).2).drop (sil false (l.drop (tok l).2)))).1,
      (scan f (p + (tok l).2 + sil false (l.drop (tok l).2)) ((l.drop (tok l).2).drop (sil false (l.drop (tok l).2)))).2)

def all (s : List UInt8) : List T × Option Nat := scan (s.length + 1) (sil false s) (s.drop (sil false s))

/-- The tokens; the place; the error's number. -/
def read (s : List UInt8) : List T × Nat × Nat :=
  if 65536 < s.length then ([], 0, 3) else
  match (all s).2 with
  | some p => ([], p, 4)
  | none => ((all s).1, 0, 0)

def own : List (List UInt8) := [[102, 110], [105, 102], [101, 108, 115, 101], [119, 104, 105, 108, 101], [114, 101, 116, 117, 114, 110], [116, 101, 108, 108], [110, 111, 116]]

def name (s : List UInt8) : Bool := !own.contains s && !s.isEmpty && word s == s.length

theorem run_le (p : UInt8 → Bool) (l : List UInt8) : run p l ≤ l.length := by
  induction l with
  | nil => exact Nat.le_refl _
  | cons c l ih => unfold run; split <;> simp <;> omega
theorem word_le (l : List UInt8) : word l ≤ l.length := by unfold word; split; exact Nat.zero_le _; exact run_le _ _
theorem sign_cons (c : UInt8) (l : List UInt8) : sign (c :: l) = if (c.toNat = 61 ∨ c.toNat = 33 ∨ c.toNat = 60) ∧ l.head? = some 61 then 2 else if isS c then 1 else 0 := rfl
theorem sign_le (l : List UInt8) : sign l ≤ l.length := by
  cases l with
  | nil => exact Nat.le_refl _
  | cons c l =>
    rw [sign_cons]
    by_cases h : (c.toNat = 61 ∨ c.toNat = 33 ∨ c.toNat = 60) ∧ l.head? = some 61
    · rw [if_pos h]
      cases l with
      | nil => cases h.2
      | cons d l => simp
    · rw [if_neg h]
      by_cases h2 : isS c = true
      · rw [if_pos h2]; simp
      · rw [if_neg h2]; simp
theorem tok_le (l : List UInt8) : (tok l).2 ≤ l.length := by
  unfold tok
  split
  · exact word_le l
  · split
    · exact run_le _ _
    · split
      · exact sign_le l
      · exact Nat.zero_le _
theorem tok_pos (l : List UInt8) (h : (tok l).1 ≠ 0) : 0 < (tok l).2 := by
  unfold tok at h ⊢
  split
  · assumption
  · split
    · assumption
    · split
      · assumption
      · rename_i h1 h2 h3; simp [h1, h2, h3] at h
theorem tok_kind (l : List UInt8) : (tok l).1 ≤ 3 := by
  unfold tok
  split
  · exact (by decide : 1 ≤ 3)
  · split
    · exact (by decide : 2 ≤ 3)
    · split
      · exact (by decide : 3 ≤ 3)
      · exact (by decide : 0 ≤ 3)
theorem sil_le : ∀ (l : List UInt8) (b : Bool), sil b l ≤ l.length := by
  intro l
  induction l with
  | nil => intro b; unfold sil; exact Nat.zero_le _
  | cons c l ih =>
    intro b
    have h1 := ih true
    have h2 := ih false
    cases b
    · unfold sil; split
      · simp; omega
      · split <;> simp; omega
    · unfold sil; split <;> simp <;> omega

/-- The same, whatever more steps there are. -/
theorem scan_fuel : ∀ (f : Nat) (p : Nat) (l : List UInt8), l.length < f → ∀ k, scan (f + k) p l = scan f p l := by
  intro f
  induction f with
  | zero => intro p l h; exact absurd h (Nat.not_lt_zero _)
  | succ f ih =>
    intro p l h k
    rw [Nat.succ_add, scan, scan]
    split
    · rfl
    · split
      · rfl
      · rename_i h0 h1
        have hp := tok_pos l h1
        have hl : 0 < l.length := by cases l with | nil => exact absurd rfl h0 | cons _ _ => simp
        have hle : ((l.drop (tok l).2).drop (sil false (l.drop (tok l).2))).length < f := by rw [List.length_drop, List.length_drop]; omega
        rw [ih _ _ hle k]

/-- With just as many steps as there are bytes, and one. -/
def scan' (p : Nat) (l : List UInt8) : List T × Option Nat := scan (l.length + 1) p l

theorem scan'_nil (p : Nat) : scan' p [] = ([], none) := rfl
theorem scan'_bad (p : Nat) (l : List UInt8) (h : l ≠ []) (h0 : (tok l).1 = 0) : scan' p l = ([], some p) := by
  unfold scan'; rw [scan, if_neg h, if_pos h0]
theorem scan'_tok (p : Nat) (l : List UInt8) (h : l ≠ []) (h0 : (tok l).1 ≠ 0) :
    scan' p l = (⟨(tok l).1, l.take (tok l).2, p⟩ :: (scan' (p + (tok l).2 + sil false (l.drop (tok l).2)) ((l.drop (tok l).2).drop (sil false (l.drop (tok l).2)))).1,
      (scan' (p + (tok l).2 + sil false (l.drop (tok l).2)) ((l.drop (tok l).2).drop (sil false (l.drop (tok l).2)))).2) := by
  have hp := tok_pos l h0
  have hl : 0 < l.length := by cases l with | nil => exact absurd rfl h | cons _ _ => simp
  have e : ∀ q (r : List UInt8), r.length < l.length → scan l.length q r = scan' q r := by
    intro q r hr
    unfold scan'
    have := scan_fuel (r.length + 1) q r (Nat.lt_succ_self _) (l.length - (r.length + 1))
    rw [← this]; congr 1; omega
  have hle : ((l.drop (tok l).2).drop (sil false (l.drop (tok l).2))).length < l.length := by rw [List.length_drop, List.length_drop]; omega
  have e1 : scan' p l = scan (l.length + 1) p l := rfl
  rw [e1, scan, if_neg h, if_neg h0, e _ _ hle]

theorem all_scan' (s : List UInt8) : all s = scan' (sil false s) (s.drop (sil false s)) := by
  unfold all scan'
  have h : (s.drop (sil false s)).length + 1 ≤ s.length + 1 := by rw [List.length_drop]; omega
  have := scan_fuel ((s.drop (sil false s)).length + 1) (sil false s) (s.drop (sil false s)) (Nat.lt_succ_self _) (s.length - (s.drop (sil false s)).length)
  rw [← this]; congr 1; rw [List.length_drop]; have := sil_le s false; omega
end Go.To

/- Programs as trees, plainly: nodes, what may be. No program in sight. -/
namespace Go.Nd

/-- A list of nodes: the first one (its kind, its text, its three lists), and the rest. -/
inductive Ns where
  | nil
  | cons (kind : Nat) (text : List UInt8) (l body els rest : Ns)
deriving DecidableEq

/-- One node. -/
structure Nd where
  kind : Nat
  text : List UInt8
  l : Ns
  body : Ns
  els : Ns

def Ns.items : Ns → List Nd
  | .nil => []
  | .cons k t l b e r => ⟨k, t, l, b, e⟩ :: r.items
def Ns.len (x : Ns) : Nat := x.items.length
def Nd.one (x : Nd) : Ns := .cons x.kind x.text x.l x.body x.els .nil

theorem Ns.items_nil : Ns.nil.items = [] := rfl
theorem Ns.items_cons (k : Nat) (t : List UInt8) (l b e r : Ns) : (Ns.cons k t l b e r).items = ⟨k, t, l, b, e⟩ :: r.items := rfl

structure Fn where
  name : List UInt8
  args : List (List UInt8)
  body : Ns
structure Pr where
  funcs : List Fn
  body : Ns

/-- Digits without a needless nought. -/
def plain (s : List UInt8) : Bool := s.all To.isD && (match s with | [] => false | [_] => true | c :: _ => c.toNat != 48)

def signs : List (List UInt8) := [[43], [45], [42], [47], [61, 61], [33, 61], [60], [60, 61]]

/-- Is the second one a number? -/
def raised (l : Ns) : Bool := match l.items with | [_, x] => x.kind == 1 | _ => false

/-- May a node be an expression, what is in it aside? -/
def head (k : Nat) (t : List UInt8) (l : Ns) : Bool :=
  if k = 1 then l.len == 0 && plain t
  else if k = 2 then l.len == 0 && To.name t
  else if k = 3 then t.isEmpty
  else if k = 4 then To.name t
  else if k = 6 ∨ k = 7 then l.len == 1 && t.isEmpty
  else if k = 5 then (if t = [94] then raised l else l.len == 2 && signs.contains t)
  else false

/-- May all of them be expressions? -/
def exprs : Ns → Bool
  | .nil => true
  | .cons k t l b e r => (b.len == 0 && e.len == 0 && exprs l && head k t l) && exprs r

def form (inner : Bool) (k : Nat) (t : List UInt8) (b e : Ns) : Bool :=
  if k = 9 then t.isEmpty
  else if k = 10 then t.isEmpty && e.len == 0
  else if k = 8 then b.len == 0 && e.len == 0 && To.name t
  else if k = 11 then t.isEmpty && b.len == 0 && e.len == 0 && inner
  else if k = 12 ∨ k = 13 then t.isEmpty && b.len == 0 && e.len == 0
  else false

/-- May all of them be statements? -/
def stmts (inner : Bool) : Ns → Bool
  | .nil => true
  | .cons k t l b e r => (l.len == 1 && exprs l && stmts inner b && stmts inner e && form inner k t b e) && stmts inner r

/-- How deep: as the machine reckons. -/
def deep (wrap : Int → Int) : Ns → Int
  | .nil => 0
  | .cons _ _ l b e r => max (wrap (1 + max (max (deep wrap l) (deep wrap b)) (deep wrap e))) (deep wrap r)

def long : Ns → Bool
  | .nil => false
  | .cons k t l b e r => ((k == 1 && decide (200 < t.length)) || long l || long b || long e) || long r

def great (wrap : Int → Int) (l : Ns) : Bool := decide (64 < deep wrap l) || long l

def check (wrap : Int → Int) (p : Pr) : Bool :=
  p.funcs.all (fun f => To.name f.name && f.args.all To.name && stmts true f.body) && stmts false p.body && !(great wrap p.body || p.funcs.any (fun f => great wrap f.body))

theorem deep_nonneg (wrap : Int → Int) (x : Ns) : 0 ≤ deep wrap x := by
  cases x with
  | nil => exact Int.le_refl _
  | cons k t l b e r =>
    have : 0 ≤ deep wrap r := deep_nonneg wrap r
    unfold deep; omega
theorem deep_le (wrap : Int → Int) (m : Int) (hm : 0 ≤ m) (hw : ∀ x, wrap x ≤ m) (x : Ns) : deep wrap x ≤ m := by
  induction x with
  | nil => exact hm
  | cons k t l b e r _ _ _ ihr => unfold deep; have := hw (1 + max (max (deep wrap l) (deep wrap b)) (deep wrap e)); omega
end Go.Nd

/- Programs as trees, plainly: how a text's tokens are read. No program in sight. -/
namespace Go.Nd

abbrev Tx := List UInt8

/-- What was read and the tokens behind it; or the tokens from the one on that may not be. -/
inductive R (α : Type) where
  | ok (x : α) (r : List Tx)
  | bad (r : List Tx)
deriving DecidableEq

def R.map {α β : Type} (f : α → β) : R α → R β
  | .ok x r => .ok (f x) r
  | .bad r => .bad r
def R.rest {α : Type} : R α → List Tx
  | .ok _ r => r
  | .bad r => r
/-- One behind the other. -/
def R.then_ {α β : Type} (x : R α) (f : α → List Tx → R β) : R β := match x with
  | .ok x r => f x r
  | .bad r => .bad r

/-- A token that must be there. -/
def must {α : Type} (t : Tx) (x : α) : List Tx → R α
  | [] => .bad []
  | s :: r => if s = t then .ok x r else .bad (s :: r)

def Ns.of : List Nd → Ns
  | [] => .nil
  | x :: l => .cons x.kind x.text x.l x.body x.els (Ns.of l)
theorem Ns.items_of (l : List Nd) : (Ns.of l).items = l := by
  induction l with
  | nil => rfl
  | cons x l ih => show _ :: (Ns.of l).items = _; rw [ih]
theorem Ns.of_items (x : Ns) : Ns.of x.items = x := by
  induction x with
  | nil => rfl
  | cons k t l b e r _ _ _ ih => show Ns.cons k t l b e (Ns.of r.items) = _; rw [ih]

def bin (s : Tx) (a b : Nd) : Nd := ⟨5, s, Ns.of [a, b], .nil, .nil⟩
def leaf (k : Nat) (t : Tx) : Nd := ⟨k, t, .nil, .nil, .nil⟩

def number : List Tx → R Nd
  | [] => .bad []
  | s :: r => if plain s then .ok (leaf 1 s) r else .bad (s :: r)

/-- What stands between commas, up to an end (the first one is there). -/
def commas {α : Type} (fin : Tx) (read : List Tx → R α) : Nat → List Tx → R (List α)
  | 0, ts => .bad ts
  | n + 1, ts => (read ts).then_ fun x r => match r with
    | [] => .bad []
    | s :: r' => if s = fin then .ok [x] r' else if s = [44] then (commas fin read n r').map (x :: ·) else .bad (s :: r')
def several {α : Type} (fin : Tx) (read : List Tx → R α) (ts : List Tx) : R (List α) := match ts with
  | [] => commas fin read 1 []
  | s :: r => if s = fin then .ok [] r else commas fin read (r.length + 2) (s :: r)

def atom (ex : List Tx → R Nd) : List Tx → R Nd
  | [] => .bad []
  | s :: r =>
    if s = [40] then (ex r).then_ fun x r' => must [41] x r'
    else if s = [91] then (several [93] ex r).map fun l => ⟨3, [], Ns.of l, .nil, .nil⟩
    else if To.name s then match r with
      | [] => .ok (leaf 2 s) []
      | p :: r' => if p = [40] then (several [41] ex r').map fun l => ⟨4, s, Ns.of l, .nil, .nil⟩ else .ok (leaf 2 s) (p :: r')
    else number (s :: r)

/-- And then, so often at most, a sign and one more. -/
def more (signs : List Tx) (read : List Tx → R Nd) : Nat → Nd → List Tx → R Nd
  | 0, x, ts => .ok x ts
  | _ + 1, x, [] => .ok x []
  | n + 1, x, s :: r => if signs.contains s then (read r).then_ fun y r' => more signs read n (bin s x y) r' else .ok x (s :: r)
def row (most : Nat) (signs : List Tx) (read : List Tx → R Nd) (ts : List Tx) : R Nd := (read ts).then_ fun x r => more signs read most x r

def muls : List Tx := [[42], [47]]
def adds : List Tx := [[43], [45]]
def cmps : List Tx := [[61, 61], [33, 61], [60], [60, 61]]

def exprOf (sg : List Tx → R Nd) (ts : List Tx) : R Nd := row 1 cmps (row (ts.length + 1) adds (row (ts.length + 1) muls sg)) ts

def signed : Nat → List Tx → R Nd
  | 0, ts => .bad ts
  | _ + 1, [] => .bad []
  | n + 1, s :: r =>
    if s = [45] then (signed n r).map fun x => ⟨6, [], Ns.of [x], .nil, .nil⟩
    else if s = [110, 111, 116] then (signed n r).map fun x => ⟨7, [], Ns.of [x], .nil, .nil⟩
    else (atom (exprOf (signed n)) (s :: r)).then_ fun x r' => match r' with
      | [] => .ok x []
      | p :: r'' => if p = [94] then (number r'').map (bin [94] x) else .ok x (p :: r'')

def expr (ts : List Tx) : R Nd := exprOf (signed (ts.length + 1)) ts

def ends (k : Nat) (t : Tx) (ts : List Tx) : R Nd := (expr ts).then_ fun x r => must [59] ⟨k, t, Ns.of [x], .nil, .nil⟩ r

/-- Statements up to the end of a block. -/
def stmtsTo (st : List Tx → R Nd) : Nat → List Tx → R (List Nd)
  | 0, ts => .bad ts
  | n + 1, ts => match ts with
    | [] => (st []).map fun x => [x]
    | s :: r => if s = [125] then .ok [] r else (st (s :: r)).then_ fun x r' => (stmtsTo st n r').map (x :: ·)
def block (st : List Tx → R Nd) : List Tx → R (List Nd)
  | [] => .bad []
  | s :: r => if s = [123] then stmtsTo st (r.length + 1) r else .bad (s :: r)

def stmt (inner : Bool) : Nat → List Tx → R Nd
  | 0, ts => .bad ts
  | n + 1, ts => match ts with
    | [] => ends 13 [] []
    | s :: r =>
      if s = [105, 102] then (expr r).then_ fun x r1 => (block (stmt inner n) r1).then_ fun b r2 => match r2 with
        | [] => .ok ⟨9, [], Ns.of [x], Ns.of b, .nil⟩ []
        | p :: r3 => if p = [101, 108, 115, 101] then (block (stmt inner n) r3).map fun e => ⟨9, [], Ns.of [x], Ns.of b, Ns.of e⟩ else .ok ⟨9, [], Ns.of [x], Ns.of b, .nil⟩ (p :: r3)
      else if s = [119, 104, 105, 108, 101] then (expr r).then_ fun x r1 => (block (stmt inner n) r1).map fun b => ⟨10, [], Ns.of [x], Ns.of b, .nil⟩
      else if s = [116, 101, 108, 108] then ends 12 [] r
      else if inner && s == [114, 101, 116, 117, 114, 110] then ends 11 [] r
      else match r with
        | p :: r' => if To.name s && p == [61] then ends 8 s r' else ends 13 [] (s :: r)
        | [] => ends 13 [] (s :: r)

def nameOf : List Tx → R Tx
  | [] => .bad []
  | s :: r => if To.name s then .ok s r else .bad (s :: r)

/-- A function, behind its word. -/
def func (ts : List Tx) : R Fn := (nameOf ts).then_ fun n r => (must [40] () r).then_ fun _ r1 => (several [41] nameOf r1).then_ fun as r2 =>
  (block (stmt true (r2.length + 1)) r2).map fun b => ⟨n, as, Ns.of b⟩

def body : Nat → List Tx → R (List Nd)
  | 0, ts => .bad ts
  | n + 1, ts => match ts with
    | [] => .ok [] []
    | s :: r => (stmt false ((s :: r).length + 1) (s :: r)).then_ fun x r' => (body n r').map (x :: ·)
def prog : Nat → List Fn → List Tx → R Pr
  | 0, _, ts => .bad ts
  | n + 1, fs, ts => match ts with
    | [] => .ok ⟨fs, .nil⟩ []
    | s :: r => if s = [102, 110] then (func r).then_ fun f r' => prog n (fs ++ [f]) r' else (body ((s :: r).length + 1) (s :: r)).map fun b => ⟨fs, Ns.of b⟩

/-- A text's program; the place; the error's number. -/
def parse (wrap : Int → Int) (s : List UInt8) : Pr × Nat × Nat :=
  match To.read s with
  | (l, at_, e) => if e ≠ 0 then (⟨[], .nil⟩, at_, e) else
    match prog (l.length + 2) [] (l.map (·.text)) with
    | .bad r => (⟨[], .nil⟩, (match l[l.length - r.length]? with | some t => t.pos | none => s.length), 4)
    | .ok p _ => if great wrap p.body || p.funcs.any (fun f => great wrap f.body) then (⟨[], .nil⟩, 0, 3) else (p, 0, 0)
end Go.Nd

/- Programs as trees, plainly: what is left behind what was read. No program in sight. -/
namespace Go.Nd

/-- What is left: a piece of the end; if something was read, it was a token at least. -/
def R.Down {α : Type} (x : R α) (ts : List Tx) : Prop := match x with
  | .ok _ r => r <:+ ts ∧ r.length < ts.length
  | .bad r => r <:+ ts
/-- .. maybe none. -/
def R.Down0 {α : Type} (x : R α) (ts : List Tx) : Prop := match x with
  | .ok _ r => r <:+ ts
  | .bad r => r <:+ ts

theorem R.Down.zero {α : Type} {x : R α} {ts : List Tx} (h : x.Down ts) : x.Down0 ts := by
  cases x with
  | ok x r => exact h.1
  | bad r => exact h
theorem R.Down.map {α β : Type} {f : α → β} {x : R α} {ts : List Tx} (h : x.Down ts) : (x.map f).Down ts := by cases x <;> exact h
theorem R.Down0.map {α β : Type} {f : α → β} {x : R α} {ts : List Tx} (h : x.Down0 ts) : (x.map f).Down0 ts := by cases x <;> exact h
theorem R.Down0.mono {α : Type} {x : R α} {ts us : List Tx} (h : x.Down0 ts) (k : ts <:+ us) : x.Down0 us := by
  cases x with
  | ok x r => exact h.trans k
  | bad r => exact h.trans k
theorem R.Down.mono {α : Type} {x : R α} {ts us : List Tx} (h : x.Down ts) (k : ts <:+ us) : x.Down us := by
  cases x with
  | ok x r => exact ⟨h.1.trans k, Nat.lt_of_lt_of_le h.2 k.length_le⟩
  | bad r => exact h.trans k
theorem R.Down0.step {α : Type} {x : R α} {s : Tx} {ts us : List Tx} (h : x.Down0 ts) (k : s :: ts <:+ us) : x.Down us := by
  have h1 : ts <:+ s :: ts := List.suffix_cons s ts
  have hl : (s :: ts).length ≤ us.length := k.length_le
  cases x with
  | ok x r => exact ⟨(h.trans h1).trans k, by have := h.length_le; simp at hl; omega⟩
  | bad r => exact (h.trans h1).trans k
theorem R.Down.then_ {α β : Type} {x : R α} {f : α → List Tx → R β} {ts : List Tx} (h : x.Down ts) (k : ∀ a r, (f a r).Down0 r) : (x.then_ f).Down ts := by
  cases x with
  | ok a r =>
    have h2 := k a r
    show (f a r).Down ts
    cases hf : f a r with
    | ok b q => rw [hf] at h2; exact ⟨List.IsSuffix.trans h2 h.1, Nat.lt_of_le_of_lt (List.IsSuffix.length_le h2) h.2⟩
    | bad q => rw [hf] at h2; exact List.IsSuffix.trans h2 h.1
  | bad r => exact h
theorem R.Down0.then_ {α β : Type} {x : R α} {f : α → List Tx → R β} {ts : List Tx} (h : x.Down0 ts) (k : ∀ a r, (f a r).Down0 r) : (x.then_ f).Down0 ts := by
  cases x with
  | ok a r => exact (k a r).mono h
  | bad r => exact h

theorem must_down {α : Type} (t : Tx) (x : α) (ts : List Tx) : (must t x ts).Down ts := by
  unfold must
  cases ts with
  | nil => exact List.suffix_refl _
  | cons s r =>
    simp only
    split
    · exact ⟨List.suffix_cons _ _, by simp⟩
    · exact List.suffix_refl _
theorem number_down (ts : List Tx) : (number ts).Down ts := by
  cases ts with
  | nil => exact List.suffix_refl _
  | cons s r => unfold number; simp only; split; exact ⟨List.suffix_cons _ _, by simp⟩; exact List.suffix_refl _
theorem nameOf_down (ts : List Tx) : (nameOf ts).Down ts := by
  cases ts with
  | nil => exact List.suffix_refl _
  | cons s r => unfold nameOf; simp only; split; exact ⟨List.suffix_cons _ _, by simp⟩; exact List.suffix_refl _
theorem commas_down {α : Type} {fin : Tx} {read : List Tx → R α} (h : ∀ ts, (read ts).Down ts) : ∀ n ts, (commas fin read n ts).Down ts := by
  intro n
  induction n with
  | zero => intro ts; exact List.suffix_refl _
  | succ n ih =>
    intro ts
    unfold commas
    refine (h ts).then_ fun x r => ?_
    cases r with
    | nil => exact List.suffix_refl _
    | cons s r =>
      simp only
      split
      · exact List.suffix_cons _ _
      · split
        · exact ((ih r).zero.step (List.suffix_refl _)).zero.map
        · exact List.suffix_refl _
theorem several_down0 {α : Type} {fin : Tx} {read : List Tx → R α} (h : ∀ ts, (read ts).Down ts) (ts : List Tx) : (several fin read ts).Down0 ts := by
  cases ts with
  | nil => exact (commas_down h 1 []).zero
  | cons s r =>
    unfold several
    simp only
    split
    · exact List.suffix_cons _ _
    · exact (commas_down h _ _).zero
theorem atom_down {ex : List Tx → R Nd} (h : ∀ ts, (ex ts).Down ts) (ts : List Tx) : (atom ex ts).Down ts := by
  cases ts with
  | nil => exact List.suffix_refl _
  | cons s r =>
    unfold atom
    simp only
    split
    · exact R.Down0.step ((h r).zero.then_ fun x r' => (must_down _ _ _).zero) (List.suffix_refl _)
    · split
      · exact R.Down0.step ((several_down0 h r).map) (List.suffix_refl _)
      · split
        · cases r with
          | nil => exact ⟨List.suffix_cons _ _, by simp⟩
          | cons p r =>
            simp only
            split
            · exact R.Down0.step (R.Down.zero (R.Down0.step ((several_down0 h r).map) (List.suffix_refl _))) (List.suffix_refl _)
            · exact ⟨List.suffix_cons _ _, by simp⟩
        · exact number_down _
theorem more_down0 {signs : List Tx} {read : List Tx → R Nd} (h : ∀ ts, (read ts).Down ts) : ∀ n x ts, (more signs read n x ts).Down0 ts := by
  intro n
  induction n with
  | zero => intro x ts; exact List.suffix_refl _
  | succ n ih =>
    intro x ts
    cases ts with
    | nil => exact List.suffix_refl _
    | cons s r =>
      unfold more
      split
      · exact R.Down.zero (R.Down0.step ((h r).zero.then_ fun y r' => ih _ _) (List.suffix_refl _))
      · exact List.suffix_refl _
theorem row_down {signs : List Tx} {read : List Tx → R Nd} (h : ∀ ts, (read ts).Down ts) (n : Nat) (ts : List Tx) : (row n signs read ts).Down ts := (h ts).then_ fun x r => more_down0 h n x r
theorem exprOf_down {sg : List Tx → R Nd} (h : ∀ ts, (sg ts).Down ts) (ts : List Tx) : (exprOf sg ts).Down ts := row_down (fun us => row_down (fun vs => row_down h _ vs) _ us) _ ts
theorem signed_down : ∀ n ts, (signed n ts).Down ts := by
  intro n
  induction n with
  | zero => intro ts; exact List.suffix_refl _
  | succ n ih =>
    intro ts
    cases ts with
    | nil => exact List.suffix_refl _
    | cons s r =>
      unfold signed
      split
      · exact R.Down0.step ((ih r).zero.map) (List.suffix_refl _)
      · split
        · exact R.Down0.step ((ih r).zero.map) (List.suffix_refl _)
        · refine (atom_down (exprOf_down ih) _).then_ fun x r' => ?_
          cases r' with
          | nil => exact List.suffix_refl _
          | cons p r' =>
            simp only
            split
            · exact R.Down.zero (R.Down0.step ((number_down r').zero.map) (List.suffix_refl _))
            · exact List.suffix_refl _
theorem expr_down (ts : List Tx) : (expr ts).Down ts := exprOf_down (signed_down _) ts
theorem ends_down (k : Nat) (t : Tx) (ts : List Tx) : (ends k t ts).Down ts := (expr_down ts).then_ fun _ _ => (must_down _ _ _).zero
theorem stmtsTo_down {st : List Tx → R Nd} (h : ∀ ts, (st ts).Down ts) : ∀ n ts, (stmtsTo st n ts).Down0 ts := by
  intro n
  induction n with
  | zero => intro ts; exact List.suffix_refl _
  | succ n ih =>
    intro ts
    cases ts with
    | nil => unfold stmtsTo; exact (h []).zero.map
    | cons s r =>
      unfold stmtsTo
      simp only
      split
      · exact List.suffix_cons _ _
      · exact (h _).zero.then_ fun x r' => (ih r').map
theorem block_down {st : List Tx → R Nd} (h : ∀ ts, (st ts).Down ts) (ts : List Tx) : (block st ts).Down ts := by
  cases ts with
  | nil => exact List.suffix_refl _
  | cons s r =>
    unfold block
    simp only
    split
    · exact R.Down0.step (stmtsTo_down h _ _) (List.suffix_refl _)
    · exact List.suffix_refl _
theorem stmt_down (inner : Bool) : ∀ n ts, (stmt inner n ts).Down ts := by
  intro n
  induction n with
  | zero => intro ts; exact List.suffix_refl _
  | succ n ih =>
    intro ts
    cases ts with
    | nil => exact ends_down _ _ _
    | cons s r =>
      unfold stmt
      simp only
      split
      · refine R.Down0.step ((expr_down r).zero.then_ fun x r1 => (block_down ih r1).zero.then_ fun b r2 => ?_) (List.suffix_refl _)
        cases r2 with
        | nil => exact List.suffix_refl _
        | cons p r3 =>
          simp only
          split
          · exact R.Down.zero (R.Down0.step (block_down ih r3).zero.map (List.suffix_refl _))
          · exact List.suffix_refl _
      · split
        · exact R.Down0.step ((expr_down r).zero.then_ fun x r1 => (block_down ih r1).zero.map) (List.suffix_refl _)
        · split
          · exact R.Down0.step (ends_down _ _ _).zero (List.suffix_refl _)
          · split
            · exact R.Down0.step (ends_down _ _ _).zero (List.suffix_refl _)
            · cases r with
              | nil => exact ends_down _ _ _
              | cons p r' =>
                simp only
                split
                · exact R.Down0.step (R.Down.zero (R.Down0.step (ends_down _ _ _).zero (List.suffix_refl _))) (List.suffix_refl _)
                · exact ends_down _ _ _
theorem func_down (ts : List Tx) : (func ts).Down ts :=
  (nameOf_down ts).then_ fun _ _ => (must_down _ _ _).zero.then_ fun _ _ => (several_down0 nameOf_down _).then_ fun _ _ => (block_down (stmt_down true _) _).zero.map
end Go.Nd

/- Programs as trees, plainly: fuel counts for nothing; equations without fuel. No program in sight. -/
namespace Go.Nd

theorem R.then_congr {α β : Type} {x : R α} {f g : α → List Tx → R β} (h : ∀ a r, x = .ok a r → f a r = g a r) : x.then_ f = x.then_ g := by
  cases x with
  | ok a r => exact h a r rfl
  | bad r => rfl

theorem R.Down.lt {α : Type} {x : R α} {ts : List Tx} (h : x.Down ts) {a : α} {r : List Tx} (e : x = .ok a r) : r.length < ts.length := by subst e; exact h.2
theorem R.Down0.le {α : Type} {x : R α} {ts : List Tx} (h : x.Down0 ts) {a : α} {r : List Tx} (e : x = .ok a r) : r.length ≤ ts.length := by subst e; exact List.IsSuffix.length_le h

theorem commas_fuel {α : Type} {fin : Tx} {read read' : List Tx → R α} (hd : ∀ ts, (read ts).Down ts) : ∀ (n : Nat) (ts : List Tx), (∀ us, us.length ≤ ts.length → read us = read' us) → ∀ m, ts.length < n → ts.length < m → commas fin read n ts = commas fin read' m ts := by
  intro n
  induction n with
  | zero => intro ts _ m h; exact absurd h (Nat.not_lt_zero _)
  | succ n ih =>
    intro ts hr m hn hm
    cases m with
    | zero => exact absurd hm (Nat.not_lt_zero _)
    | succ m =>
      unfold commas
      rw [← hr ts (Nat.le_refl _)]
      refine R.then_congr fun a r he => ?_
      have hl := (hd ts).lt he
      cases r with
      | nil => rfl
      | cons s r =>
        simp only
        rw [List.length_cons] at hl
        rw [ih r (fun us hu => hr us (by omega)) m (by omega) (by omega)]

theorem several_congr {α : Type} {fin : Tx} {read read' : List Tx → R α} (hd : ∀ ts, (read ts).Down ts) (ts : List Tx) (hr : ∀ us, us.length ≤ ts.length → read us = read' us) : several fin read ts = several fin read' ts := by
  cases ts with
  | nil => exact commas_fuel hd 1 [] hr 1 (by simp) (by simp)
  | cons s r => unfold several; simp only; rw [commas_fuel hd (r.length + 2) (s :: r) hr (r.length + 2) (by simp) (by simp)]

theorem more_fuel {signs : List Tx} {read read' : List Tx → R Nd} (hd : ∀ ts, (read ts).Down ts) : ∀ (n : Nat) (x : Nd) (ts : List Tx), (∀ us, us.length < ts.length → read us = read' us) → ∀ m, ts.length ≤ n → ts.length ≤ m → more signs read n x ts = more signs read' m x ts := by
  intro n
  induction n with
  | zero =>
    intro x ts _ m hn hm
    have : ts = [] := List.eq_nil_of_length_eq_zero (by omega)
    subst this
    cases m with
    | zero => rfl
    | succ m => rfl
  | succ n ih =>
    intro x ts hr m hn hm
    cases ts with
    | nil => cases m with | zero => rfl | succ m => rfl
    | cons s r =>
      cases m with
      | zero => simp at hm
      | succ m =>
        unfold more
        rw [← hr r (by simp)]
        rw [List.length_cons] at hn hm
        split
        · refine R.then_congr fun a q he => ?_
          have hl := (hd r).lt he
          exact ih _ _ (fun us hu => hr us (by rw [List.length_cons]; omega)) m (by omega) (by omega)
        · rfl

theorem row_fuel {signs : List Tx} {read read' : List Tx → R Nd} (hd : ∀ ts, (read ts).Down ts) (n m : Nat) (ts : List Tx) (hr : ∀ us, us.length ≤ ts.length → read us = read' us) (hn : ts.length ≤ n) (hm : ts.length ≤ m) : row n signs read ts = row m signs read' ts := by
  unfold row
  rw [← hr ts (Nat.le_refl _)]
  refine R.then_congr fun a q he => ?_
  have hl := (hd ts).lt he
  exact more_fuel hd n a q (fun us hu => hr us (by omega)) m (by omega) (by omega)
/-- .. and where it may be one only. -/
theorem row_congr {signs : List Tx} {read read' : List Tx → R Nd} (hd : ∀ ts, (read ts).Down ts) (n : Nat) (ts : List Tx) (hr : ∀ us, us.length ≤ ts.length → read us = read' us) : row n signs read ts = row n signs read' ts := by
  have key : ∀ (n : Nat) (x : Nd) (us : List Tx), us.length < ts.length → more signs read n x us = more signs read' n x us := by
    intro n
    induction n with
    | zero => intro x us _; rfl
    | succ n ih =>
      intro x us hu
      cases us with
      | nil => rfl
      | cons s r =>
        rw [List.length_cons] at hu
        unfold more
        rw [← hr r (by omega)]
        split
        · refine R.then_congr fun a q he => ?_
          have hl := (hd r).lt he
          exact ih _ _ (by omega)
        · rfl
  unfold row
  rw [← hr ts (Nat.le_refl _)]
  refine R.then_congr fun a q he => ?_
  exact key n a q ((hd ts).lt he)

/-- A product, a sum, of so many parts at most. -/
def prodOf (K : Nat) (sg : List Tx → R Nd) : List Tx → R Nd := row K muls sg
def sumOf (K : Nat) (sg : List Tx → R Nd) : List Tx → R Nd := row K adds (prodOf K sg)
def cmpOf (K : Nat) (sg : List Tx → R Nd) : List Tx → R Nd := row 1 cmps (sumOf K sg)
theorem prodOf_down {sg : List Tx → R Nd} (h : ∀ ts, (sg ts).Down ts) (K : Nat) (ts : List Tx) : (prodOf K sg ts).Down ts := row_down h _ _
theorem sumOf_down {sg : List Tx → R Nd} (h : ∀ ts, (sg ts).Down ts) (K : Nat) (ts : List Tx) : (sumOf K sg ts).Down ts := row_down (prodOf_down h K) _ _
theorem cmpOf_down {sg : List Tx → R Nd} (h : ∀ ts, (sg ts).Down ts) (K : Nat) (ts : List Tx) : (cmpOf K sg ts).Down ts := row_down (sumOf_down h K) _ _
theorem exprOf_is (sg : List Tx → R Nd) (ts : List Tx) : exprOf sg ts = cmpOf (ts.length + 1) sg ts := rfl

theorem cmpOf_fuel {sg sg' : List Tx → R Nd} (hd : ∀ ts, (sg ts).Down ts) (K K' : Nat) (ts : List Tx) (hr : ∀ us, us.length ≤ ts.length → sg us = sg' us) (hK : ts.length ≤ K) (hK' : ts.length ≤ K') : cmpOf K sg ts = cmpOf K' sg' ts :=
  row_congr (sumOf_down hd K) 1 ts fun us hu => row_fuel (prodOf_down hd K) K K' us (fun vs hv => row_fuel hd K K' vs (fun ws hw => hr ws (by omega)) (by omega) (by omega)) (by omega) (by omega)

theorem exprOf_congr {sg sg' : List Tx → R Nd} (hd : ∀ ts, (sg ts).Down ts) (ts : List Tx) (hr : ∀ us, us.length ≤ ts.length → sg us = sg' us) : exprOf sg ts = exprOf sg' ts := cmpOf_fuel hd _ _ ts hr (Nat.le_succ _) (Nat.le_succ _)

theorem atom_congr {ex ex' : List Tx → R Nd} (hd : ∀ ts, (ex ts).Down ts) (ts : List Tx) (hr : ∀ us, us.length < ts.length → ex us = ex' us) : atom ex ts = atom ex' ts := by
  cases ts with
  | nil => rfl
  | cons s r =>
    unfold atom
    simp only [List.length_cons] at hr
    simp only
    rw [← hr r (by omega), several_congr hd r (fun us hu => hr us (by omega))]
    cases r with
    | nil => rfl
    | cons p r => simp only; rw [several_congr (fin := [41]) hd r (fun us hu => hr us (by rw [List.length_cons]; omega))]

theorem signed_fuel : ∀ (n : Nat) (ts : List Tx) (m : Nat), ts.length < n → ts.length < m → signed n ts = signed m ts := by
  intro n
  induction n with
  | zero => intro ts m h; exact absurd h (Nat.not_lt_zero _)
  | succ n ih =>
    intro ts m hn hm
    cases m with
    | zero => exact absurd hm (Nat.not_lt_zero _)
    | succ m =>
      cases ts with
      | nil => rfl
      | cons s r =>
        rw [List.length_cons] at hn hm
        unfold signed
        rw [ih r m (by omega) (by omega)]
        rw [atom_congr (exprOf_down (signed_down n)) (s :: r) (ex' := exprOf (signed m)) (fun us hu => by
          rw [List.length_cons] at hu
          exact exprOf_congr (signed_down n) us fun vs hv => ih vs m (by omega) (by omega))]

/-- What has signs ahead, without fuel. -/
def sg (ts : List Tx) : R Nd := signed (ts.length + 1) ts
theorem sg_down (ts : List Tx) : (sg ts).Down ts := signed_down _ ts
theorem expr_is (K : Nat) (ts : List Tx) (hK : ts.length ≤ K) : expr ts = cmpOf K sg ts := by
  unfold expr
  exact cmpOf_fuel (signed_down _) _ K ts (fun us hu => signed_fuel _ us _ (by omega) (by omega)) (Nat.le_succ _) hK
theorem sg_nil : sg [] = .bad [] := rfl
theorem sg_cons (s : Tx) (r : List Tx) : sg (s :: r) =
    if s = [45] then (sg r).map fun x => ⟨6, [], Ns.of [x], .nil, .nil⟩
    else if s = [110, 111, 116] then (sg r).map fun x => ⟨7, [], Ns.of [x], .nil, .nil⟩
    else (atom expr (s :: r)).then_ fun x r' => match r' with
      | [] => .ok x []
      | p :: r'' => if p = [94] then (number r'').map (bin [94] x) else .ok x (p :: r'') := by
  show signed ((s :: r).length + 1) (s :: r) = _
  rw [List.length_cons]
  conv => lhs; unfold signed
  rw [show signed (r.length + 1) r = sg r from rfl]
  rw [atom_congr (exprOf_down (signed_down _)) (s :: r) (ex' := expr) (fun us hu => by
    rw [List.length_cons] at hu
    exact exprOf_congr (signed_down _) us fun vs hv => signed_fuel _ vs _ (by omega) (by omega))]
  all_goals rfl

/-! ### Statements -/
theorem stmtsTo_fuel {st st' : List Tx → R Nd} (hd : ∀ ts, (st ts).Down ts) : ∀ (n : Nat) (ts : List Tx), (∀ us, us.length ≤ ts.length → st us = st' us) → ∀ m, ts.length < n → ts.length < m → stmtsTo st n ts = stmtsTo st' m ts := by
  intro n
  induction n with
  | zero => intro ts _ m h; exact absurd h (Nat.not_lt_zero _)
  | succ n ih =>
    intro ts hr m hn hm
    cases m with
    | zero => exact absurd hm (Nat.not_lt_zero _)
    | succ m =>
      cases ts with
      | nil => unfold stmtsTo; simp only; rw [hr [] (Nat.le_refl _)]
      | cons s r =>
        unfold stmtsTo
        simp only
        rw [← hr (s :: r) (Nat.le_refl _)]
        split
        · rfl
        · refine R.then_congr fun a q he => ?_
          have hl := (hd (s :: r)).lt he
          rw [ih q (fun us hu => hr us (by omega)) m (by omega) (by omega)]
theorem block_congr {st st' : List Tx → R Nd} (hd : ∀ ts, (st ts).Down ts) (ts : List Tx) (hr : ∀ us, us.length < ts.length → st us = st' us) : block st ts = block st' ts := by
  cases ts with
  | nil => rfl
  | cons s r =>
    unfold block
    simp only
    rw [stmtsTo_fuel hd (r.length + 1) r (fun us hu => hr us (by rw [List.length_cons]; omega)) (r.length + 1) (by omega) (by omega)]

theorem stmt_fuel (inner : Bool) : ∀ (n : Nat) (ts : List Tx) (m : Nat), ts.length < n → ts.length < m → stmt inner n ts = stmt inner m ts := by
  intro n
  induction n with
  | zero => intro ts m h; exact absurd h (Nat.not_lt_zero _)
  | succ n ih =>
    intro ts m hn hm
    cases m with
    | zero => exact absurd hm (Nat.not_lt_zero _)
    | succ m =>
      cases ts with
      | nil => rfl
      | cons s r =>
        rw [List.length_cons] at hn hm
        have hb : ∀ us, us.length ≤ r.length → block (stmt inner n) us = block (stmt inner m) us := fun us hu =>
          block_congr (stmt_down inner n) us fun vs hv => ih vs m (by omega) (by omega)
        unfold stmt
        simp only
        split
        · refine R.then_congr fun x r1 he => ?_
          have h1 := (expr_down r).lt he
          rw [← hb r1 (by omega)]
          refine R.then_congr fun b r2 he2 => ?_
          have h2 := (block_down (stmt_down inner n) r1).lt he2
          cases r2 with
          | nil => rfl
          | cons p r3 => simp only; rw [hb r3 (by rw [List.length_cons] at h2; omega)]
        · split
          · refine R.then_congr fun x r1 he => ?_
            have h1 := (expr_down r).lt he
            rw [← hb r1 (by omega)]
          · rfl

/-- A statement, without fuel. -/
def stm (inner : Bool) (ts : List Tx) : R Nd := stmt inner (ts.length + 1) ts
theorem stm_down (inner : Bool) (ts : List Tx) : (stm inner ts).Down ts := stmt_down inner _ ts
theorem stm_nil (inner : Bool) : stm inner [] = ends 13 [] [] := rfl
def branch (inner : Bool) (ts : List Tx) : R Nd := (expr ts).then_ fun x r1 => (block (stm inner) r1).then_ fun b r2 => match r2 with
  | [] => .ok ⟨9, [], Ns.of [x], Ns.of b, .nil⟩ []
  | p :: r3 => if p = [101, 108, 115, 101] then (block (stm inner) r3).map fun e => ⟨9, [], Ns.of [x], Ns.of b, Ns.of e⟩ else .ok ⟨9, [], Ns.of [x], Ns.of b, .nil⟩ (p :: r3)
def loop (inner : Bool) (ts : List Tx) : R Nd := (expr ts).then_ fun x r1 => (block (stm inner) r1).map fun b => ⟨10, [], Ns.of [x], Ns.of b, .nil⟩
theorem stm_cons (inner : Bool) (s : Tx) (r : List Tx) : stm inner (s :: r) =
    if s = [105, 102] then branch inner r
    else if s = [119, 104, 105, 108, 101] then loop inner r
    else if s = [116, 101, 108, 108] then ends 12 [] r
    else if inner && s == [114, 101, 116, 117, 114, 110] then ends 11 [] r
    else match r with
      | p :: r' => if To.name s && p == [61] then ends 8 s r' else ends 13 [] (s :: r)
      | [] => ends 13 [] (s :: r) := by
  have hb : ∀ us, us.length ≤ r.length → block (stmt inner (r.length + 1)) us = block (stm inner) us := fun us hu =>
    block_congr (stmt_down inner _) us fun vs hv => stmt_fuel inner _ vs _ (by omega) (by omega)
  show stmt inner ((s :: r).length + 1) (s :: r) = _
  rw [List.length_cons]
  conv => lhs; unfold stmt
  simp only
  split
  · unfold branch
    refine R.then_congr fun x r1 he => ?_
    have h1 := (expr_down r).lt he
    rw [← hb r1 (by omega)]
    refine R.then_congr fun b r2 he2 => ?_
    have h2 := (block_down (stmt_down inner (r.length + 1)) r1).lt he2
    cases r2 with
    | nil => rfl
    | cons p r3 => simp only; rw [hb r3 (by rw [List.length_cons] at h2; omega)]
  · split
    · unfold loop
      refine R.then_congr fun x r1 he => ?_
      have h1 := (expr_down r).lt he
      rw [← hb r1 (by omega)]
    · rfl

theorem func_is (ts : List Tx) : func ts = (nameOf ts).then_ fun n r => (must [40] () r).then_ fun _ r1 => (several [41] nameOf r1).then_ fun as r2 => (block (stm true) r2).map fun b => ⟨n, as, Ns.of b⟩ := by
  unfold func
  refine R.then_congr fun n r _ => R.then_congr fun _ r1 _ => R.then_congr fun as r2 _ => ?_
  rw [block_congr (stmt_down true _) r2 (st' := stm true) fun us hu => stmt_fuel true _ us _ (by omega) (by omega)]

/-! ### Loops, from where they are -/
/-- Behind one of several. -/
def sevTail {α : Type} (fin : Tx) (read : List Tx → R α) : List Tx → R (List α)
  | [] => .bad []
  | s :: r => if s = fin then .ok [] r else if s = [44] then commas fin read (r.length + 1) r else .bad (s :: r)
theorem R.map_map {α β γ : Type} (f : α → β) (g : β → γ) (x : R α) : (x.map f).map g = x.map (g ∘ f) := by cases x <;> rfl
theorem R.map_then {α β γ : Type} (f : α → β) (x : R α) (k : β → List Tx → R γ) : (x.map f).then_ k = x.then_ fun a r => k (f a) r := by cases x <;> rfl
theorem R.then_map {α β γ : Type} (x : R α) (k : α → List Tx → R β) (f : β → γ) : (x.then_ k).map f = x.then_ fun a r => (k a r).map f := by cases x <;> rfl
theorem commas_is {α : Type} {fin : Tx} {read : List Tx → R α} (hd : ∀ ts, (read ts).Down ts) (n : Nat) (ts : List Tx) (hn : ts.length < n) : commas fin read n ts = (read ts).then_ fun x r => (sevTail fin read r).map (x :: ·) := by
  cases n with
  | zero => exact absurd hn (Nat.not_lt_zero _)
  | succ n =>
    conv => lhs; unfold commas
    refine R.then_congr fun a r he => ?_
    have hl := (hd ts).lt he
    cases r with
    | nil => rfl
    | cons s r =>
      rw [List.length_cons] at hl
      unfold sevTail
      simp only
      rw [commas_fuel hd n r (fun _ _ => rfl) (r.length + 1) (by omega) (by omega)]
      split
      · rfl
      · split
        · rfl
        · rfl
theorem several_first {α : Type} {fin : Tx} {read : List Tx → R α} (hd : ∀ ts, (read ts).Down ts) (ts : List Tx) (h : ts.head? ≠ some fin) : several fin read ts = (read ts).then_ fun x r => (sevTail fin read r).map (x :: ·) := by
  cases ts with
  | nil => exact commas_is hd 1 [] (by simp)
  | cons s r =>
    unfold several
    simp only
    rw [if_neg (by intro e; subst e; exact h rfl), commas_is hd _ _ (by simp)]
theorem several_none {α : Type} {fin : Tx} {read : List Tx → R α} (r : List Tx) : several fin read (fin :: r) = .ok [] r := by unfold several; simp only; rw [if_pos trivial]
theorem sevTail_comma {α : Type} {fin : Tx} {read : List Tx → R α} (hd : ∀ ts, (read ts).Down ts) (hf : fin ≠ [44]) (r : List Tx) : sevTail fin read ([44] :: r) = (read r).then_ fun x q => (sevTail fin read q).map (x :: ·) := by
  conv => lhs; unfold sevTail
  simp only
  rw [if_neg (fun e => hf e.symm), if_pos trivial, commas_is hd _ _ (Nat.lt_succ_self _)]

/-- Statements up to a block's end, without fuel. -/
def stmtsT (st : List Tx → R Nd) (ts : List Tx) : R (List Nd) := stmtsTo st (ts.length + 1) ts
theorem stmtsT_end (st : List Tx → R Nd) (r : List Tx) : stmtsT st ([125] :: r) = .ok [] r := by unfold stmtsT stmtsTo; simp only; rw [if_pos trivial]
theorem stmtsT_more {st : List Tx → R Nd} (hd : ∀ ts, (st ts).Down ts) (ts : List Tx) (h : ts.head? ≠ some [125]) (he : ts ≠ []) : stmtsT st ts = (st ts).then_ fun x r => (stmtsT st r).map (x :: ·) := by
  cases ts with
  | nil => exact absurd rfl he
  | cons s r =>
    conv => lhs; unfold stmtsT stmtsTo
    simp only
    rw [if_neg (by intro e; subst e; exact h rfl)]
    refine R.then_congr fun a q he => ?_
    have hl := (hd (s :: r)).lt he
    rw [List.length_cons] at hl
    rw [stmtsTo_fuel hd (s :: r).length q (fun _ _ => rfl) (q.length + 1) (by simp; omega) (by omega)]
    rfl

/-- A program's body, without fuel. -/
def bodyT (ts : List Tx) : R (List Nd) := body (ts.length + 1) ts
theorem body_fuel : ∀ (n : Nat) (ts : List Tx) (m : Nat), ts.length < n → ts.length < m → body n ts = body m ts := by
  intro n
  induction n with
  | zero => intro ts m h; exact absurd h (Nat.not_lt_zero _)
  | succ n ih =>
    intro ts m hn hm
    cases m with
    | zero => exact absurd hm (Nat.not_lt_zero _)
    | succ m =>
      cases ts with
      | nil => rfl
      | cons s r =>
        unfold body
        simp only
        refine R.then_congr fun a q he => ?_
        have hl := (stmt_down false _ (s :: r)).lt he
        rw [ih q m (by omega) (by omega)]
theorem bodyT_nil : bodyT [] = .ok [] [] := rfl
theorem bodyT_cons (s : Tx) (r : List Tx) : bodyT (s :: r) = (stm false (s :: r)).then_ fun x q => (bodyT q).map (x :: ·) := by
  conv => lhs; unfold bodyT body
  simp only
  refine R.then_congr fun a q he => ?_
  have hl := (stm_down false (s :: r)).lt he
  rw [body_fuel (s :: r).length q (q.length + 1) (by omega) (by omega)]
  rfl

theorem prog_fuel : ∀ (n : Nat) (fs : List Fn) (ts : List Tx) (m : Nat), ts.length < n → ts.length < m → prog n fs ts = prog m fs ts := by
  intro n
  induction n with
  | zero => intro fs ts m h; exact absurd h (Nat.not_lt_zero _)
  | succ n ih =>
    intro fs ts m hn hm
    cases m with
    | zero => exact absurd hm (Nat.not_lt_zero _)
    | succ m =>
      cases ts with
      | nil => rfl
      | cons s r =>
        rw [List.length_cons] at hn hm
        unfold prog
        simp only
        split
        · refine R.then_congr fun a q he => ?_
          have hl := (func_down r).lt he
          exact ih _ q m (by omega) (by omega)
        · rfl
/-- The functions that stand ahead, and what is behind them. -/
def progT (fs : List Fn) (ts : List Tx) : R Pr := prog (ts.length + 1) fs ts
theorem progT_fn (fs : List Fn) (r : List Tx) : progT fs ([102, 110] :: r) = (func r).then_ fun f q => progT (fs ++ [f]) q := by
  conv => lhs; unfold progT prog
  simp only
  rw [if_pos trivial]
  refine R.then_congr fun a q he => ?_
  have hl := (func_down r).lt he
  exact prog_fuel _ _ q _ (by rw [List.length_cons]; omega) (by omega)
theorem progT_body (fs : List Fn) (ts : List Tx) (h : ts.head? ≠ some [102, 110]) : progT fs ts = (bodyT ts).map fun b => ⟨fs, Ns.of b⟩ := by
  cases ts with
  | nil => rfl
  | cons s r =>
    conv => lhs; unfold progT prog
    simp only
    rw [if_neg (by intro e; subst e; exact h rfl)]
    rfl
end Go.Nd

/- Programs as trees, plainly: where tokens stand; the parser without fuel. No program in sight. -/
namespace Go.To

theorem scan'_in : ∀ (n : Nat) (l : List UInt8) (p : Nat), l.length ≤ n → (∀ t ∈ (scan' p l).1, t.text.length ≤ l.length ∧ t.pos ≤ p + l.length) ∧ (scan' p l).1.length ≤ l.length ∧ ∀ q, (scan' p l).2 = some q → q ≤ p + l.length := by
  intro n
  induction n with
  | zero =>
    intro l p h
    have : l = [] := List.eq_nil_of_length_eq_zero (by omega)
    subst this
    rw [scan'_nil]
    exact ⟨(fun t ht => by cases ht), Nat.zero_le _, (fun q hq => by cases hq)⟩
  | succ n ih =>
    intro l p h
    by_cases hl : l = []
    · subst hl
      rw [scan'_nil]
      exact ⟨(fun t ht => by cases ht), Nat.zero_le _, (fun q hq => by cases hq)⟩
    · by_cases h0 : (tok l).1 = 0
      · rw [scan'_bad p l hl h0]
        exact ⟨(fun t ht => by cases ht), Nat.zero_le _, (fun q hq => by cases hq; omega)⟩
      · have hp := tok_pos l h0
        have hle := tok_le l
        have hs := sil_le (l.drop (tok l).2) false
        have hd : (l.drop (tok l).2).length = l.length - (tok l).2 := List.length_drop
        have hd2 : ((l.drop (tok l).2).drop (sil false (l.drop (tok l).2))).length = l.length - (tok l).2 - sil false (l.drop (tok l).2) := by rw [List.length_drop, hd]
        rw [scan'_tok p l hl h0]
        obtain ⟨h1, h2, h3⟩ := ih ((l.drop (tok l).2).drop (sil false (l.drop (tok l).2))) (p + (tok l).2 + sil false (l.drop (tok l).2)) (by omega)
        refine ⟨fun t ht => ?_, by rw [List.length_cons]; omega, fun q hq => by have := h3 q hq; omega⟩
        rcases List.mem_cons.1 ht with rfl | ht
        · exact ⟨by simp only [List.length_take]; omega, by simp only; omega⟩
        · have := h1 t ht
          exact ⟨by omega, by omega⟩
theorem all_in (s : List UInt8) : (∀ t ∈ (all s).1, t.text.length ≤ s.length ∧ t.pos ≤ s.length) ∧ (all s).1.length ≤ s.length ∧ ∀ q, (all s).2 = some q → q ≤ s.length := by
  have hs := sil_le s false
  have hd : (s.drop (sil false s)).length = s.length - sil false s := List.length_drop
  rw [all_scan']
  obtain ⟨h1, h2, h3⟩ := scan'_in _ (s.drop (sil false s)) (sil false s) (Nat.le_refl _)
  exact ⟨fun t ht => by have := h1 t ht; omega, by omega, fun q hq => by have := h3 q hq; omega⟩
theorem read_in (s : List UInt8) : (∀ t ∈ (read s).1, t.text.length ≤ s.length ∧ t.pos ≤ s.length) ∧ (read s).1.length ≤ s.length ∧ (read s).2.1 ≤ s.length ∧ ((read s).2.2 = 0 → s.length ≤ 65536) ∧ ((read s).2.2 = 0 ∨ (read s).2.2 = 3 ∧ (read s).2.1 = 0 ∨ (read s).2.2 = 4) ∧ ((read s).2.2 ≠ 0 → (read s).1 = []) ∧ ((read s).2.2 = 0 → (read s).2.1 = 0) := by
  unfold read
  by_cases h : 65536 < s.length
  · rw [if_pos h]
    exact ⟨(fun t ht => by cases ht), Nat.zero_le _, Nat.zero_le _, (fun e => by cases e), .inr (.inl ⟨rfl, rfl⟩), fun _ => rfl, (fun e => by cases e)⟩
  · rw [if_neg h]
    obtain ⟨h1, h2, h3⟩ := all_in s
    cases ha : (all s).2 with
    | some p => exact ⟨(fun t ht => by cases ht), Nat.zero_le _, h3 p ha, (fun e => by cases e), .inr (.inr rfl), fun _ => rfl, (fun e => by cases e)⟩
    | none => exact ⟨h1, h2, Nat.zero_le _, (fun _ => by omega), .inl rfl, fun e => absurd rfl e, fun _ => rfl⟩
end Go.To
namespace Go.Nd

theorem prog_is (l : List Tx) : prog (l.length + 2) [] l = progT [] l := prog_fuel _ [] l _ (by omega) (by omega)
/-- The place of what may not be. -/
def placeOf (s : List UInt8) (l : List To.T) (r : List Tx) : Nat := match l[l.length - r.length]? with | some t => t.pos | none => s.length
theorem parse_bad0 (wrap : Int → Int) (s : List UInt8) (h : (To.read s).2.2 ≠ 0) : parse wrap s = (⟨[], .nil⟩, (To.read s).2.1, (To.read s).2.2) := by
  unfold parse; simp only; rw [if_pos h]
theorem parse_bad (wrap : Int → Int) (s : List UInt8) {r : List Tx} (h : (To.read s).2.2 = 0) (hp : progT [] ((To.read s).1.map (·.text)) = .bad r) : parse wrap s = (⟨[], .nil⟩, placeOf s (To.read s).1 r, 4) := by
  unfold parse; simp only
  rw [if_neg (by rw [h]; exact fun e => e rfl), show (To.read s).1.length = ((To.read s).1.map (·.text)).length by simp, prog_is, hp]
  simp only [placeOf, List.length_map]
  all_goals (cases (To.read s).1[(To.read s).1.length - r.length]? <;> rfl)
theorem parse_ok (wrap : Int → Int) (s : List UInt8) {r : List Tx} {p : Pr} (h : (To.read s).2.2 = 0) (hp : progT [] ((To.read s).1.map (·.text)) = .ok p r) : parse wrap s = if great wrap p.body || p.funcs.any (fun f => great wrap f.body) then (⟨[], .nil⟩, 0, 3) else (p, 0, 0) := by
  unfold parse; simp only
  rw [if_neg (by rw [h]; exact fun e => e rfl), show (To.read s).1.length = ((To.read s).1.map (·.text)).length by simp, prog_is, hp]
end Go.Nd

/- Programs as trees, plainly: what is parsed may be. No program in sight. -/
namespace Go.Nd

/-- May it be an expression? -/
def okx (x : Nd) : Bool := x.body.len == 0 && x.els.len == 0 && exprs x.l && head x.kind x.text x.l
theorem exprs_of (l : List Nd) : exprs (Ns.of l) = l.all okx := by
  induction l with
  | nil => rfl
  | cons x l ih => show (_ && exprs (Ns.of l)) = _; rw [ih, List.all_cons]; rfl
theorem len_of (l : List Nd) : (Ns.of l).len = l.length := by unfold Ns.len; rw [Ns.items_of]
theorem len_nil : Ns.nil.len = 0 := rfl

/-- What is read is such. -/
def Gives {α : Type} (q : α → Prop) (read : List Tx → R α) : Prop := ∀ ts x r, read ts = .ok x r → q x
theorem R.map_ok {α β : Type} {f : α → β} {x : R α} {b : β} {r : List Tx} (h : x.map f = .ok b r) : ∃ a, x = .ok a r ∧ f a = b := by
  cases x with
  | ok a q => simp only [R.map, R.ok.injEq] at h; exact ⟨a, by rw [h.2], h.1⟩
  | bad q => cases h
theorem R.then_ok {α β : Type} {x : R α} {f : α → List Tx → R β} {b : β} {r : List Tx} (h : x.then_ f = .ok b r) : ∃ a q, x = .ok a q ∧ f a q = .ok b r := by
  cases x with
  | ok a q => exact ⟨a, q, rfl, h⟩
  | bad q => cases h
theorem must_ok {α : Type} {t : Tx} {x y : α} {ts r : List Tx} (h : must t x ts = .ok y r) : y = x := by
  cases ts with
  | nil => cases h
  | cons s q => unfold must at h; simp only at h; split at h; (cases h; rfl); cases h

theorem okx_leaf1 (s : Tx) (h : plain s = true) : okx (leaf 1 s) = true := by unfold okx head leaf; simp [len_nil, exprs, h]
theorem number_gives : Gives (fun x => okx x = true ∧ x.kind = 1) number := by
  intro ts x r h
  cases ts with
  | nil => cases h
  | cons s q =>
    unfold number at h
    simp only at h
    split at h
    · rename_i hp; cases h; exact ⟨okx_leaf1 s hp, rfl⟩
    · cases h
theorem okx_bin {s : Tx} {a b : Nd} (ha : okx a = true) (hb : okx b = true) (hs : (s = [94] ∧ b.kind = 1) ∨ (s ≠ [94] ∧ signs.contains s = true)) : okx (bin s a b) = true := by
  unfold okx bin
  simp only [len_nil, exprs_of, List.all_cons, List.all_nil, ha, hb, Bool.and_true, beq_self_eq_true, Bool.true_and]
  unfold head
  simp only [Nat.reduceEqDiff, if_false, if_true, or_self]
  rcases hs with ⟨rfl, hk⟩ | ⟨h1, h2⟩
  · rw [if_pos rfl]; unfold raised; rw [Ns.items_of]; simpa using hk
  · rw [if_neg h1, len_of, h2]; rfl

theorem commas_gives {α : Type} {q : α → Prop} {fin : Tx} {read : List Tx → R α} (h : Gives q read) : ∀ n, Gives (fun l => ∀ x ∈ l, q x) (commas fin read n) := by
  intro n
  induction n with
  | zero => intro ts x r hr; cases hr
  | succ n ih =>
    intro ts l r hr
    unfold commas at hr
    obtain ⟨x, u, h1, h2⟩ := R.then_ok hr
    have hx := h _ _ _ h1
    cases u with
    | nil => cases h2
    | cons s u =>
      simp only at h2
      split at h2
      · cases h2; intro y hy; simp at hy; subst hy; exact hx
      · split at h2
        · obtain ⟨l', h3, rfl⟩ := R.map_ok h2
          intro y hy
          rcases List.mem_cons.1 hy with rfl | hy
          · exact hx
          · exact ih _ _ _ h3 y hy
        · cases h2
theorem several_gives {α : Type} {q : α → Prop} {fin : Tx} {read : List Tx → R α} (h : Gives q read) : Gives (fun l => ∀ x ∈ l, q x) (several fin read) := by
  intro ts l r hr
  cases ts with
  | nil => exact commas_gives h 1 _ _ _ hr
  | cons s u =>
    unfold several at hr
    simp only at hr
    split at hr
    · cases hr; intro x hx; cases hx
    · exact commas_gives h _ _ _ _ hr
theorem all_ok {l : List Nd} (h : ∀ x ∈ l, okx x = true) : exprs (Ns.of l) = true := by rw [exprs_of]; exact List.all_eq_true.2 h
theorem atom_gives {ex : List Tx → R Nd} (h : Gives (fun x => okx x = true) ex) : Gives (fun x => okx x = true) (atom ex) := by
  intro ts x r hr
  cases ts with
  | nil => cases hr
  | cons s u =>
    unfold atom at hr
    simp only at hr
    split at hr
    · obtain ⟨a, q, h1, h2⟩ := R.then_ok hr
      rw [must_ok h2]; exact h _ _ _ h1
    · split at hr
      · obtain ⟨l, h1, rfl⟩ := R.map_ok hr
        unfold okx head
        simp [len_nil, all_ok (several_gives h _ _ _ h1)]
      · split at hr
        · rename_i hn
          cases u with
          | nil => cases hr; unfold okx head leaf; simp [len_nil, exprs, hn]
          | cons p u =>
            simp only at hr
            split at hr
            · obtain ⟨l, h1, rfl⟩ := R.map_ok hr
              unfold okx head
              simp [len_nil, all_ok (several_gives h _ _ _ h1), hn]
            · cases hr; unfold okx head leaf; simp [len_nil, exprs, hn]
        · exact (number_gives _ _ _ hr).1
theorem more_gives {sg : List Tx} {read : List Tx → R Nd} (h : Gives (fun x => okx x = true) read) (hs : ∀ s ∈ sg, s ≠ [94] ∧ signs.contains s = true) : ∀ n x ts y r, okx x = true → more sg read n x ts = .ok y r → okx y = true := by
  intro n
  induction n with
  | zero => intro x ts y r hx hr; cases hr; exact hx
  | succ n ih =>
    intro x ts y r hx hr
    cases ts with
    | nil => cases hr; exact hx
    | cons s u =>
      unfold more at hr
      split at hr
      · rename_i hc
        obtain ⟨z, q, h1, h2⟩ := R.then_ok hr
        exact ih _ _ _ _ (okx_bin hx (h _ _ _ h1) (.inr (hs s (by simpa using hc)))) h2
      · cases hr; exact hx
theorem row_gives {sg : List Tx} {read : List Tx → R Nd} (h : Gives (fun x => okx x = true) read) (hs : ∀ s ∈ sg, s ≠ [94] ∧ signs.contains s = true) (n : Nat) : Gives (fun x => okx x = true) (row n sg read) := by
  intro ts x r hr
  obtain ⟨a, q, h1, h2⟩ := R.then_ok hr
  exact more_gives h hs n a q x r (h _ _ _ h1) h2
theorem exprOf_gives {sg : List Tx → R Nd} (h : Gives (fun x => okx x = true) sg) : Gives (fun x => okx x = true) (exprOf sg) := by
  intro ts x r hr
  exact row_gives (row_gives (row_gives h (by decide) _) (by decide) _) (by decide) 1 _ _ _ hr
theorem okx_one (k : Nat) (hk : k = 6 ∨ k = 7) {x : Nd} (h : okx x = true) : okx ⟨k, [], Ns.of [x], .nil, .nil⟩ = true := by
  unfold okx head
  rcases hk with rfl | rfl <;> simp [len_nil, exprs_of, h, len_of]
theorem signed_gives : ∀ n, Gives (fun x => okx x = true) (signed n) := by
  intro n
  induction n with
  | zero => intro ts x r h; cases h
  | succ n ih =>
    intro ts x r h
    cases ts with
    | nil => cases h
    | cons s u =>
      unfold signed at h
      split at h
      · obtain ⟨a, h1, rfl⟩ := R.map_ok h
        exact okx_one 6 (.inl rfl) (ih _ _ _ h1)
      · split at h
        · obtain ⟨a, h1, rfl⟩ := R.map_ok h
          exact okx_one 7 (.inr rfl) (ih _ _ _ h1)
        · obtain ⟨a, q, h1, h2⟩ := R.then_ok h
          have ha := atom_gives (exprOf_gives ih) _ _ _ h1
          cases q with
          | nil => cases h2; exact ha
          | cons p q =>
            simp only at h2
            split at h2
            · obtain ⟨b, h3, rfl⟩ := R.map_ok h2
              have hb := number_gives _ _ _ h3
              exact okx_bin ha hb.1 (.inl ⟨rfl, hb.2⟩)
            · cases h2; exact ha
theorem expr_gives : Gives (fun x => okx x = true) expr := fun ts x r h => exprOf_gives (signed_gives _) ts x r h

/-- May it be a statement? -/
def oks (inner : Bool) (x : Nd) : Bool := x.l.len == 1 && exprs x.l && stmts inner x.body && stmts inner x.els && form inner x.kind x.text x.body x.els
theorem stmts_of (inner : Bool) (l : List Nd) : stmts inner (Ns.of l) = l.all (oks inner) := by
  induction l with
  | nil => rfl
  | cons x l ih => show (_ && stmts inner (Ns.of l)) = _; rw [ih, List.all_cons]; rfl
theorem all_oks {inner : Bool} {l : List Nd} (h : ∀ x ∈ l, oks inner x = true) : stmts inner (Ns.of l) = true := by rw [stmts_of]; exact List.all_eq_true.2 h
theorem ends_gives {inner : Bool} {k : Nat} {t : Tx} (hf : form inner k t .nil .nil = true) : Gives (fun x => oks inner x = true) (ends k t) := by
  intro ts x r h
  obtain ⟨a, q, h1, h2⟩ := R.then_ok h
  rw [must_ok h2]
  unfold oks
  simp [len_of, exprs_of, expr_gives _ _ _ h1, stmts, hf]
theorem stmtsTo_gives {inner : Bool} {st : List Tx → R Nd} (h : Gives (fun x => oks inner x = true) st) : ∀ n, Gives (fun l => ∀ x ∈ l, oks inner x = true) (stmtsTo st n) := by
  intro n
  induction n with
  | zero => intro ts l r hr; cases hr
  | succ n ih =>
    intro ts l r hr
    cases ts with
    | nil =>
      unfold stmtsTo at hr
      obtain ⟨a, h1, rfl⟩ := R.map_ok hr
      intro x hx; simp at hx; subst hx; exact h _ _ _ h1
    | cons s u =>
      unfold stmtsTo at hr
      simp only at hr
      split at hr
      · cases hr; intro x hx; cases hx
      · obtain ⟨a, q, h1, h2⟩ := R.then_ok hr
        obtain ⟨l', h3, rfl⟩ := R.map_ok h2
        intro x hx
        rcases List.mem_cons.1 hx with rfl | hx
        · exact h _ _ _ h1
        · exact ih _ _ _ h3 x hx
theorem block_gives {inner : Bool} {st : List Tx → R Nd} (h : Gives (fun x => oks inner x = true) st) : Gives (fun l => ∀ x ∈ l, oks inner x = true) (block st) := by
  intro ts l r hr
  cases ts with
  | nil => cases hr
  | cons s u =>
    unfold block at hr
    simp only at hr
    split at hr
    · exact stmtsTo_gives h _ _ _ _ hr
    · cases hr
theorem stmt_gives (inner : Bool) : ∀ n, Gives (fun x => oks inner x = true) (stmt inner n) := by
  intro n
  induction n with
  | zero => intro ts x r h; cases h
  | succ n ih =>
    intro ts x r h
    have hdo : form inner 13 [] .nil .nil = true := by unfold form; simp [len_nil]
    cases ts with
    | nil => exact ends_gives hdo _ _ _ h
    | cons s u =>
      unfold stmt at h
      simp only at h
      split at h
      · obtain ⟨a, q1, h1, h2⟩ := R.then_ok h
        obtain ⟨b, q2, h3, h4⟩ := R.then_ok h2
        have ha := expr_gives _ _ _ h1
        have hb := all_oks (block_gives ih _ _ _ h3)
        cases q2 with
        | nil => cases h4; unfold oks form; simp [len_of, exprs_of, ha, hb, stmts]
        | cons p q3 =>
          simp only at h4
          split at h4
          · obtain ⟨e, h5, rfl⟩ := R.map_ok h4
            have he := all_oks (block_gives ih _ _ _ h5)
            unfold oks form; simp [len_of, exprs_of, ha, hb, he]
          · cases h4; unfold oks form; simp [len_of, exprs_of, ha, hb, stmts]
      · split at h
        · obtain ⟨a, q1, h1, h2⟩ := R.then_ok h
          obtain ⟨b, h3, rfl⟩ := R.map_ok h2
          have ha := expr_gives _ _ _ h1
          have hb := all_oks (block_gives ih _ _ _ h3)
          unfold oks form; simp [len_of, exprs_of, ha, hb, stmts, len_nil]
        · split at h
          · exact ends_gives (by unfold form; simp [len_nil]) _ _ _ h
          · split at h
            · rename_i hi
              simp only [Bool.and_eq_true] at hi
              exact ends_gives (by unfold form; simp [len_nil, hi.1]) _ _ _ h
            · cases u with
              | nil => exact ends_gives hdo _ _ _ h
              | cons p u =>
                simp only at h
                split at h
                · rename_i hn
                  simp only [Bool.and_eq_true] at hn
                  exact ends_gives (by unfold form; simp [len_nil, hn.1]) _ _ _ h
                · exact ends_gives hdo _ _ _ h
def okf (f : Fn) : Bool := To.name f.name && f.args.all To.name && stmts true f.body
theorem nameOf_gives : Gives (fun s => To.name s = true) nameOf := by
  intro ts x r h
  cases ts with
  | nil => cases h
  | cons s u => unfold nameOf at h; simp only at h; split at h; (rename_i hn; cases h; exact hn); cases h
theorem func_gives : Gives (fun f => okf f = true) func := by
  intro ts f r h
  unfold func at h
  obtain ⟨n, q, h1, h2⟩ := R.then_ok h
  obtain ⟨_, q1, h3, h4⟩ := R.then_ok h2
  obtain ⟨l, q2, h5, h6⟩ := R.then_ok h4
  obtain ⟨b, h7, rfl⟩ := R.map_ok h6
  unfold okf
  have hn := nameOf_gives _ _ _ h1
  have hl : l.all To.name = true := List.all_eq_true.2 (several_gives nameOf_gives _ _ _ h5)
  have hb := all_oks (block_gives (stmt_gives true _) _ _ _ h7)
  simp [hn, hl, hb]
theorem body_gives : ∀ n, Gives (fun l => ∀ x ∈ l, oks false x = true) (body n) := by
  intro n
  induction n with
  | zero => intro ts l r h; cases h
  | succ n ih =>
    intro ts l r h
    cases ts with
    | nil => cases h; intro x hx; cases hx
    | cons s u =>
      unfold body at h
      simp only at h
      obtain ⟨a, q, h1, h2⟩ := R.then_ok h
      obtain ⟨l', h3, rfl⟩ := R.map_ok h2
      intro x hx
      rcases List.mem_cons.1 hx with rfl | hx
      · exact stmt_gives false _ _ _ _ h1
      · exact ih _ _ _ h3 x hx
theorem prog_gives : ∀ n fs ts p r, (∀ f ∈ fs, okf f = true) → prog n fs ts = .ok p r → (∀ f ∈ p.funcs, okf f = true) ∧ stmts false p.body = true := by
  intro n
  induction n with
  | zero => intro fs ts p r hf h; cases h
  | succ n ih =>
    intro fs ts p r hf h
    cases ts with
    | nil => cases h; exact ⟨hf, rfl⟩
    | cons s u =>
      unfold prog at h
      simp only at h
      split at h
      · obtain ⟨f, q, h1, h2⟩ := R.then_ok h
        refine ih _ _ _ _ (fun g hg => ?_) h2
        rcases List.mem_append.1 hg with hg | hg
        · exact hf g hg
        · simp at hg; subst hg; exact func_gives _ _ _ h1
      · obtain ⟨b, h1, rfl⟩ := R.map_ok h
        exact ⟨hf, all_oks (body_gives _ _ _ _ h1)⟩
/-- WHAT IS PARSED MAY BE. -/
theorem parse_may (wrap : Int → Int) (s : List UInt8) (h : (parse wrap s).2.2 = 0) : check wrap (parse wrap s).1 = true ∧ (parse wrap s).2.1 = 0 := by
  by_cases he : (To.read s).2.2 = 0
  · cases hp : progT [] ((To.read s).1.map (·.text)) with
    | bad r => rw [parse_bad wrap s he hp] at h; cases h
    | ok p r =>
      rw [parse_ok wrap s he hp] at h ⊢
      split at h
      · cases h
      · rename_i hg
        rw [if_neg hg]
        have := prog_gives _ [] _ _ _ (fun f hf => by cases hf) hp
        refine ⟨?_, rfl⟩
        unfold check
        simp only [Bool.and_eq_true]
        refine ⟨⟨List.all_eq_true.2 fun f hf => ?_, this.2⟩, by simpa using hg⟩
        have := this.1 f hf
        unfold okf at this
        simpa using this
  · rw [parse_bad0 wrap s he] at h; exact absurd h he
theorem parse_place (wrap : Int → Int) (s : List UInt8) (h : (parse wrap s).2.2 ≠ 0) : (parse wrap s).1.funcs = [] ∧ (parse wrap s).1.body = .nil ∧ (parse wrap s).2.1 ≤ s.length ∧ ((parse wrap s).2.2 = 4 ∨ (parse wrap s).2.2 = 3 ∧ (parse wrap s).2.1 = 0) := by
  obtain ⟨i1, i2, i3, i4, i5, i6, i7⟩ := To.read_in s
  by_cases he : (To.read s).2.2 = 0
  · cases hp : progT [] ((To.read s).1.map (·.text)) with
    | bad r =>
      rw [parse_bad wrap s he hp]
      refine ⟨rfl, rfl, ?_, .inl rfl⟩
      unfold placeOf
      split
      · rename_i t ht; exact (i1 t (List.mem_of_getElem? ht)).2
      · exact Nat.le_refl _
    | ok p r =>
      rw [parse_ok wrap s he hp] at h ⊢
      split at h
      · rename_i hg; rw [if_pos hg]; exact ⟨rfl, rfl, Nat.zero_le _, .inr ⟨rfl, rfl⟩⟩
      · exact absurd rfl h
  · rw [parse_bad0 wrap s he]
    refine ⟨rfl, rfl, i3, ?_⟩
    rcases i5 with h5 | ⟨h5, h6⟩ | h5
    · exact absurd h5 he
    · exact .inr ⟨h5, h6⟩
    · exact .inl h5
end Go.Nd

/- Programs as they are written, plainly. No program in sight. -/
namespace Go.Nd

/-- How closely an expression holds together. -/
def rkx (k : Nat) (t : Tx) : Nat := if k = 6 ∨ k = 7 then 4 else if k = 5 then (if t = [94] then 5 else if t = [42] ∨ t = [47] then 3 else if t = [43] ∨ t = [45] then 2 else 1) else 6
def Nd.rk (x : Nd) : Nat := rkx x.kind x.text
/-- In another one that must hold so closely. -/
def inx (r least : Nat) (s : Tx) : Tx := if r < least then [40] ++ s ++ [41] else s
/-- Texts, something between each two. -/
def sepx (sep : Tx) : List Tx → Tx
  | [] => []
  | [s] => s
  | s :: t :: r => s ++ sep ++ sepx sep (t :: r)
/-- An expression: what is in it has these ranks, and is written so. -/
def shOne (k : Nat) (t : Tx) (rs : List Nat) (ls : List Tx) : Tx :=
  if k = 3 then [91] ++ sepx [44, 32] ls ++ [93]
  else if k = 4 then t ++ [40] ++ sepx [44, 32] ls ++ [41]
  else if k = 6 then [45] ++ inx (rs.getD 0 0) 4 (ls.getD 0 [])
  else if k = 7 then [110, 111, 116, 32] ++ inx (rs.getD 0 0) 4 (ls.getD 0 [])
  else if k = 5 then
    (if t = [94] then inx (rs.getD 0 0) 6 (ls.getD 0 []) ++ t ++ ls.getD 1 []
    else inx (rs.getD 0 0) (max (rkx 5 t) 2) (ls.getD 0 []) ++ [32] ++ t ++ [32] ++ inx (rs.getD 1 0) (rkx 5 t + 1) (ls.getD 1 []))
  else t
def Ns.sh : Ns → List Tx
  | .nil => []
  | .cons k t l _ _ r => shOne k t (l.items.map Nd.rk) l.sh :: r.sh
def Nd.sh (x : Nd) : Tx := shOne x.kind x.text (x.l.items.map Nd.rk) x.l.sh
theorem sh_items (xs : Ns) : xs.sh = xs.items.map Nd.sh := by
  induction xs with
  | nil => rfl
  | cons k t l b e r _ _ _ ih => show _ :: r.sh = _ :: r.items.map Nd.sh; rw [ih]; rfl

/-- Ahead of a statement's expression. -/
def aheadOf (k : Nat) (t : Tx) : Tx := if k = 8 then t ++ [32, 61, 32] else if k = 11 then [114, 101, 116, 117, 114, 110, 32] else if k = 12 then [116, 101, 108, 108, 32] else []
def tabs (d : Nat) : Tx := List.replicate d 9
def lineOf (k : Nat) (t s : Tx) (d : Nat) (lb le : Tx) (els : Bool) : Tx :=
  tabs d ++ (if k = 9 then [105, 102, 32] ++ s ++ [32, 123, 10] ++ lb ++ tabs d ++ (if els then [125, 32, 101, 108, 115, 101, 32, 123, 10] ++ le ++ tabs d else []) ++ [125, 10]
    else if k = 10 then [119, 104, 105, 108, 101, 32] ++ s ++ [32, 123, 10] ++ lb ++ tabs d ++ [125, 10]
    else aheadOf k t ++ s ++ [59, 10])
def Ns.lines : Ns → Nat → Tx
  | .nil, _ => []
  | .cons k t l b e r, d => lineOf k t (l.sh.getD 0 []) d (b.lines (d + 1)) (e.lines (d + 1)) (e.len != 0) ++ r.lines d
def Nd.line (x : Nd) (d : Nat) : Tx := lineOf x.kind x.text (x.l.sh.getD 0 []) d (x.body.lines (d + 1)) (x.els.lines (d + 1)) (x.els.len != 0)
theorem lines_items (xs : Ns) (d : Nat) : xs.lines d = (xs.items.map (Nd.line · d)).flatten := by
  induction xs with
  | nil => rfl
  | cons k t l b e r _ _ _ ih => show _ ++ r.lines d = _ ++ (r.items.map (Nd.line · d)).flatten; rw [ih]; rfl
def fnText (f : Fn) : Tx := [102, 110, 32] ++ f.name ++ [40] ++ sepx [44, 32] f.args ++ [41, 32, 123, 10] ++ f.body.lines 1 ++ [125, 10]
def progText (p : Pr) : Tx := (p.funcs.map fnText).flatten ++ p.body.lines 0
/-- Text: what is written; the error's number. -/
def showP (wrap : Int → Int) (p : Pr) : Tx × Nat := if check wrap p then (if 65536 < (progText p).length then ([], 3) else (progText p, 0)) else ([], 1)
/-- An expression by itself. -/
def stOf (x : Nd) : Pr := ⟨[], .cons 13 [] x.one .nil .nil .nil⟩
def showE (wrap : Int → Int) (x : Nd) : Tx × Nat := if check wrap (stOf x) then (x.sh, 0) else ([], 1)

/-! ### How long -/
/-- How many nodes there are, and bytes in them. -/
def Ns.sz : Ns → Nat
  | .nil => 0
  | .cons _ t l b e r => 1 + t.length + l.sz + b.sz + e.sz + r.sz
def tot : List Tx → Nat
  | [] => 0
  | s :: r => s.length + 2 + tot r
theorem sepx_len (sep : Tx) (h : sep.length ≤ 2) : ∀ l, (sepx sep l).length ≤ tot l := by
  intro l
  induction l with
  | nil => exact Nat.le_refl _
  | cons s r ih =>
    cases r with
    | nil => show s.length ≤ s.length + 2 + 0; omega
    | cons t r =>
      show (s ++ sep ++ sepx sep (t :: r)).length ≤ s.length + 2 + tot (t :: r)
      rw [List.length_append, List.length_append]; omega
theorem inx_len (r least : Nat) (s : Tx) : (inx r least s).length ≤ s.length + 2 := by
  unfold inx; split
  · simp
  · omega
theorem getD_tot (l : List Tx) : (l.getD 0 []).length + (l.getD 1 []).length ≤ tot l := by
  cases l with
  | nil => exact Nat.le_refl _
  | cons s r =>
    cases r with
    | nil => show s.length + 0 ≤ s.length + 2 + 0; omega
    | cons t r => show s.length + t.length ≤ s.length + 2 + (t.length + 2 + tot r); omega
theorem shOne_len (k : Nat) (t : Tx) (rs : List Nat) (ls : List Tx) : (shOne k t rs ls).length ≤ t.length + tot ls + 10 := by
  have h0 := sepx_len [44, 32] (by decide) ls
  have h1 := getD_tot ls
  have h2 := inx_len (rs.getD 0 0) 4 (ls.getD 0 [])
  have h3 := inx_len (rs.getD 0 0) 6 (ls.getD 0 [])
  have h4 := inx_len (rs.getD 0 0) (max (rkx 5 t) 2) (ls.getD 0 [])
  have h5 := inx_len (rs.getD 1 0) (rkx 5 t + 1) (ls.getD 1 [])
  unfold shOne
  split
  · simp only [List.length_append, List.length_cons, List.length_nil]; omega
  · split
    · simp only [List.length_append, List.length_cons, List.length_nil]; omega
    · split
      · simp only [List.length_append, List.length_cons, List.length_nil]; omega
      · split
        · simp only [List.length_append, List.length_cons, List.length_nil]; omega
        · split
          · split
            · simp only [List.length_append]; omega
            · simp only [List.length_append, List.length_cons, List.length_nil]; omega
          · omega
theorem sh_tot (xs : Ns) : tot xs.sh ≤ 12 * xs.sz := by
  induction xs with
  | nil => exact Nat.le_refl _
  | cons k t l b e r il _ _ ir =>
    have := shOne_len k t (l.items.map Nd.rk) l.sh
    show (shOne k t (l.items.map Nd.rk) l.sh).length + 2 + tot r.sh ≤ 12 * (1 + t.length + l.sz + b.sz + e.sz + r.sz)
    omega
theorem nd_sh_len (x : Nd) : x.sh.length ≤ 12 * (1 + x.text.length + x.l.sz) := by
  have h1 := shOne_len x.kind x.text (x.l.items.map Nd.rk) x.l.sh
  have h2 := sh_tot x.l
  unfold Nd.sh
  omega
theorem line_len (k : Nat) (t s : Tx) (d : Nat) (lb le : Tx) (els : Bool) : (lineOf k t s d lb le els).length ≤ 3 * d + 30 + t.length + s.length + lb.length + le.length := by
  unfold lineOf aheadOf tabs
  split
  · split <;> (simp only [List.length_append, List.length_cons, List.length_nil, List.length_replicate]; omega)
  · split
    · simp only [List.length_append, List.length_cons, List.length_nil, List.length_replicate]; omega
    · split
      · simp only [List.length_append, List.length_cons, List.length_nil, List.length_replicate]; omega
      · split
        · simp only [List.length_append, List.length_cons, List.length_nil, List.length_replicate]; omega
        · split <;> (simp only [List.length_append, List.length_cons, List.length_nil, List.length_replicate]; omega)
theorem lines_len (xs : Ns) : ∀ d D, d + xs.sz ≤ D → (xs.lines d).length ≤ xs.sz * (40 * (D + 1)) := by
  induction xs with
  | nil => intro d D _; exact Nat.zero_le _
  | cons k t l b e r _ ib ie ir =>
    intro d D hD
    have hD' : d + (1 + t.length + l.sz + b.sz + e.sz + r.sz) ≤ D := hD
    have h1 := ib (d + 1) D (by omega)
    have h2 := ie (d + 1) D (by omega)
    have h3 := ir d D (by omega)
    have h4 := line_len k t (l.sh.getD 0 []) d (b.lines (d + 1)) (e.lines (d + 1)) (e.len != 0)
    have h5 := getD_tot l.sh
    have h6 := sh_tot l
    show (lineOf k t (l.sh.getD 0 []) d (b.lines (d + 1)) (e.lines (d + 1)) (e.len != 0) ++ r.lines d).length ≤ (1 + t.length + l.sz + b.sz + e.sz + r.sz) * (40 * (D + 1))
    rw [List.length_append]
    have e1 : (1 + t.length + l.sz + b.sz + e.sz + r.sz) * (40 * (D + 1)) = (1 + t.length + l.sz) * (40 * (D + 1)) + b.sz * (40 * (D + 1)) + e.sz * (40 * (D + 1)) + r.sz * (40 * (D + 1)) := by
      rw [Nat.add_mul, Nat.add_mul, Nat.add_mul]
    have e2 : (1 + t.length + l.sz) * 40 ≤ (1 + t.length + l.sz) * (40 * (D + 1)) := Nat.mul_le_mul_left _ (by omega)
    have e3 : 40 * (D + 1) ≤ (1 + t.length + l.sz) * (40 * (D + 1)) := by
      have := Nat.mul_le_mul_right (40 * (D + 1)) (show 1 ≤ 1 + t.length + l.sz by omega)
      omega
    have e4 : (1 + t.length + l.sz) * (40 * (D + 1)) = 40 * (D + 1) + (t.length + l.sz) * (40 * (D + 1)) := by rw [Nat.add_assoc, Nat.add_mul, Nat.one_mul]
    have e5 : (t.length + l.sz) * 40 ≤ (t.length + l.sz) * (40 * (D + 1)) := Nat.mul_le_mul_left _ (by omega)
    rw [e1, e4]
    omega

/-- How great a function, a program is. -/
def fsz (f : Fn) : Nat := 1 + f.name.length + (f.args.map (·.length + 1)).sum + f.body.sz
def psz (p : Pr) : Nat := (p.funcs.map fsz).sum + p.body.sz
theorem tot_sum (l : List (List UInt8)) : tot l ≤ 2 * (l.map (·.length + 1)).sum := by
  induction l with
  | nil => exact Nat.le_refl _
  | cons s l ih => show s.length + 2 + tot l ≤ 2 * ((s.length + 1) + (l.map (·.length + 1)).sum); omega
theorem fn_len (f : Fn) (D : Nat) (hD : fsz f ≤ D) : (fnText f).length ≤ fsz f * (60 * (D + 2)) := by
  have h1 := sepx_len [44, 32] (by decide) f.args
  have h2 := tot_sum f.args
  have h3 := lines_len f.body 1 (D + 1) (by unfold fsz at hD; omega)
  unfold fnText
  simp only [List.length_append, List.length_cons, List.length_nil]
  have e1 : f.body.sz * (40 * (D + 1 + 1)) ≤ f.body.sz * (60 * (D + 2)) := Nat.mul_le_mul_left _ (by omega)
  have e2 : fsz f * (60 * (D + 2)) = (1 + f.name.length + (f.args.map (·.length + 1)).sum) * (60 * (D + 2)) + f.body.sz * (60 * (D + 2)) := by unfold fsz; rw [Nat.add_mul]
  have e3 : (1 + f.name.length + (f.args.map (·.length + 1)).sum) * 60 ≤ (1 + f.name.length + (f.args.map (·.length + 1)).sum) * (60 * (D + 2)) := Nat.mul_le_mul_left _ (by omega)
  omega
theorem fns_len (fs : List Fn) (D : Nat) (hD : (fs.map fsz).sum ≤ D) : (fs.map fnText).flatten.length ≤ (fs.map fsz).sum * (60 * (D + 2)) := by
  induction fs with
  | nil => exact Nat.zero_le _
  | cons f fs ih =>
    simp only [List.map_cons, List.sum_cons] at hD
    have h1 := fn_len f D (by omega)
    have h2 := ih (by omega)
    rw [List.map_cons, List.flatten_cons, List.length_append, List.map_cons, List.sum_cons, Nat.add_mul]
    omega
theorem prog_len (p : Pr) (D : Nat) (hD : psz p ≤ D) : (progText p).length ≤ psz p * (60 * (D + 2)) := by
  unfold psz at hD
  have h1 := fns_len p.funcs D (by omega)
  have h2 := lines_len p.body 0 D (by omega)
  unfold progText
  have e1 : p.body.sz * (40 * (D + 1)) ≤ p.body.sz * (60 * (D + 2)) := Nat.mul_le_mul_left _ (by omega)
  rw [List.length_append]
  unfold psz
  rw [Nat.add_mul]
  omega
/-- Of so great a one the text is no longer than may be. -/
theorem prog_short (p : Pr) (h : psz p ≤ 1048576) : (progText p).length ≤ 140737488351232 := by
  have h1 := prog_len p 1048576 h
  have h2 : psz p * (60 * (1048576 + 2)) ≤ 1048576 * (60 * (1048576 + 2)) := Nat.mul_le_mul_right _ h
  omega
end Go.Nd

/- What is parsed is no greater than its text: each node, and each letter in it, comes out of a token of its own. No program in sight. -/
namespace Go.To
theorem scan'_sum : ∀ (n : Nat) (l : List UInt8) (p : Nat), l.length ≤ n → ((scan' p l).1.map fun t => t.text.length + 1).sum ≤ 2 * l.length := by
  intro n
  induction n with
  | zero =>
    intro l p h
    have : l = [] := List.eq_nil_of_length_eq_zero (by omega)
    subst this
    rw [scan'_nil]
    exact Nat.zero_le _
  | succ n ih =>
    intro l p h
    by_cases hl : l = []
    · subst hl
      rw [scan'_nil]
      exact Nat.zero_le _
    · by_cases h0 : (tok l).1 = 0
      · rw [scan'_bad p l hl h0]
        exact Nat.zero_le _
      · have hp := tok_pos l h0
        have hle := tok_le l
        have hs := sil_le (l.drop (tok l).2) false
        have hd : (l.drop (tok l).2).length = l.length - (tok l).2 := List.length_drop
        have hd2 : ((l.drop (tok l).2).drop (sil false (l.drop (tok l).2))).length = l.length - (tok l).2 - sil false (l.drop (tok l).2) := by rw [List.length_drop, hd]
        rw [scan'_tok p l hl h0]
        have h1 := ih ((l.drop (tok l).2).drop (sil false (l.drop (tok l).2))) (p + (tok l).2 + sil false (l.drop (tok l).2)) (by omega)
        have h2 : (l.take (tok l).2).length ≤ (tok l).2 := by rw [List.length_take]; omega
        rw [List.map_cons, List.sum_cons]
        simp only
        omega
theorem read_sum (s : List UInt8) : ((read s).1.map fun t => t.text.length + 1).sum ≤ 2 * s.length := by
  unfold read
  by_cases h : 65536 < s.length
  · rw [if_pos h]; exact Nat.zero_le _
  · rw [if_neg h]
    have hs := sil_le s false
    have hd : (s.drop (sil false s)).length = s.length - sil false s := List.length_drop
    have h1 := scan'_sum _ (s.drop (sil false s)) (sil false s) (Nat.le_refl _)
    rw [← all_scan'] at h1
    cases ha : (all s).2 with
    | some p => exact Nat.zero_le _
    | none => simp only; omega
end Go.To
namespace Go.Nd
/-- Tokens' weight. -/
def wt : List Tx → Nat
  | [] => 0
  | s :: r => 1 + s.length + wt r
theorem wt_cons (s : Tx) (r : List Tx) : wt (s :: r) = 1 + s.length + wt r := rfl
theorem wt_le (s : Tx) (r : List Tx) : wt r ≤ wt (s :: r) := by rw [wt_cons]; omega
def Nd.wz (x : Nd) : Nat := 1 + x.text.length + x.l.sz + x.body.sz + x.els.sz
def wl (l : List Nd) : Nat := (l.map Nd.wz).sum
theorem wl_cons (x : Nd) (l : List Nd) : wl (x :: l) = x.wz + wl l := by unfold wl; rw [List.map_cons, List.sum_cons]
theorem sz_of (l : List Nd) : (Ns.of l).sz = wl l := by
  induction l with
  | nil => rfl
  | cons x l ih => show 1 + x.text.length + x.l.sz + x.body.sz + x.els.sz + (Ns.of l).sz = _; rw [ih, wl_cons]; rfl
theorem sz_one (x : Nd) : (Ns.of [x]).sz = x.wz := by rw [sz_of, wl_cons]; rfl
theorem wz_list (l : List Nd) : (⟨3, [], Ns.of l, .nil, .nil⟩ : Nd).wz = 1 + wl l := by unfold Nd.wz; simp only [sz_of]; rfl
theorem wz_call (s : Tx) (l : List Nd) : (⟨4, s, Ns.of l, .nil, .nil⟩ : Nd).wz = 1 + s.length + wl l := by unfold Nd.wz; simp only [sz_of]; rfl
theorem wz_one (k : Nat) (s : Tx) (x : Nd) : (⟨k, s, Ns.of [x], .nil, .nil⟩ : Nd).wz = 1 + s.length + x.wz := by unfold Nd.wz; simp only [sz_one]; rfl
theorem wz_leaf (k : Nat) (s : Tx) : (leaf k s).wz = 1 + s.length := rfl
theorem wz_bin (s : Tx) (a b : Nd) : (bin s a b).wz = 1 + s.length + (a.wz + b.wz) := by unfold Nd.wz bin; simp only [sz_of, wl_cons]; rfl

def HasW {α : Type} (f : α → Nat) (read : List Tx → R α) : Prop := ∀ ts x r, read ts = .ok x r → f x + wt r ≤ wt ts
theorem must_wt {α : Type} {t : Tx} {x y : α} {ts r : List Tx} (h : must t x ts = .ok y r) : 1 + t.length + wt r ≤ wt ts := by
  cases ts with
  | nil => cases h
  | cons s q => unfold must at h; simp only at h; split at h; (rename_i e; subst e; cases h; exact Nat.le_refl _); cases h
theorem number_w : HasW Nd.wz number := by
  intro ts x r h
  cases ts with
  | nil => cases h
  | cons s q => unfold number at h; simp only at h; split at h; (cases h; exact Nat.le_refl _); cases h
theorem commas_w {α : Type} {f : α → Nat} {fin : Tx} {read : List Tx → R α} (h : HasW f read) : ∀ n, HasW (fun l => (l.map f).sum) (commas fin read n) := by
  intro n
  induction n with
  | zero => intro ts x r hr; cases hr
  | succ n ih =>
    intro ts l r hr
    unfold commas at hr
    obtain ⟨x, u, h1, h2⟩ := R.then_ok hr
    have hx := h _ _ _ h1
    cases u with
    | nil => cases h2
    | cons s u =>
      simp only at h2
      have hs := wt_le s u
      split at h2
      · cases h2
        show f x + 0 + wt r ≤ wt ts
        omega
      · split at h2
        · obtain ⟨l', h3, rfl⟩ := R.map_ok h2
          have h4 : (l'.map f).sum + wt r ≤ wt u := ih _ _ _ h3
          show ((x :: l').map f).sum + wt r ≤ wt ts
          rw [List.map_cons, List.sum_cons]
          omega
        · cases h2
theorem several_w {α : Type} {f : α → Nat} {fin : Tx} {read : List Tx → R α} (h : HasW f read) : HasW (fun l => (l.map f).sum) (several fin read) := by
  intro ts l r hr
  cases ts with
  | nil => exact commas_w h 1 _ _ _ hr
  | cons s u =>
    unfold several at hr
    simp only at hr
    split at hr
    · cases hr; show 0 + wt r ≤ _; have := wt_le s r; omega
    · exact commas_w h _ _ _ _ hr
theorem atom_w {ex : List Tx → R Nd} (h : HasW Nd.wz ex) : HasW Nd.wz (atom ex) := by
  intro ts x r hr
  cases ts with
  | nil => cases hr
  | cons s u =>
    unfold atom at hr
    simp only at hr
    have hs := wt_cons s u
    split at hr
    · obtain ⟨a, q, h1, h2⟩ := R.then_ok hr
      obtain rfl := must_ok h2
      have h3 := h _ _ _ h1
      have h4 := must_wt h2
      omega
    · split at hr
      · obtain ⟨l, h1, rfl⟩ := R.map_ok hr
        have h2 : wl l + wt r ≤ wt u := several_w h _ _ _ h1
        rw [wz_list]
        omega
      · split at hr
        · cases u with
          | nil => cases hr; rw [wz_leaf]; omega
          | cons p u =>
            simp only at hr
            split at hr
            · obtain ⟨l, h1, rfl⟩ := R.map_ok hr
              have h2 : wl l + wt r ≤ wt u := several_w h _ _ _ h1
              have := wt_le p u
              rw [wz_call]
              omega
            · cases hr; rw [wz_leaf]; omega
        · exact number_w _ _ _ hr
theorem more_w {sg : List Tx} {read : List Tx → R Nd} (h : HasW Nd.wz read) : ∀ n x ts y r, more sg read n x ts = .ok y r → y.wz + wt r ≤ x.wz + wt ts := by
  intro n
  induction n with
  | zero => intro x ts y r hr; cases hr; exact Nat.le_refl _
  | succ n ih =>
    intro x ts y r hr
    cases ts with
    | nil => cases hr; exact Nat.le_refl _
    | cons s u =>
      unfold more at hr
      split at hr
      · obtain ⟨z, q, h1, h2⟩ := R.then_ok hr
        have h3 := ih _ _ _ _ h2
        have h4 := h _ _ _ h1
        rw [wz_bin] at h3
        rw [wt_cons]
        omega
      · cases hr; exact Nat.le_refl _
theorem row_w {sg : List Tx} {read : List Tx → R Nd} (h : HasW Nd.wz read) (n : Nat) : HasW Nd.wz (row n sg read) := by
  intro ts x r hr
  obtain ⟨a, q, h1, h2⟩ := R.then_ok hr
  have h3 := more_w h n a q x r h2
  have h4 := h _ _ _ h1
  omega
theorem exprOf_w {sg : List Tx → R Nd} (h : HasW Nd.wz sg) : HasW Nd.wz (exprOf sg) := fun ts x r hr => row_w (row_w (row_w h _) _) 1 ts x r hr
theorem signed_w : ∀ n, HasW Nd.wz (signed n) := by
  intro n
  induction n with
  | zero => intro ts x r h; cases h
  | succ n ih =>
    intro ts x r h
    cases ts with
    | nil => cases h
    | cons s u =>
      unfold signed at h
      have hs := wt_cons s u
      split at h
      · obtain ⟨a, h1, rfl⟩ := R.map_ok h
        have h2 := ih _ _ _ h1
        rw [wz_one]
        show 1 + 0 + a.wz + wt r ≤ _
        omega
      · split at h
        · obtain ⟨a, h1, rfl⟩ := R.map_ok h
          have h2 := ih _ _ _ h1
          rw [wz_one]
          show 1 + 0 + a.wz + wt r ≤ _
          omega
        · obtain ⟨a, q, h1, h2⟩ := R.then_ok h
          have h3 := atom_w (exprOf_w ih) _ _ _ h1
          cases q with
          | nil => cases h2; exact h3
          | cons p q =>
            simp only at h2
            split at h2
            · rename_i hp
              obtain ⟨b, h5, rfl⟩ := R.map_ok h2
              have h7 := number_w _ _ _ h5
              rw [wt_cons, hp] at h3
              rw [wz_bin]
              show 1 + 1 + (a.wz + b.wz) + wt r ≤ _
              have e : ([94] : Tx).length = 1 := rfl
              omega
            · cases h2; exact h3
theorem expr_w : HasW Nd.wz expr := fun ts x r h => exprOf_w (signed_w _) ts x r h
theorem ends_w {k : Nat} {t : Tx} {ts r : List Tx} {st : Nd} (h : ends k t ts = .ok st r) : st.wz + wt r ≤ t.length + wt ts := by
  obtain ⟨a, q, h1, h2⟩ := R.then_ok h
  obtain rfl := must_ok h2
  have h3 := expr_w _ _ _ h1
  have h4 := must_wt h2
  rw [wz_one]
  omega
theorem stmtsTo_w {st : List Tx → R Nd} (h : HasW Nd.wz st) : ∀ n, HasW wl (stmtsTo st n) := by
  intro n
  induction n with
  | zero => intro ts l r hr; cases hr
  | succ n ih =>
    intro ts l r hr
    cases ts with
    | nil =>
      unfold stmtsTo at hr
      obtain ⟨a, h1, rfl⟩ := R.map_ok hr
      have := h _ _ _ h1
      rw [wl_cons]
      show a.wz + 0 + wt r ≤ _
      omega
    | cons s u =>
      unfold stmtsTo at hr
      simp only at hr
      split at hr
      · cases hr; show 0 + wt r ≤ _; have := wt_le s r; omega
      · obtain ⟨a, q, h1, h2⟩ := R.then_ok hr
        obtain ⟨l', h3, rfl⟩ := R.map_ok h2
        have h4 := h _ _ _ h1
        have h5 := ih _ _ _ h3
        rw [wl_cons]
        omega
theorem block_w {st : List Tx → R Nd} (h : HasW Nd.wz st) : HasW wl (block st) := by
  intro ts l r hr
  cases ts with
  | nil => cases hr
  | cons s u =>
    unfold block at hr
    simp only at hr
    split at hr
    · have := stmtsTo_w h _ _ _ _ hr
      have := wt_le s u
      omega
    · cases hr
theorem stmt_w (inner : Bool) : ∀ n, HasW Nd.wz (stmt inner n) := by
  intro n
  induction n with
  | zero => intro ts x r h; cases h
  | succ n ih =>
    intro ts x r h
    cases ts with
    | nil =>
      have := ends_w (show ends 13 [] [] = .ok x r from h)
      show x.wz + wt r ≤ _
      simpa using this
    | cons s u =>
      unfold stmt at h
      simp only at h
      have hs := wt_cons s u
      split at h
      · obtain ⟨a, q1, h1, h2⟩ := R.then_ok h
        obtain ⟨b, q2, h3, h4⟩ := R.then_ok h2
        have k1 := expr_w _ _ _ h1
        have k2 := block_w ih _ _ _ h3
        cases q2 with
        | nil =>
          cases h4
          show 1 + 0 + (Ns.of [a]).sz + (Ns.of b).sz + 0 + wt [] ≤ _
          rw [sz_one, sz_of]
          omega
        | cons p q3 =>
          simp only at h4
          split at h4
          · obtain ⟨e, h5, rfl⟩ := R.map_ok h4
            have k3 := block_w ih _ _ _ h5
            have := wt_le p q3
            show 1 + 0 + (Ns.of [a]).sz + (Ns.of b).sz + (Ns.of e).sz + wt r ≤ _
            rw [sz_one, sz_of, sz_of]
            omega
          · cases h4
            show 1 + 0 + (Ns.of [a]).sz + (Ns.of b).sz + 0 + wt (p :: q3) ≤ _
            rw [sz_one, sz_of]
            omega
      · split at h
        · obtain ⟨a, q1, h1, h2⟩ := R.then_ok h
          obtain ⟨b, h3, rfl⟩ := R.map_ok h2
          have k1 := expr_w _ _ _ h1
          have k2 := block_w ih _ _ _ h3
          show 1 + 0 + (Ns.of [a]).sz + (Ns.of b).sz + 0 + wt r ≤ _
          rw [sz_one, sz_of]
          omega
        · split at h
          · have := ends_w h
            simp only [List.length_nil] at this
            omega
          · split at h
            · have := ends_w h
              simp only [List.length_nil] at this
              omega
            · cases u with
              | nil =>
                have := ends_w h
                simp only [List.length_nil] at this
                omega
              | cons p u =>
                simp only at h
                split at h
                · have := ends_w h
                  have := wt_le p u
                  omega
                · have := ends_w h
                  simp only [List.length_nil] at this
                  omega
theorem nameOf_w : HasW (fun s : Tx => s.length + 1) nameOf := by
  intro ts x r h
  cases ts with
  | nil => cases h
  | cons s u => unfold nameOf at h; simp only at h; split at h; (cases h; simp only [wt_cons]; omega); cases h
theorem func_w : HasW fsz func := by
  intro ts x r h
  obtain ⟨n, q1, h1, h2⟩ := R.then_ok h
  obtain ⟨_, q2, h3, h4⟩ := R.then_ok h2
  obtain ⟨as, q3, h5, h6⟩ := R.then_ok h4
  obtain ⟨b, h7, rfl⟩ := R.map_ok h6
  have k1 : n.length + 1 + wt q1 ≤ wt ts := nameOf_w _ _ _ h1
  have k2 := must_wt h3
  have k3 : (as.map (·.length + 1)).sum + wt q3 ≤ wt q2 := several_w nameOf_w _ _ _ h5
  have k4 : wl b + wt r ≤ wt q3 := block_w (stmt_w true _) _ _ _ h7
  show 1 + n.length + (as.map (·.length + 1)).sum + (Ns.of b).sz + wt r ≤ wt ts
  rw [sz_of]
  omega
theorem body_w : ∀ n, HasW wl (body n) := by
  intro n
  induction n with
  | zero => intro ts l r hr; cases hr
  | succ n ih =>
    intro ts l r hr
    cases ts with
    | nil => cases hr; exact Nat.le_refl _
    | cons s u =>
      unfold body at hr
      obtain ⟨a, q, h1, h2⟩ := R.then_ok hr
      obtain ⟨l', h3, rfl⟩ := R.map_ok h2
      have h4 := stmt_w false _ _ _ _ h1
      have h5 := ih _ _ _ h3
      rw [wl_cons]
      omega
theorem prog_w : ∀ n fs ts p r, prog n fs ts = .ok p r → psz p + wt r ≤ (fs.map fsz).sum + wt ts := by
  intro n
  induction n with
  | zero => intro fs ts p r h; cases h
  | succ n ih =>
    intro fs ts p r h
    cases ts with
    | nil => cases h; exact Nat.le_refl _
    | cons s u =>
      unfold prog at h
      simp only at h
      split at h
      · obtain ⟨f, q, h1, h2⟩ := R.then_ok h
        have k1 := func_w _ _ _ h1
        have k2 := ih _ _ _ _ h2
        have := wt_le s u
        rw [List.map_append, List.sum_append] at k2
        simp only [List.map_cons, List.map_nil, List.sum_cons, List.sum_nil] at k2
        omega
      · obtain ⟨b, h1, rfl⟩ := R.map_ok h
        have k1 := body_w _ _ _ _ h1
        unfold psz
        simp only
        rw [sz_of]
        omega
theorem wt_toks (l : List To.T) : wt (l.map (·.text)) = (l.map fun t => t.text.length + 1).sum := by
  induction l with
  | nil => rfl
  | cons t l ih => rw [List.map_cons, wt_cons, ih, List.map_cons, List.sum_cons]; omega
/-- What is parsed is no greater than twice its text. -/
theorem parse_bulk (wrap : Int → Int) (s : Tx) : psz (parse wrap s).1 ≤ 2 * s.length := by
  by_cases h : (To.read s).2.2 = 0
  · cases hp : progT [] ((To.read s).1.map (·.text)) with
    | bad r => rw [parse_bad wrap s h hp]; exact Nat.zero_le _
    | ok p r =>
      rw [parse_ok wrap s h hp]
      split
      · exact Nat.zero_le _
      · have k := prog_w _ _ _ _ _ hp
        rw [wt_toks] at k
        have := To.read_sum s
        simp only [List.map_nil, List.sum_nil] at k
        show psz p ≤ _
        omega
  · rw [parse_bad0 wrap s h]; exact Nat.zero_le _
end Go.Nd

/- Tokens: a name is of the first kind, a number without a needless nought of the second. No program in sight. -/
namespace Go.To
theorem letter_not_digit (c : UInt8) (h : isD c = true) : isL c = false := by
  unfold isD at h
  unfold isL
  simp only [Bool.and_eq_true, decide_eq_true_eq] at h
  cases h1 : (decide (97 ≤ c.toNat) && decide (c.toNat ≤ 122)) with
  | true => simp only [Bool.and_eq_true, decide_eq_true_eq] at h1; omega
  | false =>
    cases h2 : (decide (65 ≤ c.toNat) && decide (c.toNat ≤ 90)) with
    | true => simp only [Bool.and_eq_true, decide_eq_true_eq] at h2; omega
    | false => rfl
theorem word_head {c : UInt8} {l : List UInt8} (h : isL c = true) : 0 < word (c :: l) := by
  have h1 : isW c = true := by unfold isW; rw [h]; rfl
  have e1 : run isL (c :: l) = run isL l + 1 := by show (if isL c then _ else _) = _; rw [if_pos h]
  have e2 : run isW (c :: l) = run isW l + 1 := by show (if isW c then _ else _) = _; rw [if_pos h1]
  unfold word
  rw [if_neg (by omega), e2]; omega
theorem word_none {c : UInt8} {l : List UInt8} (h : isL c = false) : word (c :: l) = 0 := by
  have e1 : run isL (c :: l) = 0 := by show (if isL c then _ else _) = _; rw [h]; rfl
  unfold word
  rw [if_pos e1]
theorem tok_name (l : List UInt8) (h : name (l.take (tok l).2) = true) : (tok l).1 = 1 := by
  cases l with
  | nil => exact absurd h (by decide)
  | cons c l =>
    cases hn : (tok (c :: l)).2 with
    | zero => rw [hn, List.take_zero] at h; exact absurd h (by decide)
    | succ n =>
      rw [hn, List.take_succ_cons] at h
      have hc : isL c = true := by
        cases hcc : isL c with
        | true => rfl
        | false =>
          unfold name at h
          rw [word_none hcc] at h
          simp at h
      unfold tok
      rw [if_pos (word_head hc)]
theorem tok_plain (l : List UInt8) (h : Go.Nd.plain (l.take (tok l).2) = true) : (tok l).1 = 2 := by
  cases l with
  | nil => exact absurd h (by decide)
  | cons c l =>
    cases hn : (tok (c :: l)).2 with
    | zero => rw [hn, List.take_zero] at h; exact absurd h (by decide)
    | succ n =>
      rw [hn, List.take_succ_cons] at h
      have hd : isD c = true := by
        unfold Go.Nd.plain at h
        simp only [List.all_cons, Bool.and_eq_true] at h
        exact h.1.1
      have hl := letter_not_digit c hd
      have h1 : word (c :: l) = 0 := word_none hl
      have h2 : 0 < number (c :: l) := by
        have e : run isD (c :: l) = run isD l + 1 := by show (if isD c then _ else _) = _; rw [if_pos hd]
        unfold number
        rw [e]; omega
      unfold tok
      rw [if_neg (by omega), if_pos h2]
theorem scan_kinds : ∀ (f p : Nat) (l : List UInt8) (x : T), x ∈ (scan f p l).1 → (name x.text = true → x.kind = 1) ∧ (Go.Nd.plain x.text = true → x.kind = 2) := by
  intro f
  induction f with
  | zero => intro p l x h; cases h
  | succ f ih =>
    intro p l x h
    rw [scan] at h
    split at h
    · cases h
    · split at h
      · cases h
      · rcases List.mem_cons.1 h with rfl | h
        · exact ⟨tok_name l, tok_plain l⟩
        · exact ih _ _ _ h
theorem all_kinds (s : List UInt8) (x : T) (h : x ∈ (all s).1) : (name x.text = true → x.kind = 1) ∧ (Go.Nd.plain x.text = true → x.kind = 2) := scan_kinds _ _ _ _ h
end Go.To
