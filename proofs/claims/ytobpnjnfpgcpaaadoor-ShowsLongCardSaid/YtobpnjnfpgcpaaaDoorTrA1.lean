/- Texts put together: ToPlain, NdPlain, NdParse, ShPlain, NdSuf, NdFuel, PsPlain, PsOk, PsMay, ShRead, ShRead2, ToPlPlain, ToAhPlain, ToAgPlain, PsLex, ShLex, ShBack. -/

/- Tokens, plainly. No program in sight. -/
namespace Go.To

def isL (c : UInt8) : Bool := (97 ≤ c.toNat && c.toNat ≤ 122) || (65 ≤ c.toNat && c.toNat ≤ 90)
def isD (c : UInt8) : Bool := 48 ≤ c.toNat && c.toNat ≤ 57
def isW (c : UInt8) : Bool := isL c || isD c || c.toNat == 95
def isB (c : UInt8) : Bool := c.toNat == 32 || c.toNat == 9 || c.toNat == 10 || c.toNat == 13

/-- The signs of one byte. -/
def isS (c : UInt8) : Bool := [43, 45, 42, 47, 94, 40, 41, 91, 93, 44, 59, 123, 125, 61, 60].contains c.toNat

/-- How many bytes at the beginning are some of these. -/
def run (p : UInt8 → Bool) : List UInt8 → Nat
  | [] => 0
  | c :: l => if p c then run p l + 1 else 0

def word (l : List UInt8) : Nat := if run isL l = 0 then 0 else run isW l
def number (l : List UInt8) : Nat := run isD l
def sign : List UInt8 → Nat
  | [] => 0
  | c :: l => if (c.toNat = 61 ∨ c.toNat = 33 ∨ c.toNat = 60) ∧ l.head? = some 61 then 2 else if isS c then 1 else 0

/-- How many bytes at the beginning say nothing (inside: of a comment). -/
def sil : Bool → List UInt8 → Nat
  | _, [] => 0
  | true, c :: l => if c.toNat = 10 then sil false l + 1 else sil true l + 1
  | false, c :: l => if isB c then sil false l + 1 else if c.toNat = 35 then sil true l + 1 else 0

/-- The kind of the token that stands at the beginning, how long it is; kind 0: none does. -/
def tok (l : List UInt8) : Nat × Nat := if 0 < word l then (1, word l) else if 0 < number l then (2, number l) else if 0 < sign l then (3, sign l) else (0, 0)

structure T where
  kind : Nat
  text : List UInt8
  pos : Nat
deriving DecidableEq

/-- All tokens of what is left, from a place on at which none is silent; the place where there is none. -/
def scan : Nat → Nat → List UInt8 → List T × Option Nat
  | 0, _, _ => ([], none)
  | f + 1, p, l =>
    if l = [] then ([], none)
    else if (tok l).1 = 0 then ([], some p)
    else (⟨(tok l).1, l.take (tok l).2, p⟩ :: (scan f (p + (tok l).2 + sil false (l.drop (tok l).2)) ((l.drop (tok l).2).drop (sil false (l.drop (tok l).2)))).1,
      (scan f (p + (tok l).2 + sil false (l.drop (tok l).2)) ((l.drop (tok l).2).drop (sil false (l.drop (tok l).2)))).2)

def all (s : List UInt8) : List T × Option Nat := scan (s.length + 1) (sil false s) (s.drop (sil false s))

/-- The tokens; the place; the error's number. -/
def read (s : List UInt8) : List T × Nat × Nat :=
  if 65536 < s.length then ([], 0, 3) else
  match (all s).2 with
  | some p => ([], p, 4)
  | none => ((all s).1, 0, 0)

def own : List (List UInt8) := [[102, 110], [105, 102], [101, 108, 115, 101], [119, 104, 105, 108, 101], [114, 101, 116, 117, 114, 110], [116, 101, 108, 108], [110, 111, 116]]

def name (s : List UInt8) : Bool := !own.contains s && !s.isEmpty && word s == s.length

theorem run_le (p : UInt8 → Bool) (l : List UInt8) : run p l ≤ l.length := by
  induction l with
  | nil => exact Nat.le_refl _
  | cons c l ih => unfold run; split <;> simp <;> omega
theorem word_le (l : List UInt8) : word l ≤ l.length := by unfold word; split; exact Nat.zero_le _; exact run_le _ _
theorem sign_cons (c : UInt8) (l : List UInt8) : sign (c :: l) = if (c.toNat = 61 ∨ c.toNat = 33 ∨ c.toNat = 60) ∧ l.head? = some 61 then 2 else if isS c then 1 else 0 := rfl
theorem sign_le (l : List UInt8) : sign l ≤ l.length := by
  cases l with
  | nil => exact Nat.le_refl _
  | cons c l =>
    rw [sign_cons]
    by_cases h : (c.toNat = 61 ∨ c.toNat = 33 ∨ c.toNat = 60) ∧ l.head? = some 61
    · rw [if_pos h]
      cases l with
      | nil => cases h.2
      | cons d l => simp
    · rw [if_neg h]
      by_cases h2 : isS c = true
      · rw [if_pos h2]; simp
      · rw [if_neg h2]; simp
theorem tok_le (l : List UInt8) : (tok l).2 ≤ l.length := by
  unfold tok
  split
  · exact word_le l
  · split
    · exact run_le _ _
    · split
      · exact sign_le l
      · exact Nat.zero_le _
theorem tok_pos (l : List UInt8) (h : (tok l).1 ≠ 0) : 0 < (tok l).2 := by
  unfold tok at h ⊢
  split
  · assumption
  · split
    · assumption
    · split
      · assumption
      · rename_i h1 h2 h3; simp [h1, h2, h3] at h
theorem tok_kind (l : List UInt8) : (tok l).1 ≤ 3 := by
  unfold tok
  split
  · exact (by decide : 1 ≤ 3)
  · split
    · exact (by decide : 2 ≤ 3)
    · split
      · exact (by decide : 3 ≤ 3)
      · exact (by decide : 0 ≤ 3)
theorem sil_le : ∀ (l : List UInt8) (b : Bool), sil b l ≤ l.length := by
  intro l
  induction l with
  | nil => intro b; unfold sil; exact Nat.zero_le _
  | cons c l ih =>
    intro b
    have h1 := ih true
    have h2 := ih false
    cases b
    · unfold sil; split
      · simp; omega
      · split <;> simp; omega
    · unfold sil; split <;> simp <;> omega

/-- The same, whatever more steps there are. -/
theorem scan_fuel : ∀ (f : Nat) (p : Nat) (l : List UInt8), l.length < f → ∀ k, scan (f + k) p l = scan f p l := by
  intro f
  induction f with
  | zero => intro p l h; exact absurd h (Nat.not_lt_zero _)
  | succ f ih =>
    intro p l h k
    rw [Nat.succ_add, scan, scan]
    split
    · rfl
    · split
      · rfl
      · rename_i h0 h1
        have hp := tok_pos l h1
        have hl : 0 < l.length := by cases l with | nil => exact absurd rfl h0 | cons _ _ => simp
        have hle : ((l.drop (tok l).2).drop (sil false (l.drop (tok l).2))).length < f := by rw [List.length_drop, List.length_drop]; omega
        rw [ih _ _ hle k]

/-- With just as many steps as there are bytes, and one. -/
def scan' (p : Nat) (l : List UInt8) : List T × Option Nat := scan (l.length + 1) p l

theorem scan'_nil (p : Nat) : scan' p [] = ([], none) := rfl
theorem scan'_bad (p : Nat) (l : List UInt8) (h : l ≠ []) (h0 : (tok l).1 = 0) : scan' p l = ([], some p) := by
  unfold scan'; rw [scan, if_neg h, if_pos h0]
theorem scan'_tok (p : Nat) (l : List UInt8) (h : l ≠ []) (h0 : (tok l).1 ≠ 0) :
    scan' p l = (⟨(tok l).1, l.take (tok l).2, p⟩ :: (scan' (p + (tok l).2 + sil false (l.drop (tok l).2)) ((l.drop (tok l).2).drop (sil false (l.drop (tok l).2)))).1,
      (scan' (p + (tok l).2 + sil false (l.drop (tok l).2)) ((l.drop (tok l).2).drop (sil false (l.drop (tok l).2)))).2) := by
  have hp := tok_pos l h0
  have hl : 0 < l.length := by cases l with | nil => exact absurd rfl h | cons _ _ => simp
  have e : ∀ q (r : List UInt8), r.length < l.length → scan l.length q r = scan' q r := by
    intro q r hr
    unfold scan'
    have := scan_fuel (r.length + 1) q r (Nat.lt_succ_self _) (l.length - (r.length + 1))
    rw [← this]; congr 1; omega
  have hle : ((l.drop (tok l).2).drop (sil false (l.drop (tok l).2))).length < l.length := by rw [List.length_drop, List.length_drop]; omega
  have e1 : scan' p l = scan (l.length + 1) p l := rfl
  rw [e1, scan, if_neg h, if_neg h0, e _ _ hle]

theorem all_scan' (s : List UInt8) : all s = scan' (sil false s) (s.drop (sil false s)) := by
  unfold all scan'
  have h : (s.drop (sil false s)).length + 1 ≤ s.length + 1 := by rw [List.length_drop]; omega
  have := scan_fuel ((s.drop (sil false s)).length + 1) (sil false s) (s.drop (sil false s)) (Nat.lt_succ_self _) (s.length - (s.drop (sil false s)).length)
  rw [← this]; congr 1; rw [List.length_drop]; have := sil_le s false; omega
end Go.To

/- Programs as trees, plainly: nodes, what may be. No program in sight. -/
namespace Go.Nd

/-- A list of nodes: the first one (its kind, its text, its three lists), and the rest. -/
inductive Ns where
  | nil
  | cons (kind : Nat) (text : List UInt8) (l body els rest : Ns)
deriving DecidableEq

/-- One node. -/
structure Nd where
  kind : Nat
  text : List UInt8
  l : Ns
  body : Ns
  els : Ns

def Ns.items : Ns → List Nd
  | .nil => []
  | .cons k t l b e r => ⟨k, t, l, b, e⟩ :: r.items
def Ns.len (x : Ns) : Nat := x.items.length
def Nd.one (x : Nd) : Ns := .cons x.kind x.text x.l x.body x.els .nil

theorem Ns.items_nil : Ns.nil.items = [] := rfl
theorem Ns.items_cons (k : Nat) (t : List UInt8) (l b e r : Ns) : (Ns.cons k t l b e r).items = ⟨k, t, l, b, e⟩ :: r.items := rfl

structure Fn where
  name : List UInt8
  args : List (List UInt8)
  body : Ns
structure Pr where
  funcs : List Fn
  body : Ns

/-- Digits without a needless nought. -/
def plain (s : List UInt8) : Bool := s.all To.isD && (match s with | [] => false | [_] => true | c :: _ => c.toNat != 48)

def signs : List (List UInt8) := [[43], [45], [42], [47], [61, 61], [33, 61], [60], [60, 61]]

/-- Is the second one a number? -/
def raised (l : Ns) : Bool := match l.items with | [_, x] => x.kind == 1 | _ => false

/-- May a node be an expression, what is in it aside? -/
def head (k : Nat) (t : List UInt8) (l : Ns) : Bool :=
  if k = 1 then l.len == 0 && plain t
  else if k = 2 then l.len == 0 && To.name t
  else if k = 3 then t.isEmpty
  else if k = 4 then To.name t
  else if k = 6 ∨ k = 7 then l.len == 1 && t.isEmpty
  else if k = 5 then (if t = [94] then raised l else l.len == 2 && signs.contains t)
  else false

/-- May all of them be expressions? -/
def exprs : Ns → Bool
  | .nil => true
  | .cons k t l b e r => (b.len == 0 && e.len == 0 && exprs l && head k t l) && exprs r

def form (inner : Bool) (k : Nat) (t : List UInt8) (b e : Ns) : Bool :=
  if k = 9 then t.isEmpty
  else if k = 10 then t.isEmpty && e.len == 0
  else if k = 8 then b.len == 0 && e.len == 0 && To.name t
  else if k = 11 then t.isEmpty && b.len == 0 && e.len == 0 && inner
  else if k = 12 ∨ k = 13 then t.isEmpty && b.len == 0 && e.len == 0
  else false

/-- May all of them be statements? -/
def stmts (inner : Bool) : Ns → Bool
  | .nil => true
  | .cons k t l b e r => (l.len == 1 && exprs l && stmts inner b && stmts inner e && form inner k t b e) && stmts inner r

/-- How deep: as the machine reckons. -/
def deep (wrap : Int → Int) : Ns → Int
  | .nil => 0
  | .cons _ _ l b e r => max (wrap (1 + max (max (deep wrap l) (deep wrap b)) (deep wrap e))) (deep wrap r)

def long : Ns → Bool
  | .nil => false
  | .cons k t l b e r => ((k == 1 && decide (200 < t.length)) || long l || long b || long e) || long r

def great (wrap : Int → Int) (l : Ns) : Bool := decide (64 < deep wrap l) || long l

def check (wrap : Int → Int) (p : Pr) : Bool :=
  p.funcs.all (fun f => To.name f.name && f.args.all To.name && stmts true f.body) && stmts false p.body && !(great wrap p.body || p.funcs.any (fun f => great wrap f.body))

theorem deep_nonneg (wrap : Int → Int) (x : Ns) : 0 ≤ deep wrap x := by
  cases x with
  | nil => exact Int.le_refl _
  | cons k t l b e r =>
    have : 0 ≤ deep wrap r := deep_nonneg wrap r
    unfold deep; omega
theorem deep_le (wrap : Int → Int) (m : Int) (hm : 0 ≤ m) (hw : ∀ x, wrap x ≤ m) (x : Ns) : deep wrap x ≤ m := by
  induction x with
  | nil => exact hm
  | cons k t l b e r _ _ _ ihr => unfold deep; have := hw (1 + max (max (deep wrap l) (deep wrap b)) (deep wrap e)); omega
end Go.Nd

/- Programs as trees, plainly: how a text's tokens are read. No program in sight. -/
namespace Go.Nd

abbrev Tx := List UInt8

/-- What was read and the tokens behind it; or the tokens from the one on that may not be. -/
inductive R (α : Type) where
  | ok (x : α) (r : List Tx)
  | bad (r : List Tx)
deriving DecidableEq

def R.map {α β : Type} (f : α → β) : R α → R β
  | .ok x r => .ok (f x) r
  | .bad r => .bad r
def R.rest {α : Type} : R α → List Tx
  | .ok _ r => r
  | .bad r => r
/-- One behind the other. -/
def R.then_ {α β : Type} (x : R α) (f : α → List Tx → R β) : R β := match x with
  | .ok x r => f x r
  | .bad r => .bad r

/-- A token that must be there. -/
def must {α : Type} (t : Tx) (x : α) : List Tx → R α
  | [] => .bad []
  | s :: r => if s = t then .ok x r else .bad (s :: r)

def Ns.of : List Nd → Ns
  | [] => .nil
  | x :: l => .cons x.kind x.text x.l x.body x.els (Ns.of l)
theorem Ns.items_of (l : List Nd) : (Ns.of l).items = l := by
  induction l with
  | nil => rfl
  | cons x l ih => show _ :: (Ns.of l).items = _; rw [ih]
theorem Ns.of_items (x : Ns) : Ns.of x.items = x := by
  induction x with
  | nil => rfl
  | cons k t l b e r _ _ _ ih => show Ns.cons k t l b e (Ns.of r.items) = _; rw [ih]

def bin (s : Tx) (a b : Nd) : Nd := ⟨5, s, Ns.of [a, b], .nil, .nil⟩
def leaf (k : Nat) (t : Tx) : Nd := ⟨k, t, .nil, .nil, .nil⟩

def number : List Tx → R Nd
  | [] => .bad []
  | s :: r => if plain s then .ok (leaf 1 s) r else .bad (s :: r)

/-- What stands between commas, up to an end (the first one is there). -/
def commas {α : Type} (fin : Tx) (read : List Tx → R α) : Nat → List Tx → R (List α)
  | 0, ts => .bad ts
  | n + 1, ts => (read ts).then_ fun x r => match r with
    | [] => .bad []
    | s :: r' => if s = fin then .ok [x] r' else if s = [44] then (commas fin read n r').map (x :: ·) else .bad (s :: r')
def several {α : Type} (fin : Tx) (read : List Tx → R α) (ts : List Tx) : R (List α) := match ts with
  | [] => commas fin read 1 []
  | s :: r => if s = fin then .ok [] r else commas fin read (r.length + 2) (s :: r)

def atom (ex : List Tx → R Nd) : List Tx → R Nd
  | [] => .bad []
  | s :: r =>
    if s = [40] then (ex r).then_ fun x r' => must [41] x r'
    else if s = [91] then (several [93] ex r).map fun l => ⟨3, [], Ns.of l, .nil, .nil⟩
    else if To.name s then match r with
      | [] => .ok (leaf 2 s) []
      | p :: r' => if p = [40] then (several [41] ex r').map fun l => ⟨4, s, Ns.of l, .nil, .nil⟩ else .ok (leaf 2 s) (p :: r')
    else number (s :: r)

/-- And then, so often at most, a sign and one more. -/
def more (signs : List Tx) (read : List Tx → R Nd) : Nat → Nd → List Tx → R Nd
  | 0, x, ts => .ok x ts
  | _ + 1, x, [] => .ok x []
  | n + 1, x, s :: r => if signs.contains s then (read r).then_ fun y r' => more signs read n (bin s x y) r' else .ok x (s :: r)
def row (most : Nat) (signs : List Tx) (read : List Tx → R Nd) (ts : List Tx) : R Nd := (read ts).then_ fun x r => more signs read most x r

def muls : List Tx := [[42], [47]]
def adds : List Tx := [[43], [45]]
def cmps : List Tx := [[61, 61], [33, 61], [60], [60, 61]]

def exprOf (sg : List Tx → R Nd) (ts : List Tx) : R Nd := row 1 cmps (row (ts.length + 1) adds (row (ts.length + 1) muls sg)) ts

def signed : Nat → List Tx → R Nd
  | 0, ts => .bad ts
  | _ + 1, [] => .bad []
  | n + 1, s :: r =>
    if s = [45] then (signed n r).map fun x => ⟨6, [], Ns.of [x], .nil, .nil⟩
    else if s = [110, 111, 116] then (signed n r).map fun x => ⟨7, [], Ns.of [x], .nil, .nil⟩
    else (atom (exprOf (signed n)) (s :: r)).then_ fun x r' => match r' with
      | [] => .ok x []
      | p :: r'' => if p = [94] then (number r'').map (bin [94] x) else .ok x (p :: r'')

def expr (ts : List Tx) : R Nd := exprOf (signed (ts.length + 1)) ts

def ends (k : Nat) (t : Tx) (ts : List Tx) : R Nd := (expr ts).then_ fun x r => must [59] ⟨k, t, Ns.of [x], .nil, .nil⟩ r

/-- Statements up to the end of a block. -/
def stmtsTo (st : List Tx → R Nd) : Nat → List Tx → R (List Nd)
  | 0, ts => .bad ts
  | n + 1, ts => match ts with
    | [] => (st []).map fun x => [x]
    | s :: r => if s = [125] then .ok [] r else (st (s :: r)).then_ fun x r' => (stmtsTo st n r').map (x :: ·)
def block (st : List Tx → R Nd) : List Tx → R (List Nd)
  | [] => .bad []
  | s :: r => if s = [123] then stmtsTo st (r.length + 1) r else .bad (s :: r)

def stmt (inner : Bool) : Nat → List Tx → R Nd
  | 0, ts => .bad ts
  | n + 1, ts => match ts with
    | [] => ends 13 [] []
    | s :: r =>
      if s = [105, 102] then (expr r).then_ fun x r1 => (block (stmt inner n) r1).then_ fun b r2 => match r2 with
        | [] => .ok ⟨9, [], Ns.of [x], Ns.of b, .nil⟩ []
        | p :: r3 => if p = [101, 108, 115, 101] then (block (stmt inner n) r3).map fun e => ⟨9, [], Ns.of [x], Ns.of b, Ns.of e⟩ else .ok ⟨9, [], Ns.of [x], Ns.of b, .nil⟩ (p :: r3)
      else if s = [119, 104, 105, 108, 101] then (expr r).then_ fun x r1 => (block (stmt inner n) r1).map fun b => ⟨10, [], Ns.of [x], Ns.of b, .nil⟩
      else if s = [116, 101, 108, 108] then ends 12 [] r
      else if inner && s == [114, 101, 116, 117, 114, 110] then ends 11 [] r
      else match r with
        | p :: r' => if To.name s && p == [61] then ends 8 s r' else ends 13 [] (s :: r)
        | [] => ends 13 [] (s :: r)

def nameOf : List Tx → R Tx
  | [] => .bad []
  | s :: r => if To.name s then .ok s r else .bad (s :: r)

/-- A function, behind its word. -/
def func (ts : List Tx) : R Fn := (nameOf ts).then_ fun n r => (must [40] () r).then_ fun _ r1 => (several [41] nameOf r1).then_ fun as r2 =>
  (block (stmt true (r2.length + 1)) r2).map fun b => ⟨n, as, Ns.of b⟩

def body : Nat → List Tx → R (List Nd)
  | 0, ts => .bad ts
  | n + 1, ts => match ts with
    | [] => .ok [] []
    | s :: r => (stmt false ((s :: r).length + 1) (s :: r)).then_ fun x r' => (body n r').map (x :: ·)
def prog : Nat → List Fn → List Tx → R Pr
  | 0, _, ts => .bad ts
  | n + 1, fs, ts => match ts with
    | [] => .ok ⟨fs, .nil⟩ []
    | s :: r => if s = [102, 110] then (func r).then_ fun f r' => prog n (fs ++ [f]) r' else (body ((s :: r).length + 1) (s :: r)).map fun b => ⟨fs, Ns.of b⟩

/-- A text's program; the place; the error's number. -/
def parse (wrap : Int → Int) (s : List UInt8) : Pr × Nat × Nat :=
  match To.read s with
  | (l, at_, e) => if e ≠ 0 then (⟨[], .nil⟩, at_, e) else
    match prog (l.length + 2) [] (l.map (·.text)) with
    | .bad r => (⟨[], .nil⟩, (match l[l.length - r.length]? with | some t => t.pos | none => s.length), 4)
    | .ok p _ => if great wrap p.body || p.funcs.any (fun f => great wrap f.body) then (⟨[], .nil⟩, 0, 3) else (p, 0, 0)
end Go.Nd

/- Programs as they are written, plainly. No program in sight. -/
namespace Go.Nd

/-- How closely an expression holds together. -/
def rkx (k : Nat) (t : Tx) : Nat := if k = 6 ∨ k = 7 then 4 else if k = 5 then (if t = [94] then 5 else if t = [42] ∨ t = [47] then 3 else if t = [43] ∨ t = [45] then 2 else 1) else 6
def Nd.rk (x : Nd) : Nat := rkx x.kind x.text
/-- In another one that must hold so closely. -/
def inx (r least : Nat) (s : Tx) : Tx := if r < least then [40] ++ s ++ [41] else s
/-- Texts, something between each two. -/
def sepx (sep : Tx) : List Tx → Tx
  | [] => []
  | [s] => s
  | s :: t :: r => s ++ sep ++ sepx sep (t :: r)
/-- An expression: what is in it has these ranks, and is written so. -/
def shOne (k : Nat) (t : Tx) (rs : List Nat) (ls : List Tx) : Tx :=
  if k = 3 then [91] ++ sepx [44, 32] ls ++ [93]
  else if k = 4 then t ++ [40] ++ sepx [44, 32] ls ++ [41]
  else if k = 6 then [45] ++ inx (rs.getD 0 0) 4 (ls.getD 0 [])
  else if k = 7 then [110, 111, 116, 32] ++ inx (rs.getD 0 0) 4 (ls.getD 0 [])
  else if k = 5 then
    (if t = [94] then inx (rs.getD 0 0) 6 (ls.getD 0 []) ++ t ++ ls.getD 1 []
    else inx (rs.getD 0 0) (max (rkx 5 t) 2) (ls.getD 0 []) ++ [32] ++ t ++ [32] ++ inx (rs.getD 1 0) (rkx 5 t + 1) (ls.getD 1 []))
  else t
def Ns.sh : Ns → List Tx
  | .nil => []
  | .cons k t l _ _ r => shOne k t (l.items.map Nd.rk) l.sh :: r.sh
def Nd.sh (x : Nd) : Tx := shOne x.kind x.text (x.l.items.map Nd.rk) x.l.sh
theorem sh_items (xs : Ns) : xs.sh = xs.items.map Nd.sh := by
  induction xs with
  | nil => rfl
  | cons k t l b e r _ _ _ ih => show _ :: r.sh = _ :: r.items.map Nd.sh; rw [ih]; rfl

/-- Ahead of a statement's expression. -/
def aheadOf (k : Nat) (t : Tx) : Tx := if k = 8 then t ++ [32, 61, 32] else if k = 11 then [114, 101, 116, 117, 114, 110, 32] else if k = 12 then [116, 101, 108, 108, 32] else []
def tabs (d : Nat) : Tx := List.replicate d 9
def lineOf (k : Nat) (t s : Tx) (d : Nat) (lb le : Tx) (els : Bool) : Tx :=
  tabs d ++ (if k = 9 then [105, 102, 32] ++ s ++ [32, 123, 10] ++ lb ++ tabs d ++ (if els then [125, 32, 101, 108, 115, 101, 32, 123, 10] ++ le ++ tabs d else []) ++ [125, 10]
    else if k = 10 then [119, 104, 105, 108, 101, 32] ++ s ++ [32, 123, 10] ++ lb ++ tabs d ++ [125, 10]
    else aheadOf k t ++ s ++ [59, 10])
def Ns.lines : Ns → Nat → Tx
  | .nil, _ => []
  | .cons k t l b e r, d => lineOf k t (l.sh.getD 0 []) d (b.lines (d + 1)) (e.lines (d + 1)) (e.len != 0) ++ r.lines d
def Nd.line (x : Nd) (d : Nat) : Tx := lineOf x.kind x.text (x.l.sh.getD 0 []) d (x.body.lines (d + 1)) (x.els.lines (d + 1)) (x.els.len != 0)
theorem lines_items (xs : Ns) (d : Nat) : xs.lines d = (xs.items.map (Nd.line · d)).flatten := by
  induction xs with
  | nil => rfl
  | cons k t l b e r _ _ _ ih => show _ ++ r.lines d = _ ++ (r.items.map (Nd.line · d)).flatten; rw [ih]; rfl
def fnText (f : Fn) : Tx := [102, 110, 32] ++ f.name ++ [40] ++ sepx [44, 32] f.args ++ [41, 32, 123, 10] ++ f.body.lines 1 ++ [125, 10]
def progText (p : Pr) : Tx := (p.funcs.map fnText).flatten ++ p.body.lines 0
/-- Text: what is written; the error's number. -/
def showP (wrap : Int → Int) (p : Pr) : Tx × Nat := if check wrap p then (if 65536 < (progText p).length then ([], 3) else (progText p, 0)) else ([], 1)
/-- An expression by itself. -/
def stOf (x : Nd) : Pr := ⟨[], .cons 13 [] x.one .nil .nil .nil⟩
def showE (wrap : Int → Int) (x : Nd) : Tx × Nat := if check wrap (stOf x) then (x.sh, 0) else ([], 1)

/-! ### How long -/
/-- How many nodes there are, and bytes in them. -/
def Ns.sz : Ns → Nat
  | .nil => 0
  | .cons _ t l b e r => 1 + t.length + l.sz + b.sz + e.sz + r.sz
def tot : List Tx → Nat
  | [] => 0
  | s :: r => s.length + 2 + tot r
theorem sepx_len (sep : Tx) (h : sep.length ≤ 2) : ∀ l, (sepx sep l).length ≤ tot l := by
  intro l
  induction l with
  | nil => exact Nat.le_refl _
  | cons s r ih =>
    cases r with
    | nil => show s.length ≤ s.length + 2 + 0; omega
    | cons t r =>
      show (s ++ sep ++ sepx sep (t :: r)).length ≤ s.length + 2 + tot (t :: r)
      rw [List.length_append, List.length_append]; omega
theorem inx_len (r least : Nat) (s : Tx) : (inx r least s).length ≤ s.length + 2 := by
  unfold inx; split
  · simp
  · omega
theorem getD_tot (l : List Tx) : (l.getD 0 []).length + (l.getD 1 []).length ≤ tot l := by
  cases l with
  | nil => exact Nat.le_refl _
  | cons s r =>
    cases r with
    | nil => show s.length + 0 ≤ s.length + 2 + 0; omega
    | cons t r => show s.length + t.length ≤ s.length + 2 + (t.length + 2 + tot r); omega
theorem shOne_len (k : Nat) (t : Tx) (rs : List Nat) (ls : List Tx) : (shOne k t rs ls).length ≤ t.length + tot ls + 10 := by
  have h0 := sepx_len [44, 32] (by decide) ls
  have h1 := getD_tot ls
  have h2 := inx_len (rs.getD 0 0) 4 (ls.getD 0 [])
  have h3 := inx_len (rs.getD 0 0) 6 (ls.getD 0 [])
  have h4 := inx_len (rs.getD 0 0) (max (rkx 5 t) 2) (ls.getD 0 [])
  have h5 := inx_len (rs.getD 1 0) (rkx 5 t + 1) (ls.getD 1 [])
  unfold shOne
  split
  · simp only [List.length_append, List.length_cons, List.length_nil]; omega
  · split
    · simp only [List.length_append, List.length_cons, List.length_nil]; omega
    · split
      · simp only [List.length_append, List.length_cons, List.length_nil]; omega
      · split
        · simp only [List.length_append, List.length_cons, List.length_nil]; omega
        · split
          · split
            · simp only [List.length_append]; omega
            · simp only [List.length_append, List.length_cons, List.length_nil]; omega
          · omega
theorem sh_tot (xs : Ns) : tot xs.sh ≤ 12 * xs.sz := by
  induction xs with
  | nil => exact Nat.le_refl _
  | cons k t l b e r il _ _ ir =>
    have := shOne_len k t (l.items.map Nd.rk) l.sh
    show (shOne k t (l.items.map Nd.rk) l.sh).length + 2 + tot r.sh ≤ 12 * (1 + t.length + l.sz + b.sz + e.sz + r.sz)
    omega
theorem nd_sh_len (x : Nd) : x.sh.length ≤ 12 * (1 + x.text.length + x.l.sz) := by
  have h1 := shOne_len x.kind x.text (x.l.items.map Nd.rk) x.l.sh
  have h2 := sh_tot x.l
  unfold Nd.sh
  omega
theorem line_len (k : Nat) (t s : Tx) (d : Nat) (lb le : Tx) (els : Bool) : (lineOf k t s d lb le els).length ≤ 3 * d + 30 + t.length + s.length + lb.length + le.length := by
  unfold lineOf aheadOf tabs
  split
  · split <;> (simp only [List.length_append, List.length_cons, List.length_nil, List.length_replicate]; omega)
  · split
    · simp only [List.length_append, List.length_cons, List.length_nil, List.length_replicate]; omega
    · split
      · simp only [List.length_append, List.length_cons, List.length_nil, List.length_replicate]; omega
      · split
        · simp only [List.length_append, List.length_cons, List.length_nil, List.length_replicate]; omega
        · split <;> (simp only [List.length_append, List.length_cons, List.length_nil, List.length_replicate]; omega)
theorem lines_len (xs : Ns) : ∀ d D, d + xs.sz ≤ D → (xs.lines d).length ≤ xs.sz * (40 * (D + 1)) := by
  induction xs with
  | nil => intro d D _; exact Nat.zero_le _
  | cons k t l b e r _ ib ie ir =>
    intro d D hD
    have hD' : d + (1 + t.length + l.sz + b.sz + e.sz + r.sz) ≤ D := hD
    have h1 := ib (d + 1) D (by omega)
    have h2 := ie (d + 1) D (by omega)
    have h3 := ir d D (by omega)
    have h4 := line_len k t (l.sh.getD 0 []) d (b.lines (d + 1)) (e.lines (d + 1)) (e.len != 0)
    have h5 := getD_tot l.sh
    have h6 := sh_tot l
    show (lineOf k t (l.sh.getD 0 []) d (b.lines (d + 1)) (e.lines (d + 1)) (e.len != 0) ++ r.lines d).length ≤ (1 + t.length + l.sz + b.sz + e.sz + r.sz) * (40 * (D + 1))
    rw [List.length_append]
    have e1 : (1 + t.length + l.sz + b.sz + e.sz + r.sz) * (40 * (D + 1)) = (1 + t.length + l.sz) * (40 * (D + 1)) + b.sz * (40 * (D + 1)) + e.sz * (40 * (D + 1)) + r.sz * (40 * (D + 1)) := by
      rw [Nat.add_mul, Nat.add_mul, Nat.add_mul]
    have e2 : (1 + t.length + l.sz) * 40 ≤ (1 + t.length + l.sz) * (40 * (D + 1)) := Nat.mul_le_mul_left _ (by omega)
    have e3 : 40 * (D + 1) ≤ (1 + t.length + l.sz) * (40 * (D + 1)) := by
      have := Nat.mul_le_mul_right (40 * (D + 1)) (show 1 ≤ 1 + t.length + l.sz by omega)
      omega
    have e4 : (1 + t.length + l.sz) * (40 * (D + 1)) = 40 * (D + 1) + (t.length + l.sz) * (40 * (D + 1)) := by rw [Nat.add_assoc, Nat.add_mul, Nat.one_mul]
    have e5 : (t.length + l.sz) * 40 ≤ (t.length + l.sz) * (40 * (D + 1)) := Nat.mul_le_mul_left _ (by omega)
    rw [e1, e4]
    omega

/-- How great a function, a program is. -/
def fsz (f : Fn) : Nat := 1 + f.name.length + (f.args.map (·.length + 1)).sum + f.body.sz
def psz (p : Pr) : Nat := (p.funcs.map fsz).sum + p.body.sz
theorem tot_sum (l : List (List UInt8)) : tot l ≤ 2 * (l.map (·.length + 1)).sum := by
  induction l with
  | nil => exact Nat.le_refl _
  | cons s l ih => show s.length + 2 + tot l ≤ 2 * ((s.length + 1) + (l.map (·.length + 1)).sum); omega
theorem fn_len (f : Fn) (D : Nat) (hD : fsz f ≤ D) : (fnText f).length ≤ fsz f * (60 * (D + 2)) := by
  have h1 := sepx_len [44, 32] (by decide) f.args
  have h2 := tot_sum f.args
  have h3 := lines_len f.body 1 (D + 1) (by unfold fsz at hD; omega)
  unfold fnText
  simp only [List.length_append, List.length_cons, List.length_nil]
  have e1 : f.body.sz * (40 * (D + 1 + 1)) ≤ f.body.sz * (60 * (D + 2)) := Nat.mul_le_mul_left _ (by omega)
  have e2 : fsz f * (60 * (D + 2)) = (1 + f.name.length + (f.args.map (·.length + 1)).sum) * (60 * (D + 2)) + f.body.sz * (60 * (D + 2)) := by unfold fsz; rw [Nat.add_mul]
  have e3 : (1 + f.name.length + (f.args.map (·.length + 1)).sum) * 60 ≤ (1 + f.name.length + (f.args.map (·.length + 1)).sum) * (60 * (D + 2)) := Nat.mul_le_mul_left _ (by omega)
  omega
theorem fns_len (fs : List Fn) (D : Nat) (hD : (fs.map fsz).sum ≤ D) : (fs.map fnText).flatten.length ≤ (fs.map fsz).sum * (60 * (D + 2)) := by
  induction fs with
  | nil => exact Nat.zero_le _
  | cons f fs ih =>
    simp only [List.map_cons, List.sum_cons] at hD
    have h1 := fn_len f D (by omega)
    have h2 := ih (by omega)
    rw [List.map_cons, List.flatten_cons, List.length_append, List.map_cons, List.sum_cons, Nat.add_mul]
    omega
theorem prog_len (p : Pr) (D : Nat) (hD : psz p ≤ D) : (progText p).length ≤ psz p * (60 * (D + 2)) := by
  unfold psz at hD
  have h1 := fns_len p.funcs D (by omega)
  have h2 := lines_len p.body 0 D (by omega)
  unfold progText
  have e1 : p.body.sz * (40 * (D + 1)) ≤ p.body.sz * (60 * (D + 2)) := Nat.mul_le_mul_left _ (by omega)
  rw [List.length_append]
  unfold psz
  rw [Nat.add_mul]
  omega
/-- Of so great a one the text is no longer than may be. -/
theorem prog_short (p : Pr) (h : psz p ≤ 1048576) : (progText p).length ≤ 140737488351232 := by
  have h1 := prog_len p 1048576 h
  have h2 : psz p * (60 * (1048576 + 2)) ≤ 1048576 * (60 * (1048576 + 2)) := Nat.mul_le_mul_right _ h
  omega
end Go.Nd

/- Programs as trees, plainly: what is left behind what was read. No program in sight. -/
namespace Go.Nd

/-- What is left: a piece of the end; if something was read, it was a token at least. -/
def R.Down {α : Type} (x : R α) (ts : List Tx) : Prop := match x with
  | .ok _ r => r <:+ ts ∧ r.length < ts.length
  | .bad r => r <:+ ts
/-- .. maybe none. -/
def R.Down0 {α : Type} (x : R α) (ts : List Tx) : Prop := match x with
  | .ok _ r => r <:+ ts
  | .bad r => r <:+ ts

theorem R.Down.zero {α : Type} {x : R α} {ts : List Tx} (h : x.Down ts) : x.Down0 ts := by
  cases x with
  | ok x r => exact h.1
  | bad r => exact h
theorem R.Down.map {α β : Type} {f : α → β} {x : R α} {ts : List Tx} (h : x.Down ts) : (x.map f).Down ts := by cases x <;> exact h
theorem R.Down0.map {α β : Type} {f : α → β} {x : R α} {ts : List Tx} (h : x.Down0 ts) : (x.map f).Down0 ts := by cases x <;> exact h
theorem R.Down0.mono {α : Type} {x : R α} {ts us : List Tx} (h : x.Down0 ts) (k : ts <:+ us) : x.Down0 us := by
  cases x with
  | ok x r => exact h.trans k
  | bad r => exact h.trans k
theorem R.Down.mono {α : Type} {x : R α} {ts us : List Tx} (h : x.Down ts) (k : ts <:+ us) : x.Down us := by
  cases x with
  | ok x r => exact ⟨h.1.trans k, Nat.lt_of_lt_of_le h.2 k.length_le⟩
  | bad r => exact h.trans k
theorem R.Down0.step {α : Type} {x : R α} {s : Tx} {ts us : List Tx} (h : x.Down0 ts) (k : s :: ts <:+ us) : x.Down us := by
  have h1 : ts <:+ s :: ts := List.suffix_cons s ts
  have hl : (s :: ts).length ≤ us.length := k.length_le
  cases x with
  | ok x r => exact ⟨(h.trans h1).trans k, by have := h.length_le; simp at hl; omega⟩
  | bad r => exact (h.trans h1).trans k
theorem R.Down.then_ {α β : Type} {x : R α} {f : α → List Tx → R β} {ts : List Tx} (h : x.Down ts) (k : ∀ a r, (f a r).Down0 r) : (x.then_ f).Down ts := by
  cases x with
  | ok a r =>
    have h2 := k a r
    show (f a r).Down ts
    cases hf : f a r with
    | ok b q => rw [hf] at h2; exact ⟨List.IsSuffix.trans h2 h.1, Nat.lt_of_le_of_lt (List.IsSuffix.length_le h2) h.2⟩
    | bad q => rw [hf] at h2; exact List.IsSuffix.trans h2 h.1
  | bad r => exact h
theorem R.Down0.then_ {α β : Type} {x : R α} {f : α → List Tx → R β} {ts : List Tx} (h : x.Down0 ts) (k : ∀ a r, (f a r).Down0 r) : (x.then_ f).Down0 ts := by
  cases x with
  | ok a r => exact (k a r).mono h
  | bad r => exact h

theorem must_down {α : Type} (t : Tx) (x : α) (ts : List Tx) : (must t x ts).Down ts := by
  unfold must
  cases ts with
  | nil => exact List.suffix_refl _
  | cons s r =>
    simp only
    split
    · exact ⟨List.suffix_cons _ _, by simp⟩
    · exact List.suffix_refl _
theorem number_down (ts : List Tx) : (number ts).Down ts := by
  cases ts with
  | nil => exact List.suffix_refl _
  | cons s r => unfold number; simp only; split; exact ⟨List.suffix_cons _ _, by simp⟩; exact List.suffix_refl _
theorem nameOf_down (ts : List Tx) : (nameOf ts).Down ts := by
  cases ts with
  | nil => exact List.suffix_refl _
  | cons s r => unfold nameOf; simp only; split; exact ⟨List.suffix_cons _ _, by simp⟩; exact List.suffix_refl _
theorem commas_down {α : Type} {fin : Tx} {read : List Tx → R α} (h : ∀ ts, (read ts).Down ts) : ∀ n ts, (commas fin read n ts).Down ts := by
  intro n
  induction n with
  | zero => intro ts; exact List.suffix_refl _
  | succ n ih =>
    intro ts
    unfold commas
    refine (h ts).then_ fun x r => ?_
    cases r with
    | nil => exact List.suffix_refl _
    | cons s r =>
      simp only
      split
      · exact List.suffix_cons _ _
      · split
        · exact ((ih r).zero.step (List.suffix_refl _)).zero.map
        · exact List.suffix_refl _
theorem several_down0 {α : Type} {fin : Tx} {read : List Tx → R α} (h : ∀ ts, (read ts).Down ts) (ts : List Tx) : (several fin read ts).Down0 ts := by
  cases ts with
  | nil => exact (commas_down h 1 []).zero
  | cons s r =>
    unfold several
    simp only
    split
    · exact List.suffix_cons _ _
    · exact (commas_down h _ _).zero
theorem atom_down {ex : List Tx → R Nd} (h : ∀ ts, (ex ts).Down ts) (ts : List Tx) : (atom ex ts).Down ts := by
  cases ts with
  | nil => exact List.suffix_refl _
  | cons s r =>
    unfold atom
    simp only
    split
    · exact R.Down0.step ((h r).zero.then_ fun x r' => (must_down _ _ _).zero) (List.suffix_refl _)
    · split
      · exact R.Down0.step ((several_down0 h r).map) (List.suffix_refl _)
      · split
        · cases r with
          | nil => exact ⟨List.suffix_cons _ _, by simp⟩
          | cons p r =>
            simp only
            split
            · exact R.Down0.step (R.Down.zero (R.Down0.step ((several_down0 h r).map) (List.suffix_refl _))) (List.suffix_refl _)
            · exact ⟨List.suffix_cons _ _, by simp⟩
        · exact number_down _
theorem more_down0 {signs : List Tx} {read : List Tx → R Nd} (h : ∀ ts, (read ts).Down ts) : ∀ n x ts, (more signs read n x ts).Down0 ts := by
  intro n
  induction n with
  | zero => intro x ts; exact List.suffix_refl _
  | succ n ih =>
    intro x ts
    cases ts with
    | nil => exact List.suffix_refl _
    | cons s r =>
      unfold more
      split
      · exact R.Down.zero (R.Down0.step ((h r).zero.then_ fun y r' => ih _ _) (List.suffix_refl _))
      · exact List.suffix_refl _
theorem row_down {signs : List Tx} {read : List Tx → R Nd} (h : ∀ ts, (read ts).Down ts) (n : Nat) (ts : List Tx) : (row n signs read ts).Down ts := (h ts).then_ fun x r => more_down0 h n x r
theorem exprOf_down {sg : List Tx → R Nd} (h : ∀ ts, (sg ts).Down ts) (ts : List Tx) : (exprOf sg ts).Down ts := row_down (fun us => row_down (fun vs => row_down h _ vs) _ us) _ ts
theorem signed_down : ∀ n ts, (signed n ts).Down ts := by
  intro n
  induction n with
  | zero => intro ts; exact List.suffix_refl _
  | succ n ih =>
    intro ts
    cases ts with
    | nil => exact List.suffix_refl _
    | cons s r =>
      unfold signed
      split
      · exact R.Down0.step ((ih r).zero.map) (List.suffix_refl _)
      · split
        · exact R.Down0.step ((ih r).zero.map) (List.suffix_refl _)
        · refine (atom_down (exprOf_down ih) _).then_ fun x r' => ?_
          cases r' with
          | nil => exact List.suffix_refl _
          | cons p r' =>
            simp only
            split
            · exact R.Down.zero (R.Down0.step ((number_down r').zero.map) (List.suffix_refl _))
            · exact List.suffix_refl _
theorem expr_down (ts : List Tx) : (expr ts).Down ts := exprOf_down (signed_down _) ts
theorem ends_down (k : Nat) (t : Tx) (ts : List Tx) : (ends k t ts).Down ts := (expr_down ts).then_ fun _ _ => (must_down _ _ _).zero
theorem stmtsTo_down {st : List Tx → R Nd} (h : ∀ ts, (st ts).Down ts) : ∀ n ts, (stmtsTo st n ts).Down0 ts := by
  intro n
  induction n with
  | zero => intro ts; exact List.suffix_refl _
  | succ n ih =>
    intro ts
    cases ts with
    | nil => unfold stmtsTo; exact (h []).zero.map
    | cons s r =>
      unfold stmtsTo
      simp only
      split
      · exact List.suffix_cons _ _
      · exact (h _).zero.then_ fun x r' => (ih r').map
theorem block_down {st : List Tx → R Nd} (h : ∀ ts, (st ts).Down ts) (ts : List Tx) : (block st ts).Down ts := by
  cases ts with
  | nil => exact List.suffix_refl _
  | cons s r =>
    unfold block
    simp only
    split
    · exact R.Down0.step (stmtsTo_down h _ _) (List.suffix_refl _)
    · exact List.suffix_refl _
theorem stmt_down (inner : Bool) : ∀ n ts, (stmt inner n ts).Down ts := by
  intro n
  induction n with
  | zero => intro ts; exact List.suffix_refl _
  | succ n ih =>
    intro ts
    cases ts with
    | nil => exact ends_down _ _ _
    | cons s r =>
      unfold stmt
      simp only
      split
      · refine R.Down0.step ((expr_down r).zero.then_ fun x r1 => (block_down ih r1).zero.then_ fun b r2 => ?_) (List.suffix_refl _)
        cases r2 with
        | nil => exact List.suffix_refl _
        | cons p r3 =>
          simp only
          split
          · exact R.Down.zero (R.Down0.step (block_down ih r3).zero.map (List.suffix_refl _))
          · exact List.suffix_refl _
      · split
        · exact R.Down0.step ((expr_down r).zero.then_ fun x r1 => (block_down ih r1).zero.map) (List.suffix_refl _)
        · split
          · exact R.Down0.step (ends_down _ _ _).zero (List.suffix_refl _)
          · split
            · exact R.Down0.step (ends_down _ _ _).zero (List.suffix_refl _)
            · cases r with
              | nil => exact ends_down _ _ _
              | cons p r' =>
                simp only
                split
                · exact R.Down0.step (R.Down.zero (R.Down0.step (ends_down _ _ _).zero (List.suffix_refl _))) (List.suffix_refl _)
                · exact ends_down _ _ _
theorem func_down (ts : List Tx) : (func ts).Down ts :=
  (nameOf_down ts).then_ fun _ _ => (must_down _ _ _).zero.then_ fun _ _ => (several_down0 nameOf_down _).then_ fun _ _ => (block_down (stmt_down true _) _).zero.map
end Go.Nd

/- Programs as trees, plainly: fuel counts for nothing; equations without fuel. No program in sight. -/
namespace Go.Nd

theorem R.then_congr {α β : Type} {x : R α} {f g : α → List Tx → R β} (h : ∀ a r, x = .ok a r → f a r = g a r) : x.then_ f = x.then_ g := by
  cases x with
  | ok a r => exact h a r rfl
  | bad r => rfl

theorem R.Down.lt {α : Type} {x : R α} {ts : List Tx} (h : x.Down ts) {a : α} {r : List Tx} (e : x = .ok a r) : r.length < ts.length := by subst e; exact h.2
theorem R.Down0.le {α : Type} {x : R α} {ts : List Tx} (h : x.Down0 ts) {a : α} {r : List Tx} (e : x = .ok a r) : r.length ≤ ts.length := by subst e; exact List.IsSuffix.length_le h

theorem commas_fuel {α : Type} {fin : Tx} {read read' : List Tx → R α} (hd : ∀ ts, (read ts).Down ts) : ∀ (n : Nat) (ts : List Tx), (∀ us, us.length ≤ ts.length → read us = read' us) → ∀ m, ts.length < n → ts.length < m → commas fin read n ts = commas fin read' m ts := by
  intro n
  induction n with
  | zero => intro ts _ m h; exact absurd h (Nat.not_lt_zero _)
  | succ n ih =>
    intro ts hr m hn hm
    cases m with
    | zero => exact absurd hm (Nat.not_lt_zero _)
    | succ m =>
      unfold commas
      rw [← hr ts (Nat.le_refl _)]
      refine R.then_congr fun a r he => ?_
      have hl := (hd ts).lt he
      cases r with
      | nil => rfl
      | cons s r =>
        simp only
        rw [List.length_cons] at hl
        rw [ih r (fun us hu => hr us (by omega)) m (by omega) (by omega)]

theorem several_congr {α : Type} {fin : Tx} {read read' : List Tx → R α} (hd : ∀ ts, (read ts).Down ts) (ts : List Tx) (hr : ∀ us, us.length ≤ ts.length → read us = read' us) : several fin read ts = several fin read' ts := by
  cases ts with
  | nil => exact commas_fuel hd 1 [] hr 1 (by simp) (by simp)
  | cons s r => unfold several; simp only; rw [commas_fuel hd (r.length + 2) (s :: r) hr (r.length + 2) (by simp) (by simp)]

theorem more_fuel {signs : List Tx} {read read' : List Tx → R Nd} (hd : ∀ ts, (read ts).Down ts) : ∀ (n : Nat) (x : Nd) (ts : List Tx), (∀ us, us.length < ts.length → read us = read' us) → ∀ m, ts.length ≤ n → ts.length ≤ m → more signs read n x ts = more signs read' m x ts := by
  intro n
  induction n with
  | zero =>
    intro x ts _ m hn hm
    have : ts = [] := List.eq_nil_of_length_eq_zero (by omega)
    subst this
    cases m with
    | zero => rfl
    | succ m => rfl
  | succ n ih =>
    intro x ts hr m hn hm
    cases ts with
    | nil => cases m with | zero => rfl | succ m => rfl
    | cons s r =>
      cases m with
      | zero => simp at hm
      | succ m =>
        unfold more
        rw [← hr r (by simp)]
        rw [List.length_cons] at hn hm
        split
        · refine R.then_congr fun a q he => ?_
          have hl := (hd r).lt he
          exact ih _ _ (fun us hu => hr us (by rw [List.length_cons]; omega)) m (by omega) (by omega)
        · rfl

theorem row_fuel {signs : List Tx} {read read' : List Tx → R Nd} (hd : ∀ ts, (read ts).Down ts) (n m : Nat) (ts : List Tx) (hr : ∀ us, us.length ≤ ts.length → read us = read' us) (hn : ts.length ≤ n) (hm : ts.length ≤ m) : row n signs read ts = row m signs read' ts := by
  unfold row
  rw [← hr ts (Nat.le_refl _)]
  refine R.then_congr fun a q he => ?_
  have hl := (hd ts).lt he
  exact more_fuel hd n a q (fun us hu => hr us (by omega)) m (by omega) (by omega)
/-- .. and where it may be one only. -/
theorem row_congr {signs : List Tx} {read read' : List Tx → R Nd} (hd : ∀ ts, (read ts).Down ts) (n : Nat) (ts : List Tx) (hr : ∀ us, us.length ≤ ts.length → read us = read' us) : row n signs read ts = row n signs read' ts := by
  have key : ∀ (n : Nat) (x : Nd) (us : List Tx), us.length < ts.length → more signs read n x us = more signs read' n x us := by
    intro n
    induction n with
    | zero => intro x us _; rfl
    | succ n ih =>
      intro x us hu
      cases us with
      | nil => rfl
      | cons s r =>
        rw [List.length_cons] at hu
        unfold more
        rw [← hr r (by omega)]
        split
        · refine R.then_congr fun a q he => ?_
          have hl := (hd r).lt he
          exact ih _ _ (by omega)
        · rfl
  unfold row
  rw [← hr ts (Nat.le_refl _)]
  refine R.then_congr fun a q he => ?_
  exact key n a q ((hd ts).lt he)

/-- A product, a sum, of so many parts at most. -/
def prodOf (K : Nat) (sg : List Tx → R Nd) : List Tx → R Nd := row K muls sg
def sumOf (K : Nat) (sg : List Tx → R Nd) : List Tx → R Nd := row K adds (prodOf K sg)
def cmpOf (K : Nat) (sg : List Tx → R Nd) : List Tx → R Nd := row 1 cmps (sumOf K sg)
theorem prodOf_down {sg : List Tx → R Nd} (h : ∀ ts, (sg ts).Down ts) (K : Nat) (ts : List Tx) : (prodOf K sg ts).Down ts := row_down h _ _
theorem sumOf_down {sg : List Tx → R Nd} (h : ∀ ts, (sg ts).Down ts) (K : Nat) (ts : List Tx) : (sumOf K sg ts).Down ts := row_down (prodOf_down h K) _ _
theorem cmpOf_down {sg : List Tx → R Nd} (h : ∀ ts, (sg ts).Down ts) (K : Nat) (ts : List Tx) : (cmpOf K sg ts).Down ts := row_down (sumOf_down h K) _ _
theorem exprOf_is (sg : List Tx → R Nd) (ts : List Tx) : exprOf sg ts = cmpOf (ts.length + 1) sg ts := rfl

theorem cmpOf_fuel {sg sg' : List Tx → R Nd} (hd : ∀ ts, (sg ts).Down ts) (K K' : Nat) (ts : List Tx) (hr : ∀ us, us.length ≤ ts.length → sg us = sg' us) (hK : ts.length ≤ K) (hK' : ts.length ≤ K') : cmpOf K sg ts = cmpOf K' sg' ts :=
  row_congr (sumOf_down hd K) 1 ts fun us hu => row_fuel (prodOf_down hd K) K K' us (fun vs hv => row_fuel hd K K' vs (fun ws hw => hr ws (by omega)) (by omega) (by omega)) (by omega) (by omega)

theorem exprOf_congr {sg sg' : List Tx → R Nd} (hd : ∀ ts, (sg ts).Down ts) (ts : List Tx) (hr : ∀ us, us.length ≤ ts.length → sg us = sg' us) : exprOf sg ts = exprOf sg' ts := cmpOf_fuel hd _ _ ts hr (Nat.le_succ _) (Nat.le_succ _)

theorem atom_congr {ex ex' : List Tx → R Nd} (hd : ∀ ts, (ex ts).Down ts) (ts : List Tx) (hr : ∀ us, us.length < ts.length → ex us = ex' us) : atom ex ts = atom ex' ts := by
  cases ts with
  | nil => rfl
  | cons s r =>
    unfold atom
    simp only [List.length_cons] at hr
    simp only
    rw [← hr r (by omega), several_congr hd r (fun us hu => hr us (by omega))]
    cases r with
    | nil => rfl
    | cons p r => simp only; rw [several_congr (fin := [41]) hd r (fun us hu => hr us (by rw [List.length_cons]; omega))]

theorem signed_fuel : ∀ (n : Nat) (ts : List Tx) (m : Nat), ts.length < n → ts.length < m → signed n ts = signed m ts := by
  intro n
  induction n with
  | zero => intro ts m h; exact absurd h (Nat.not_lt_zero _)
  | succ n ih =>
    intro ts m hn hm
    cases m with
    | zero => exact absurd hm (Nat.not_lt_zero _)
    | succ m =>
      cases ts with
      | nil => rfl
      | cons s r =>
        rw [List.length_cons] at hn hm
        unfold signed
        rw [ih r m (by omega) (by omega)]
        rw [atom_congr (exprOf_down (signed_down n)) (s :: r) (ex' := exprOf (signed m)) (fun us hu => by
          rw [List.length_cons] at hu
          exact exprOf_congr (signed_down n) us fun vs hv => ih vs m (by omega) (by omega))]

/-- What has signs ahead, without fuel. -/
def sg (ts : List Tx) : R Nd := signed (ts.length + 1) ts
theorem sg_down (ts : List Tx) : (sg ts).Down ts := signed_down _ ts
theorem expr_is (K : Nat) (ts : List Tx) (hK : ts.length ≤ K) : expr ts = cmpOf K sg ts := by
  unfold expr
  exact cmpOf_fuel (signed_down _) _ K ts (fun us hu => signed_fuel _ us _ (by omega) (by omega)) (Nat.le_succ _) hK
theorem sg_nil : sg [] = .bad [] := rfl
theorem sg_cons (s : Tx) (r : List Tx) : sg (s :: r) =
    if s = [45] then (sg r).map fun x => ⟨6, [], Ns.of [x], .nil, .nil⟩
    else if s = [110, 111, 116] then (sg r).map fun x => ⟨7, [], Ns.of [x], .nil, .nil⟩
    else (atom expr (s :: r)).then_ fun x r' => match r' with
      | [] => .ok x []
      | p :: r'' => if p = [94] then (number r'').map (bin [94] x) else .ok x (p :: r'') := by
  show signed ((s :: r).length + 1) (s :: r) = _
  rw [List.length_cons]
  conv => lhs; unfold signed
  rw [show signed (r.length + 1) r = sg r from rfl]
  rw [atom_congr (exprOf_down (signed_down _)) (s :: r) (ex' := expr) (fun us hu => by
    rw [List.length_cons] at hu
    exact exprOf_congr (signed_down _) us fun vs hv => signed_fuel _ vs _ (by omega) (by omega))]
  all_goals rfl

/-! ### Statements -/
theorem stmtsTo_fuel {st st' : List Tx → R Nd} (hd : ∀ ts, (st ts).Down ts) : ∀ (n : Nat) (ts : List Tx), (∀ us, us.length ≤ ts.length → st us = st' us) → ∀ m, ts.length < n → ts.length < m → stmtsTo st n ts = stmtsTo st' m ts := by
  intro n
  induction n with
  | zero => intro ts _ m h; exact absurd h (Nat.not_lt_zero _)
  | succ n ih =>
    intro ts hr m hn hm
    cases m with
    | zero => exact absurd hm (Nat.not_lt_zero _)
    | succ m =>
      cases ts with
      | nil => unfold stmtsTo; simp only; rw [hr [] (Nat.le_refl _)]
      | cons s r =>
        unfold stmtsTo
        simp only
        rw [← hr (s :: r) (Nat.le_refl _)]
        split
        · rfl
        · refine R.then_congr fun a q he => ?_
          have hl := (hd (s :: r)).lt he
          rw [ih q (fun us hu => hr us (by omega)) m (by omega) (by omega)]
theorem block_congr {st st' : List Tx → R Nd} (hd : ∀ ts, (st ts).Down ts) (ts : List Tx) (hr : ∀ us, us.length < ts.length → st us = st' us) : block st ts = block st' ts := by
  cases ts with
  | nil => rfl
  | cons s r =>
    unfold block
    simp only
    rw [stmtsTo_fuel hd (r.length + 1) r (fun us hu => hr us (by rw [List.length_cons]; omega)) (r.length + 1) (by omega) (by omega)]

theorem stmt_fuel (inner : Bool) : ∀ (n : Nat) (ts : List Tx) (m : Nat), ts.length < n → ts.length < m → stmt inner n ts = stmt inner m ts := by
  intro n
  induction n with
  | zero => intro ts m h; exact absurd h (Nat.not_lt_zero _)
  | succ n ih =>
    intro ts m hn hm
    cases m with
    | zero => exact absurd hm (Nat.not_lt_zero _)
    | succ m =>
      cases ts with
      | nil => rfl
      | cons s r =>
        rw [List.length_cons] at hn hm
        have hb : ∀ us, us.length ≤ r.length → block (stmt inner n) us = block (stmt inner m) us := fun us hu =>
          block_congr (stmt_down inner n) us fun vs hv => ih vs m (by omega) (by omega)
        unfold stmt
        simp only
        split
        · refine R.then_congr fun x r1 he => ?_
          have h1 := (expr_down r).lt he
          rw [← hb r1 (by omega)]
          refine R.then_congr fun b r2 he2 => ?_
          have h2 := (block_down (stmt_down inner n) r1).lt he2
          cases r2 with
          | nil => rfl
          | cons p r3 => simp only; rw [hb r3 (by rw [List.length_cons] at h2; omega)]
        · split
          · refine R.then_congr fun x r1 he => ?_
            have h1 := (expr_down r).lt he
            rw [← hb r1 (by omega)]
          · rfl

/-- A statement, without fuel. -/
def stm (inner : Bool) (ts : List Tx) : R Nd := stmt inner (ts.length + 1) ts
theorem stm_down (inner : Bool) (ts : List Tx) : (stm inner ts).Down ts := stmt_down inner _ ts
theorem stm_nil (inner : Bool) : stm inner [] = ends 13 [] [] := rfl
def branch (inner : Bool) (ts : List Tx) : R Nd := (expr ts).then_ fun x r1 => (block (stm inner) r1).then_ fun b r2 => match r2 with
  | [] => .ok ⟨9, [], Ns.of [x], Ns.of b, .nil⟩ []
  | p :: r3 => if p = [101, 108, 115, 101] then (block (stm inner) r3).map fun e => ⟨9, [], Ns.of [x], Ns.of b, Ns.of e⟩ else .ok ⟨9, [], Ns.of [x], Ns.of b, .nil⟩ (p :: r3)
def loop (inner : Bool) (ts : List Tx) : R Nd := (expr ts).then_ fun x r1 => (block (stm inner) r1).map fun b => ⟨10, [], Ns.of [x], Ns.of b, .nil⟩
theorem stm_cons (inner : Bool) (s : Tx) (r : List Tx) : stm inner (s :: r) =
    if s = [105, 102] then branch inner r
    else if s = [119, 104, 105, 108, 101] then loop inner r
    else if s = [116, 101, 108, 108] then ends 12 [] r
    else if inner && s == [114, 101, 116, 117, 114, 110] then ends 11 [] r
    else match r with
      | p :: r' => if To.name s && p == [61] then ends 8 s r' else ends 13 [] (s :: r)
      | [] => ends 13 [] (s :: r) := by
  have hb : ∀ us, us.length ≤ r.length → block (stmt inner (r.length + 1)) us = block (stm inner) us := fun us hu =>
    block_congr (stmt_down inner _) us fun vs hv => stmt_fuel inner _ vs _ (by omega) (by omega)
  show stmt inner ((s :: r).length + 1) (s :: r) = _
  rw [List.length_cons]
  conv => lhs; unfold stmt
  simp only
  split
  · unfold branch
    refine R.then_congr fun x r1 he => ?_
    have h1 := (expr_down r).lt he
    rw [← hb r1 (by omega)]
    refine R.then_congr fun b r2 he2 => ?_
    have h2 := (block_down (stmt_down inner (r.length + 1)) r1).lt he2
    cases r2 with
    | nil => rfl
    | cons p r3 => simp only; rw [hb r3 (by rw [List.length_cons] at h2; omega)]
  · split
    · unfold loop
      refine R.then_congr fun x r1 he => ?_
      have h1 := (expr_down r).lt he
      rw [← hb r1 (by omega)]
    · rfl

theorem func_is (ts : List Tx) : func ts = (nameOf ts).then_ fun n r => (must [40] () r).then_ fun _ r1 => (several [41] nameOf r1).then_ fun as r2 => (block (stm true) r2).map fun b => ⟨n, as, Ns.of b⟩ := by
  unfold func
  refine R.then_congr fun n r _ => R.then_congr fun _ r1 _ => R.then_congr fun as r2 _ => ?_
  rw [block_congr (stmt_down true _) r2 (st' := stm true) fun us hu => stmt_fuel true _ us _ (by omega) (by omega)]

/-! ### Loops, from where they are -/
/-- Behind one of several. -/
def sevTail {α : Type} (fin : Tx) (read : List Tx → R α) : List Tx → R (List α)
  | [] => .bad []
  | s :: r => if s = fin then .ok [] r else if s = [44] then commas fin read (r.length + 1) r else .bad (s :: r)
theorem R.map_map {α β γ : Type} (f : α → β) (g : β → γ) (x : R α) : (x.map f).map g = x.map (g ∘ f) := by cases x <;> rfl
theorem R.map_then {α β γ : Type} (f : α → β) (x : R α) (k : β → List Tx → R γ) : (x.map f).then_ k = x.then_ fun a r => k (f a) r := by cases x <;> rfl
theorem R.then_map {α β γ : Type} (x : R α) (k : α → List Tx → R β) (f : β → γ) : (x.then_ k).map f = x.then_ fun a r => (k a r).map f := by cases x <;> rfl
theorem commas_is {α : Type} {fin : Tx} {read : List Tx → R α} (hd : ∀ ts, (read ts).Down ts) (n : Nat) (ts : List Tx) (hn : ts.length < n) : commas fin read n ts = (read ts).then_ fun x r => (sevTail fin read r).map (x :: ·) := by
  cases n with
  | zero => exact absurd hn (Nat.not_lt_zero _)
  | succ n =>
    conv => lhs; unfold commas
    refine R.then_congr fun a r he => ?_
    have hl := (hd ts).lt he
    cases r with
    | nil => rfl
    | cons s r =>
      rw [List.length_cons] at hl
      unfold sevTail
      simp only
      rw [commas_fuel hd n r (fun _ _ => rfl) (r.length + 1) (by omega) (by omega)]
      split
      · rfl
      · split
        · rfl
        · rfl
theorem several_first {α : Type} {fin : Tx} {read : List Tx → R α} (hd : ∀ ts, (read ts).Down ts) (ts : List Tx) (h : ts.head? ≠ some fin) : several fin read ts = (read ts).then_ fun x r => (sevTail fin read r).map (x :: ·) := by
  cases ts with
  | nil => exact commas_is hd 1 [] (by simp)
  | cons s r =>
    unfold several
    simp only
    rw [if_neg (by intro e; subst e; exact h rfl), commas_is hd _ _ (by simp)]
theorem several_none {α : Type} {fin : Tx} {read : List Tx → R α} (r : List Tx) : several fin read (fin :: r) = .ok [] r := by unfold several; simp only; rw [if_pos trivial]
theorem sevTail_comma {α : Type} {fin : Tx} {read : List Tx → R α} (hd : ∀ ts, (read ts).Down ts) (hf : fin ≠ [44]) (r : List Tx) : sevTail fin read ([44] :: r) = (read r).then_ fun x q => (sevTail fin read q).map (x :: ·) := by
  conv => lhs; unfold sevTail
  simp only
  rw [if_neg (fun e => hf e.symm), if_pos trivial, commas_is hd _ _ (Nat.lt_succ_self _)]

/-- Statements up to a block's end, without fuel. -/
def stmtsT (st : List Tx → R Nd) (ts : List Tx) : R (List Nd) := stmtsTo st (ts.length + 1) ts
theorem stmtsT_end (st : List Tx → R Nd) (r : List Tx) : stmtsT st ([125] :: r) = .ok [] r := by unfold stmtsT stmtsTo; simp only; rw [if_pos trivial]
theorem stmtsT_more {st : List Tx → R Nd} (hd : ∀ ts, (st ts).Down ts) (ts : List Tx) (h : ts.head? ≠ some [125]) (he : ts ≠ []) : stmtsT st ts = (st ts).then_ fun x r => (stmtsT st r).map (x :: ·) := by
  cases ts with
  | nil => exact absurd rfl he
  | cons s r =>
    conv => lhs; unfold stmtsT stmtsTo
    simp only
    rw [if_neg (by intro e; subst e; exact h rfl)]
    refine R.then_congr fun a q he => ?_
    have hl := (hd (s :: r)).lt he
    rw [List.length_cons] at hl
    rw [stmtsTo_fuel hd (s :: r).length q (fun _ _ => rfl) (q.length + 1) (by simp; omega) (by omega)]
    rfl

/-- A program's body, without fuel. -/
def bodyT (ts : List Tx) : R (List Nd) := body (ts.length + 1) ts
theorem body_fuel : ∀ (n : Nat) (ts : List Tx) (m : Nat), ts.length < n → ts.length < m → body n ts = body m ts := by
  intro n
  induction n with
  | zero => intro ts m h; exact absurd h (Nat.not_lt_zero _)
  | succ n ih =>
    intro ts m hn hm
    cases m with
    | zero => exact absurd hm (Nat.not_lt_zero _)
    | succ m =>
      cases ts with
      | nil => rfl
      | cons s r =>
        unfold body
        simp only
        refine R.then_congr fun a q he => ?_
        have hl := (stmt_down false _ (s :: r)).lt he
        rw [ih q m (by omega) (by omega)]
theorem bodyT_nil : bodyT [] = .ok [] [] := rfl
theorem bodyT_cons (s : Tx) (r : List Tx) : bodyT (s :: r) = (stm false (s :: r)).then_ fun x q => (bodyT q).map (x :: ·) := by
  conv => lhs; unfold bodyT body
  simp only
  refine R.then_congr fun a q he => ?_
  have hl := (stm_down false (s :: r)).lt he
  rw [body_fuel (s :: r).length q (q.length + 1) (by omega) (by omega)]
  rfl

theorem prog_fuel : ∀ (n : Nat) (fs : List Fn) (ts : List Tx) (m : Nat), ts.length < n → ts.length < m → prog n fs ts = prog m fs ts := by
  intro n
  induction n with
  | zero => intro fs ts m h; exact absurd h (Nat.not_lt_zero _)
  | succ n ih =>
    intro fs ts m hn hm
    cases m with
    | zero => exact absurd hm (Nat.not_lt_zero _)
    | succ m =>
      cases ts with
      | nil => rfl
      | cons s r =>
        rw [List.length_cons] at hn hm
        unfold prog
        simp only
        split
        · refine R.then_congr fun a q he => ?_
          have hl := (func_down r).lt he
          exact ih _ q m (by omega) (by omega)
        · rfl
/-- The functions that stand ahead, and what is behind them. -/
def progT (fs : List Fn) (ts : List Tx) : R Pr := prog (ts.length + 1) fs ts
theorem progT_fn (fs : List Fn) (r : List Tx) : progT fs ([102, 110] :: r) = (func r).then_ fun f q => progT (fs ++ [f]) q := by
  conv => lhs; unfold progT prog
  simp only
  rw [if_pos trivial]
  refine R.then_congr fun a q he => ?_
  have hl := (func_down r).lt he
  exact prog_fuel _ _ q _ (by rw [List.length_cons]; omega) (by omega)
theorem progT_body (fs : List Fn) (ts : List Tx) (h : ts.head? ≠ some [102, 110]) : progT fs ts = (bodyT ts).map fun b => ⟨fs, Ns.of b⟩ := by
  cases ts with
  | nil => rfl
  | cons s r =>
    conv => lhs; unfold progT prog
    simp only
    rw [if_neg (by intro e; subst e; exact h rfl)]
    rfl
end Go.Nd

/- Programs as trees, plainly: where tokens stand; the parser without fuel. No program in sight. -/
namespace Go.To

theorem scan'_in : ∀ (n : Nat) (l : List UInt8) (p : Nat), l.length ≤ n → (∀ t ∈ (scan' p l).1, t.text.length ≤ l.length ∧ t.pos ≤ p + l.length) ∧ (scan' p l).1.length ≤ l.length ∧ ∀ q, (scan' p l).2 = some q → q ≤ p + l.length := by
  intro n
  induction n with
  | zero =>
    intro l p h
    have : l = [] := List.eq_nil_of_length_eq_zero (by omega)
    subst this
    rw [scan'_nil]
    exact ⟨(fun t ht => by cases ht), Nat.zero_le _, (fun q hq => by cases hq)⟩
  | succ n ih =>
    intro l p h
    by_cases hl : l = []
    · subst hl
      rw [scan'_nil]
      exact ⟨(fun t ht => by cases ht), Nat.zero_le _, (fun q hq => by cases hq)⟩
    · by_cases h0 : (tok l).1 = 0
      · rw [scan'_bad p l hl h0]
        exact ⟨(fun t ht => by cases ht), Nat.zero_le _, (fun q hq => by cases hq; omega)⟩
      · have hp := tok_pos l h0
        have hle := tok_le l
        have hs := sil_le (l.drop (tok l).2) false
        have hd : (l.drop (tok l).2).length = l.length - (tok l).2 := List.length_drop
        have hd2 : ((l.drop (tok l).2).drop (sil false (l.drop (tok l).2))).length = l.length - (tok l).2 - sil false (l.drop (tok l).2) := by rw [List.length_drop, hd]
        rw [scan'_tok p l hl h0]
        obtain ⟨h1, h2, h3⟩ := ih ((l.drop (tok l).2).drop (sil false (l.drop (tok l).2))) (p + (tok l).2 + sil false (l.drop (tok l).2)) (by omega)
        refine ⟨fun t ht => ?_, by rw [List.length_cons]; omega, fun q hq => by have := h3 q hq; omega⟩
        rcases List.mem_cons.1 ht with rfl | ht
        · exact ⟨by simp only [List.length_take]; omega, by simp only; omega⟩
        · have := h1 t ht
          exact ⟨by omega, by omega⟩
theorem all_in (s : List UInt8) : (∀ t ∈ (all s).1, t.text.length ≤ s.length ∧ t.pos ≤ s.length) ∧ (all s).1.length ≤ s.length ∧ ∀ q, (all s).2 = some q → q ≤ s.length := by
  have hs := sil_le s false
  have hd : (s.drop (sil false s)).length = s.length - sil false s := List.length_drop
  rw [all_scan']
  obtain ⟨h1, h2, h3⟩ := scan'_in _ (s.drop (sil false s)) (sil false s) (Nat.le_refl _)
  exact ⟨fun t ht => by have := h1 t ht; omega, by omega, fun q hq => by have := h3 q hq; omega⟩
theorem read_in (s : List UInt8) : (∀ t ∈ (read s).1, t.text.length ≤ s.length ∧ t.pos ≤ s.length) ∧ (read s).1.length ≤ s.length ∧ (read s).2.1 ≤ s.length ∧ ((read s).2.2 = 0 → s.length ≤ 65536) ∧ ((read s).2.2 = 0 ∨ (read s).2.2 = 3 ∧ (read s).2.1 = 0 ∨ (read s).2.2 = 4) ∧ ((read s).2.2 ≠ 0 → (read s).1 = []) ∧ ((read s).2.2 = 0 → (read s).2.1 = 0) := by
  unfold read
  by_cases h : 65536 < s.length
  · rw [if_pos h]
    exact ⟨(fun t ht => by cases ht), Nat.zero_le _, Nat.zero_le _, (fun e => by cases e), .inr (.inl ⟨rfl, rfl⟩), fun _ => rfl, (fun e => by cases e)⟩
  · rw [if_neg h]
    obtain ⟨h1, h2, h3⟩ := all_in s
    cases ha : (all s).2 with
    | some p => exact ⟨(fun t ht => by cases ht), Nat.zero_le _, h3 p ha, (fun e => by cases e), .inr (.inr rfl), fun _ => rfl, (fun e => by cases e)⟩
    | none => exact ⟨h1, h2, Nat.zero_le _, (fun _ => by omega), .inl rfl, fun e => absurd rfl e, fun _ => rfl⟩
end Go.To
namespace Go.Nd

theorem prog_is (l : List Tx) : prog (l.length + 2) [] l = progT [] l := prog_fuel _ [] l _ (by omega) (by omega)
/-- The place of what may not be. -/
def placeOf (s : List UInt8) (l : List To.T) (r : List Tx) : Nat := match l[l.length - r.length]? with | some t => t.pos | none => s.length
theorem parse_bad0 (wrap : Int → Int) (s : List UInt8) (h : (To.read s).2.2 ≠ 0) : parse wrap s = (⟨[], .nil⟩, (To.read s).2.1, (To.read s).2.2) := by
  unfold parse; simp only; rw [if_pos h]
theorem parse_bad (wrap : Int → Int) (s : List UInt8) {r : List Tx} (h : (To.read s).2.2 = 0) (hp : progT [] ((To.read s).1.map (·.text)) = .bad r) : parse wrap s = (⟨[], .nil⟩, placeOf s (To.read s).1 r, 4) := by
  unfold parse; simp only
  rw [if_neg (by rw [h]; exact fun e => e rfl), show (To.read s).1.length = ((To.read s).1.map (·.text)).length by simp, prog_is, hp]
  simp only [placeOf, List.length_map]
  all_goals (cases (To.read s).1[(To.read s).1.length - r.length]? <;> rfl)
theorem parse_ok (wrap : Int → Int) (s : List UInt8) {r : List Tx} {p : Pr} (h : (To.read s).2.2 = 0) (hp : progT [] ((To.read s).1.map (·.text)) = .ok p r) : parse wrap s = if great wrap p.body || p.funcs.any (fun f => great wrap f.body) then (⟨[], .nil⟩, 0, 3) else (p, 0, 0) := by
  unfold parse; simp only
  rw [if_neg (by rw [h]; exact fun e => e rfl), show (To.read s).1.length = ((To.read s).1.map (·.text)).length by simp, prog_is, hp]
end Go.Nd

/- Programs as trees, plainly: what some tokens are read as, whatever closes them. No program in sight. -/
namespace Go.Nd

/-- No sign that goes on with an expression. -/
def goes : List Tx := [[42], [47], [43], [45], [61, 61], [33, 61], [60], [60, 61], [94], [40]]
def Closes (r : List Tx) : Prop := ∀ s q, r = s :: q → goes.contains s = false
theorem Closes.nil : Closes [] := fun s q h => by cases h
theorem Closes.cons {s : Tx} {q : List Tx} (h : goes.contains s = false) : Closes (s :: q) := fun s' q' e => by cases e; exact h

theorem more_closes {sgn : List Tx} {read : List Tx → R Nd} (hs : ∀ s, sgn.contains s = true → goes.contains s = true) (n : Nat) (x : Nd) {r : List Tx} (hr : Closes r) : more sgn read n x r = .ok x r := by
  cases n with
  | zero => rfl
  | succ n =>
    cases r with
    | nil => rfl
    | cons s q =>
      unfold more
      rw [if_neg]
      intro h
      have := hs s h
      rw [hr s q rfl] at this
      cases this
theorem muls_go (s : Tx) (h : muls.contains s = true) : goes.contains s = true := by
  simp only [muls, goes, List.contains_iff_mem, List.mem_cons, List.not_mem_nil, or_false] at *; rcases h with rfl | rfl <;> simp
theorem adds_go (s : Tx) (h : adds.contains s = true) : goes.contains s = true := by
  simp only [adds, goes, List.contains_iff_mem, List.mem_cons, List.not_mem_nil, or_false] at *; rcases h with rfl | rfl <;> simp
theorem cmps_go (s : Tx) (h : cmps.contains s = true) : goes.contains s = true := by
  simp only [cmps, goes, List.contains_iff_mem, List.mem_cons, List.not_mem_nil, or_false] at *; rcases h with rfl | rfl | rfl | rfl <;> simp

theorem prodOf_ok {K : Nat} {ts r : List Tx} {x : Nd} (h : sg ts = .ok x r) (hr : Closes r) : prodOf K sg ts = .ok x r := by
  unfold prodOf row; rw [h]; exact more_closes muls_go K x hr
theorem sumOf_ok {K : Nat} {ts r : List Tx} {x : Nd} (h : prodOf K sg ts = .ok x r) (hr : Closes r) : sumOf K sg ts = .ok x r := by
  unfold sumOf row; rw [h]; exact more_closes adds_go K x hr
theorem cmpOf_ok {K : Nat} {ts r : List Tx} {x : Nd} (h : sumOf K sg ts = .ok x r) (hr : Closes r) : cmpOf K sg ts = .ok x r := by
  unfold cmpOf row; rw [h]; exact more_closes cmps_go 1 x hr
theorem expr_sg {ts r : List Tx} {x : Nd} (h : sg ts = .ok x r) (hr : Closes r) : expr ts = .ok x r := by
  rw [expr_is ts.length ts (Nat.le_refl _)]
  exact cmpOf_ok (sumOf_ok (prodOf_ok h hr) hr) hr

theorem sg_atom {s : Tx} {q r : List Tx} {x : Nd} (h1 : s ≠ [45]) (h2 : s ≠ [110, 111, 116]) (h : atom expr (s :: q) = .ok x r) (hr : Closes r) : sg (s :: q) = .ok x r := by
  rw [sg_cons, if_neg h1, if_neg h2, h]
  show (match r with | [] => R.ok x [] | p :: r'' => if p = [94] then (number r'').map (bin [94] x) else .ok x (p :: r'')) = _
  cases r with
  | nil => rfl
  | cons p q =>
    simp only
    rw [if_neg]
    intro e
    subst e
    have := hr _ _ rfl
    revert this; decide
theorem sg_neg {q r : List Tx} {x : Nd} (h : sg q = .ok x r) : sg ([45] :: q) = .ok ⟨6, [], Ns.of [x], .nil, .nil⟩ r := by
  rw [sg_cons, if_pos rfl, h]; rfl
theorem sg_not {q r : List Tx} {x : Nd} (h : sg q = .ok x r) : sg ([110, 111, 116] :: q) = .ok ⟨7, [], Ns.of [x], .nil, .nil⟩ r := by
  rw [sg_cons, if_neg (by decide), if_pos rfl, h]; rfl

theorem atom_par {q r : List Tx} {x : Nd} (h : expr q = .ok x ([41] :: r)) : atom expr ([40] :: q) = .ok x r := by
  unfold atom; simp only [if_true]; rw [h]; show must [41] x ([41] :: r) = _; unfold must; simp
theorem atom_list {q r : List Tx} {l : List Nd} (h : several [93] expr q = .ok l r) : atom expr ([91] :: q) = .ok ⟨3, [], Ns.of l, .nil, .nil⟩ r := by
  unfold atom; simp only; rw [if_neg (by decide), if_pos trivial, h]; rfl
theorem name_no {s : Tx} (h : To.name s = true) : s ≠ [40] ∧ s ≠ [91] ∧ s ≠ [45] ∧ s ≠ [110, 111, 116] := by
  refine ⟨?_, ?_, ?_, ?_⟩ <;> (rintro rfl; revert h; decide)
theorem atom_call {s : Tx} {q r : List Tx} {l : List Nd} (hs : To.name s = true) (h : several [41] expr q = .ok l r) : atom expr (s :: [40] :: q) = .ok ⟨4, s, Ns.of l, .nil, .nil⟩ r := by
  have h1 := name_no hs
  unfold atom; simp only; rw [if_neg h1.1, if_neg h1.2.1, if_pos hs, if_pos trivial, h]; rfl
theorem atom_name {s : Tx} {r : List Tx} (hs : To.name s = true) (hr : Closes r) : atom expr (s :: r) = .ok (leaf 2 s) r := by
  have h1 := name_no hs
  unfold atom; simp only; rw [if_neg h1.1, if_neg h1.2.1, if_pos hs]
  cases r with
  | nil => rfl
  | cons p q =>
    simp only
    rw [if_neg]
    rintro rfl
    have := hr _ _ rfl
    revert this; decide
theorem atom_num {s : Tx} {r : List Tx} (hs : plain s = true) (hn : To.name s = false) : atom expr (s :: r) = .ok (leaf 1 s) r := by
  have h1 : s ≠ [40] := by rintro rfl; revert hs; decide
  have h2 : s ≠ [91] := by rintro rfl; revert hs; decide
  unfold atom; simp only; rw [if_neg h1, if_neg h2, if_neg (by rw [hn]; decide)]
  unfold number; simp only; rw [if_pos hs]

theorem sg_name {s : Tx} {r : List Tx} (hs : To.name s = true) (hr : Closes r) : sg (s :: r) = .ok (leaf 2 s) r := by
  have h1 := name_no hs
  exact sg_atom h1.2.2.1 h1.2.2.2 (atom_name hs hr) hr
theorem sg_num {s : Tx} {r : List Tx} (hs : plain s = true) (hn : To.name s = false) (hr : Closes r) : sg (s :: r) = .ok (leaf 1 s) r :=
  sg_atom (by rintro rfl; revert hs; decide) (by rintro rfl; revert hs; decide) (atom_num hs hn) hr
theorem sg_par {q r : List Tx} {x : Nd} (h : expr q = .ok x ([41] :: r)) (hr : Closes r) : sg ([40] :: q) = .ok x r := sg_atom (by decide) (by decide) (atom_par h) hr

theorem several_one {α : Type} {fin : Tx} {read : List Tx → R α} (hd : ∀ ts, (read ts).Down ts) {ts r : List Tx} {x : α} (hh : ts.head? ≠ some fin) (h : read ts = .ok x (fin :: r)) : several fin read ts = .ok [x] r := by
  rw [several_first hd ts hh, h]
  show (sevTail fin read (fin :: r)).map (x :: ·) = _
  unfold sevTail; simp only; rw [if_pos trivial]; rfl
theorem sevTail_end {α : Type} {fin : Tx} {read : List Tx → R α} (r : List Tx) : sevTail fin read (fin :: r) = .ok [] r := by unfold sevTail; simp only; rw [if_pos trivial]

theorem ends_ok {k : Nat} {t : Tx} {q r : List Tx} {x : Nd} (h : expr q = .ok x ([59] :: r)) : ends k t q = .ok ⟨k, t, Ns.of [x], .nil, .nil⟩ r := by
  unfold ends; rw [h]; show must [59] _ ([59] :: r) = _; unfold must; simp
theorem block_ok {st : List Tx → R Nd} {q r : List Tx} {l : List Nd} (h : stmtsT st q = .ok l r) : block st ([123] :: q) = .ok l r := by
  unfold block; simp only; rw [if_pos trivial]; exact h
theorem stm_do {inner : Bool} {s : Tx} {q r : List Tx} {x : Nd} (h1 : s ≠ [105, 102]) (h2 : s ≠ [119, 104, 105, 108, 101]) (h3 : s ≠ [116, 101, 108, 108]) (h4 : s ≠ [114, 101, 116, 117, 114, 110]) (h5 : ∀ q', q = [61] :: q' → To.name s = false)
    (h : expr (s :: q) = .ok x ([59] :: r)) : stm inner (s :: q) = .ok ⟨13, [], Ns.of [x], .nil, .nil⟩ r := by
  rw [stm_cons, if_neg h1, if_neg h2, if_neg h3, if_neg (by simp [h4])]
  cases q with
  | nil => exact ends_ok h
  | cons p q' =>
    simp only
    rw [if_neg]
    · exact ends_ok h
    · simp only [Bool.and_eq_true, beq_iff_eq, not_and]
      intro hn hp
      subst hp
      rw [h5 q' rfl] at hn
      cases hn
theorem stm_while {inner : Bool} {q r1 r : List Tx} {x : Nd} {b : List Nd} (h : expr q = .ok x r1) (hb : block (stm inner) r1 = .ok b r) : stm inner ([119, 104, 105, 108, 101] :: q) = .ok ⟨10, [], Ns.of [x], Ns.of b, .nil⟩ r := by
  rw [stm_cons, if_neg (by decide), if_pos rfl]
  unfold loop; rw [h]; show (block (stm inner) r1).map _ = _; rw [hb]; rfl
theorem stm_return {q r : List Tx} {x : Nd} (h : expr q = .ok x ([59] :: r)) : stm true ([114, 101, 116, 117, 114, 110] :: q) = .ok ⟨11, [], Ns.of [x], .nil, .nil⟩ r := by
  rw [stm_cons, if_neg (by decide), if_neg (by decide), if_neg (by decide), if_pos (by decide)]
  exact ends_ok h
theorem stmts_one {st : List Tx → R Nd} (hd : ∀ ts, (st ts).Down ts) {ts q r : List Tx} {x : Nd} {l : List Nd} (hh : ts.head? ≠ some [125]) (hn : ts ≠ []) (h : st ts = .ok x q) (hl : stmtsT st q = .ok l r) : stmtsT st ts = .ok (x :: l) r := by
  rw [stmtsT_more hd ts hh hn, h]; show (stmtsT st q).map _ = _; rw [hl]; rfl
/-- A body that is one statement. -/
theorem prog_one {ts : List Tx} {x : Nd} (hh : ts.head? ≠ some [102, 110]) (h : stm false ts = .ok x []) : progT [] ts = .ok ⟨[], Ns.of [x]⟩ [] := by
  rw [progT_body [] ts hh]
  cases ts with
  | nil =>
    rw [show stm false [] = .bad [] from rfl] at h
    cases h
  | cons s q =>
    rw [bodyT_cons, h]; rfl
end Go.Nd

/- Programs as trees, plainly: what is parsed may be. No program in sight. -/
namespace Go.Nd

/-- May it be an expression? -/
def okx (x : Nd) : Bool := x.body.len == 0 && x.els.len == 0 && exprs x.l && head x.kind x.text x.l
theorem exprs_of (l : List Nd) : exprs (Ns.of l) = l.all okx := by
  induction l with
  | nil => rfl
  | cons x l ih => show (_ && exprs (Ns.of l)) = _; rw [ih, List.all_cons]; rfl
theorem len_of (l : List Nd) : (Ns.of l).len = l.length := by unfold Ns.len; rw [Ns.items_of]
theorem len_nil : Ns.nil.len = 0 := rfl

/-- What is read is such. -/
def Gives {α : Type} (q : α → Prop) (read : List Tx → R α) : Prop := ∀ ts x r, read ts = .ok x r → q x
theorem R.map_ok {α β : Type} {f : α → β} {x : R α} {b : β} {r : List Tx} (h : x.map f = .ok b r) : ∃ a, x = .ok a r ∧ f a = b := by
  cases x with
  | ok a q => simp only [R.map, R.ok.injEq] at h; exact ⟨a, by rw [h.2], h.1⟩
  | bad q => cases h
theorem R.then_ok {α β : Type} {x : R α} {f : α → List Tx → R β} {b : β} {r : List Tx} (h : x.then_ f = .ok b r) : ∃ a q, x = .ok a q ∧ f a q = .ok b r := by
  cases x with
  | ok a q => exact ⟨a, q, rfl, h⟩
  | bad q => cases h
theorem must_ok {α : Type} {t : Tx} {x y : α} {ts r : List Tx} (h : must t x ts = .ok y r) : y = x := by
  cases ts with
  | nil => cases h
  | cons s q => unfold must at h; simp only at h; split at h; (cases h; rfl); cases h

theorem okx_leaf1 (s : Tx) (h : plain s = true) : okx (leaf 1 s) = true := by unfold okx head leaf; simp [len_nil, exprs, h]
theorem number_gives : Gives (fun x => okx x = true ∧ x.kind = 1) number := by
  intro ts x r h
  cases ts with
  | nil => cases h
  | cons s q =>
    unfold number at h
    simp only at h
    split at h
    · rename_i hp; cases h; exact ⟨okx_leaf1 s hp, rfl⟩
    · cases h
theorem okx_bin {s : Tx} {a b : Nd} (ha : okx a = true) (hb : okx b = true) (hs : (s = [94] ∧ b.kind = 1) ∨ (s ≠ [94] ∧ signs.contains s = true)) : okx (bin s a b) = true := by
  unfold okx bin
  simp only [len_nil, exprs_of, List.all_cons, List.all_nil, ha, hb, Bool.and_true, beq_self_eq_true, Bool.true_and]
  unfold head
  simp only [Nat.reduceEqDiff, if_false, if_true, or_self]
  rcases hs with ⟨rfl, hk⟩ | ⟨h1, h2⟩
  · rw [if_pos rfl]; unfold raised; rw [Ns.items_of]; simpa using hk
  · rw [if_neg h1, len_of, h2]; rfl

theorem commas_gives {α : Type} {q : α → Prop} {fin : Tx} {read : List Tx → R α} (h : Gives q read) : ∀ n, Gives (fun l => ∀ x ∈ l, q x) (commas fin read n) := by
  intro n
  induction n with
  | zero => intro ts x r hr; cases hr
  | succ n ih =>
    intro ts l r hr
    unfold commas at hr
    obtain ⟨x, u, h1, h2⟩ := R.then_ok hr
    have hx := h _ _ _ h1
    cases u with
    | nil => cases h2
    | cons s u =>
      simp only at h2
      split at h2
      · cases h2; intro y hy; simp at hy; subst hy; exact hx
      · split at h2
        · obtain ⟨l', h3, rfl⟩ := R.map_ok h2
          intro y hy
          rcases List.mem_cons.1 hy with rfl | hy
          · exact hx
          · exact ih _ _ _ h3 y hy
        · cases h2
theorem several_gives {α : Type} {q : α → Prop} {fin : Tx} {read : List Tx → R α} (h : Gives q read) : Gives (fun l => ∀ x ∈ l, q x) (several fin read) := by
  intro ts l r hr
  cases ts with
  | nil => exact commas_gives h 1 _ _ _ hr
  | cons s u =>
    unfold several at hr
    simp only at hr
    split at hr
    · cases hr; intro x hx; cases hx
    · exact commas_gives h _ _ _ _ hr
theorem all_ok {l : List Nd} (h : ∀ x ∈ l, okx x = true) : exprs (Ns.of l) = true := by rw [exprs_of]; exact List.all_eq_true.2 h
theorem atom_gives {ex : List Tx → R Nd} (h : Gives (fun x => okx x = true) ex) : Gives (fun x => okx x = true) (atom ex) := by
  intro ts x r hr
  cases ts with
  | nil => cases hr
  | cons s u =>
    unfold atom at hr
    simp only at hr
    split at hr
    · obtain ⟨a, q, h1, h2⟩ := R.then_ok hr
      rw [must_ok h2]; exact h _ _ _ h1
    · split at hr
      · obtain ⟨l, h1, rfl⟩ := R.map_ok hr
        unfold okx head
        simp [len_nil, all_ok (several_gives h _ _ _ h1)]
      · split at hr
        · rename_i hn
          cases u with
          | nil => cases hr; unfold okx head leaf; simp [len_nil, exprs, hn]
          | cons p u =>
            simp only at hr
            split at hr
            · obtain ⟨l, h1, rfl⟩ := R.map_ok hr
              unfold okx head
              simp [len_nil, all_ok (several_gives h _ _ _ h1), hn]
            · cases hr; unfold okx head leaf; simp [len_nil, exprs, hn]
        · exact (number_gives _ _ _ hr).1
theorem more_gives {sg : List Tx} {read : List Tx → R Nd} (h : Gives (fun x => okx x = true) read) (hs : ∀ s ∈ sg, s ≠ [94] ∧ signs.contains s = true) : ∀ n x ts y r, okx x = true → more sg read n x ts = .ok y r → okx y = true := by
  intro n
  induction n with
  | zero => intro x ts y r hx hr; cases hr; exact hx
  | succ n ih =>
    intro x ts y r hx hr
    cases ts with
    | nil => cases hr; exact hx
    | cons s u =>
      unfold more at hr
      split at hr
      · rename_i hc
        obtain ⟨z, q, h1, h2⟩ := R.then_ok hr
        exact ih _ _ _ _ (okx_bin hx (h _ _ _ h1) (.inr (hs s (by simpa using hc)))) h2
      · cases hr; exact hx
theorem row_gives {sg : List Tx} {read : List Tx → R Nd} (h : Gives (fun x => okx x = true) read) (hs : ∀ s ∈ sg, s ≠ [94] ∧ signs.contains s = true) (n : Nat) : Gives (fun x => okx x = true) (row n sg read) := by
  intro ts x r hr
  obtain ⟨a, q, h1, h2⟩ := R.then_ok hr
  exact more_gives h hs n a q x r (h _ _ _ h1) h2
theorem exprOf_gives {sg : List Tx → R Nd} (h : Gives (fun x => okx x = true) sg) : Gives (fun x => okx x = true) (exprOf sg) := by
  intro ts x r hr
  exact row_gives (row_gives (row_gives h (by decide) _) (by decide) _) (by decide) 1 _ _ _ hr
theorem okx_one (k : Nat) (hk : k = 6 ∨ k = 7) {x : Nd} (h : okx x = true) : okx ⟨k, [], Ns.of [x], .nil, .nil⟩ = true := by
  unfold okx head
  rcases hk with rfl | rfl <;> simp [len_nil, exprs_of, h, len_of]
theorem signed_gives : ∀ n, Gives (fun x => okx x = true) (signed n) := by
  intro n
  induction n with
  | zero => intro ts x r h; cases h
  | succ n ih =>
    intro ts x r h
    cases ts with
    | nil => cases h
    | cons s u =>
      unfold signed at h
      split at h
      · obtain ⟨a, h1, rfl⟩ := R.map_ok h
        exact okx_one 6 (.inl rfl) (ih _ _ _ h1)
      · split at h
        · obtain ⟨a, h1, rfl⟩ := R.map_ok h
          exact okx_one 7 (.inr rfl) (ih _ _ _ h1)
        · obtain ⟨a, q, h1, h2⟩ := R.then_ok h
          have ha := atom_gives (exprOf_gives ih) _ _ _ h1
          cases q with
          | nil => cases h2; exact ha
          | cons p q =>
            simp only at h2
            split at h2
            · obtain ⟨b, h3, rfl⟩ := R.map_ok h2
              have hb := number_gives _ _ _ h3
              exact okx_bin ha hb.1 (.inl ⟨rfl, hb.2⟩)
            · cases h2; exact ha
theorem expr_gives : Gives (fun x => okx x = true) expr := fun ts x r h => exprOf_gives (signed_gives _) ts x r h

/-- May it be a statement? -/
def oks (inner : Bool) (x : Nd) : Bool := x.l.len == 1 && exprs x.l && stmts inner x.body && stmts inner x.els && form inner x.kind x.text x.body x.els
theorem stmts_of (inner : Bool) (l : List Nd) : stmts inner (Ns.of l) = l.all (oks inner) := by
  induction l with
  | nil => rfl
  | cons x l ih => show (_ && stmts inner (Ns.of l)) = _; rw [ih, List.all_cons]; rfl
theorem all_oks {inner : Bool} {l : List Nd} (h : ∀ x ∈ l, oks inner x = true) : stmts inner (Ns.of l) = true := by rw [stmts_of]; exact List.all_eq_true.2 h
theorem ends_gives {inner : Bool} {k : Nat} {t : Tx} (hf : form inner k t .nil .nil = true) : Gives (fun x => oks inner x = true) (ends k t) := by
  intro ts x r h
  obtain ⟨a, q, h1, h2⟩ := R.then_ok h
  rw [must_ok h2]
  unfold oks
  simp [len_of, exprs_of, expr_gives _ _ _ h1, stmts, hf]
theorem stmtsTo_gives {inner : Bool} {st : List Tx → R Nd} (h : Gives (fun x => oks inner x = true) st) : ∀ n, Gives (fun l => ∀ x ∈ l, oks inner x = true) (stmtsTo st n) := by
  intro n
  induction n with
  | zero => intro ts l r hr; cases hr
  | succ n ih =>
    intro ts l r hr
    cases ts with
    | nil =>
      unfold stmtsTo at hr
      obtain ⟨a, h1, rfl⟩ := R.map_ok hr
      intro x hx; simp at hx; subst hx; exact h _ _ _ h1
    | cons s u =>
      unfold stmtsTo at hr
      simp only at hr
      split at hr
      · cases hr; intro x hx; cases hx
      · obtain ⟨a, q, h1, h2⟩ := R.then_ok hr
        obtain ⟨l', h3, rfl⟩ := R.map_ok h2
        intro x hx
        rcases List.mem_cons.1 hx with rfl | hx
        · exact h _ _ _ h1
        · exact ih _ _ _ h3 x hx
theorem block_gives {inner : Bool} {st : List Tx → R Nd} (h : Gives (fun x => oks inner x = true) st) : Gives (fun l => ∀ x ∈ l, oks inner x = true) (block st) := by
  intro ts l r hr
  cases ts with
  | nil => cases hr
  | cons s u =>
    unfold block at hr
    simp only at hr
    split at hr
    · exact stmtsTo_gives h _ _ _ _ hr
    · cases hr
theorem stmt_gives (inner : Bool) : ∀ n, Gives (fun x => oks inner x = true) (stmt inner n) := by
  intro n
  induction n with
  | zero => intro ts x r h; cases h
  | succ n ih =>
    intro ts x r h
    have hdo : form inner 13 [] .nil .nil = true := by unfold form; simp [len_nil]
    cases ts with
    | nil => exact ends_gives hdo _ _ _ h
    | cons s u =>
      unfold stmt at h
      simp only at h
      split at h
      · obtain ⟨a, q1, h1, h2⟩ := R.then_ok h
        obtain ⟨b, q2, h3, h4⟩ := R.then_ok h2
        have ha := expr_gives _ _ _ h1
        have hb := all_oks (block_gives ih _ _ _ h3)
        cases q2 with
        | nil => cases h4; unfold oks form; simp [len_of, exprs_of, ha, hb, stmts]
        | cons p q3 =>
          simp only at h4
          split at h4
          · obtain ⟨e, h5, rfl⟩ := R.map_ok h4
            have he := all_oks (block_gives ih _ _ _ h5)
            unfold oks form; simp [len_of, exprs_of, ha, hb, he]
          · cases h4; unfold oks form; simp [len_of, exprs_of, ha, hb, stmts]
      · split at h
        · obtain ⟨a, q1, h1, h2⟩ := R.then_ok h
          obtain ⟨b, h3, rfl⟩ := R.map_ok h2
          have ha := expr_gives _ _ _ h1
          have hb := all_oks (block_gives ih _ _ _ h3)
          unfold oks form; simp [len_of, exprs_of, ha, hb, stmts, len_nil]
        · split at h
          · exact ends_gives (by unfold form; simp [len_nil]) _ _ _ h
          · split at h
            · rename_i hi
              simp only [Bool.and_eq_true] at hi
              exact ends_gives (by unfold form; simp [len_nil, hi.1]) _ _ _ h
            · cases u with
              | nil => exact ends_gives hdo _ _ _ h
              | cons p u =>
                simp only at h
                split at h
                · rename_i hn
                  simp only [Bool.and_eq_true] at hn
                  exact ends_gives (by unfold form; simp [len_nil, hn.1]) _ _ _ h
                · exact ends_gives hdo _ _ _ h
def okf (f : Fn) : Bool := To.name f.name && f.args.all To.name && stmts true f.body
theorem nameOf_gives : Gives (fun s => To.name s = true) nameOf := by
  intro ts x r h
  cases ts with
  | nil => cases h
  | cons s u => unfold nameOf at h; simp only at h; split at h; (rename_i hn; cases h; exact hn); cases h
theorem func_gives : Gives (fun f => okf f = true) func := by
  intro ts f r h
  unfold func at h
  obtain ⟨n, q, h1, h2⟩ := R.then_ok h
  obtain ⟨_, q1, h3, h4⟩ := R.then_ok h2
  obtain ⟨l, q2, h5, h6⟩ := R.then_ok h4
  obtain ⟨b, h7, rfl⟩ := R.map_ok h6
  unfold okf
  have hn := nameOf_gives _ _ _ h1
  have hl : l.all To.name = true := List.all_eq_true.2 (several_gives nameOf_gives _ _ _ h5)
  have hb := all_oks (block_gives (stmt_gives true _) _ _ _ h7)
  simp [hn, hl, hb]
theorem body_gives : ∀ n, Gives (fun l => ∀ x ∈ l, oks false x = true) (body n) := by
  intro n
  induction n with
  | zero => intro ts l r h; cases h
  | succ n ih =>
    intro ts l r h
    cases ts with
    | nil => cases h; intro x hx; cases hx
    | cons s u =>
      unfold body at h
      simp only at h
      obtain ⟨a, q, h1, h2⟩ := R.then_ok h
      obtain ⟨l', h3, rfl⟩ := R.map_ok h2
      intro x hx
      rcases List.mem_cons.1 hx with rfl | hx
      · exact stmt_gives false _ _ _ _ h1
      · exact ih _ _ _ h3 x hx
theorem prog_gives : ∀ n fs ts p r, (∀ f ∈ fs, okf f = true) → prog n fs ts = .ok p r → (∀ f ∈ p.funcs, okf f = true) ∧ stmts false p.body = true := by
  intro n
  induction n with
  | zero => intro fs ts p r hf h; cases h
  | succ n ih =>
    intro fs ts p r hf h
    cases ts with
    | nil => cases h; exact ⟨hf, rfl⟩
    | cons s u =>
      unfold prog at h
      simp only at h
      split at h
      · obtain ⟨f, q, h1, h2⟩ := R.then_ok h
        refine ih _ _ _ _ (fun g hg => ?_) h2
        rcases List.mem_append.1 hg with hg | hg
        · exact hf g hg
        · simp at hg; subst hg; exact func_gives _ _ _ h1
      · obtain ⟨b, h1, rfl⟩ := R.map_ok h
        exact ⟨hf, all_oks (body_gives _ _ _ _ h1)⟩
/-- WHAT IS PARSED MAY BE. -/
theorem parse_may (wrap : Int → Int) (s : List UInt8) (h : (parse wrap s).2.2 = 0) : check wrap (parse wrap s).1 = true ∧ (parse wrap s).2.1 = 0 := by
  by_cases he : (To.read s).2.2 = 0
  · cases hp : progT [] ((To.read s).1.map (·.text)) with
    | bad r => rw [parse_bad wrap s he hp] at h; cases h
    | ok p r =>
      rw [parse_ok wrap s he hp] at h ⊢
      split at h
      · cases h
      · rename_i hg
        rw [if_neg hg]
        have := prog_gives _ [] _ _ _ (fun f hf => by cases hf) hp
        refine ⟨?_, rfl⟩
        unfold check
        simp only [Bool.and_eq_true]
        refine ⟨⟨List.all_eq_true.2 fun f hf => ?_, this.2⟩, by simpa using hg⟩
        have := this.1 f hf
        unfold okf at this
        simpa using this
  · rw [parse_bad0 wrap s he] at h; exact absurd h he
theorem parse_place (wrap : Int → Int) (s : List UInt8) (h : (parse wrap s).2.2 ≠ 0) : (parse wrap s).1.funcs = [] ∧ (parse wrap s).1.body = .nil ∧ (parse wrap s).2.1 ≤ s.length ∧ ((parse wrap s).2.2 = 4 ∨ (parse wrap s).2.2 = 3 ∧ (parse wrap s).2.1 = 0) := by
  obtain ⟨i1, i2, i3, i4, i5, i6, i7⟩ := To.read_in s
  by_cases he : (To.read s).2.2 = 0
  · cases hp : progT [] ((To.read s).1.map (·.text)) with
    | bad r =>
      rw [parse_bad wrap s he hp]
      refine ⟨rfl, rfl, ?_, .inl rfl⟩
      unfold placeOf
      split
      · rename_i t ht; exact (i1 t (List.mem_of_getElem? ht)).2
      · exact Nat.le_refl _
    | ok p r =>
      rw [parse_ok wrap s he hp] at h ⊢
      split at h
      · rename_i hg; rw [if_pos hg]; exact ⟨rfl, rfl, Nat.zero_le _, .inr ⟨rfl, rfl⟩⟩
      · exact absurd rfl h
  · rw [parse_bad0 wrap s he]
    refine ⟨rfl, rfl, i3, ?_⟩
    rcases i5 with h5 | ⟨h5, h6⟩ | h5
    · exact absurd h5 he
    · exact .inr ⟨h5, h6⟩
    · exact .inl h5
end Go.Nd

/- Programs as they are written, plainly: an expression's tokens are read as it. No program in sight. -/
namespace Go.Nd

/-- What is left begins with none of these. -/
def Off (S : List Tx) (r : List Tx) : Prop := ∀ s q, r = s :: q → S.contains s = false
theorem Off.cons {S : List Tx} {s : Tx} {q : List Tx} (h : S.contains s = false) : Off S (s :: q) := fun s' q' e => by cases e; exact h
theorem Off.sub {S T : List Tx} {r : List Tx} (h : Off T r) (hs : ∀ s, S.contains s = true → T.contains s = true) : Off S r := fun s q e => by
  cases hc : S.contains s with
  | false => rfl
  | true => have := h s q e; rw [hs s hc] at this; cases this

def more' (signs : List Tx) (read : List Tx → R Nd) (x : Nd) (r : List Tx) : R Nd := more signs read r.length x r
def run (signs : List Tx) (read : List Tx → R Nd) (ts : List Tx) : R Nd := (read ts).then_ fun x r => more' signs read x r
theorem more_off {signs : List Tx} {read : List Tx → R Nd} (n : Nat) (x : Nd) {r : List Tx} (hr : Off signs r) : more signs read n x r = .ok x r := by
  cases n with
  | zero => rfl
  | succ n =>
    cases r with
    | nil => rfl
    | cons s q => unfold more; rw [hr s q rfl]; rfl
theorem more_on {signs : List Tx} {read : List Tx → R Nd} (hd : ∀ ts, (read ts).Down ts) {s : Tx} (hs : signs.contains s = true) (x : Nd) (r : List Tx) : more' signs read x (s :: r) = (read r).then_ fun y q => more' signs read (bin s x y) q := by
  show more signs read (r.length + 1) x (s :: r) = _
  conv => lhs; unfold more
  rw [if_pos hs]
  refine R.then_congr fun a q he => ?_
  have hl := (hd r).lt he
  exact more_fuel hd _ _ _ (fun _ _ => rfl) _ (by omega) (Nat.le_refl _)
theorem row_run {signs : List Tx} {read : List Tx → R Nd} (hd : ∀ ts, (read ts).Down ts) (K : Nat) (ts : List Tx) (hK : ts.length ≤ K) : row K signs read ts = run signs read ts := by
  unfold row run
  refine R.then_congr fun a q he => ?_
  have hl := (hd ts).lt he
  exact more_fuel hd _ _ _ (fun _ _ => rfl) _ (by omega) (Nat.le_refl _)
theorem run_down {signs : List Tx} {read : List Tx → R Nd} (hd : ∀ ts, (read ts).Down ts) (ts : List Tx) : (run signs read ts).Down ts := by
  rw [← row_run hd ts.length ts (Nat.le_refl _)]; exact row_down hd _ _
def prodRun : List Tx → R Nd := run muls sg
def sumRun : List Tx → R Nd := run adds prodRun
theorem prodRun_down (ts : List Tx) : (prodRun ts).Down ts := run_down sg_down ts
theorem sumRun_down (ts : List Tx) : (sumRun ts).Down ts := run_down prodRun_down ts
theorem expr_run (ts : List Tx) : expr ts = (sumRun ts).then_ fun x r => more cmps sumRun 1 x r := by
  rw [expr_is ts.length ts (Nat.le_refl _)]
  have h1 : ∀ us, us.length ≤ ts.length → sumOf ts.length sg us = sumRun us := fun us hu => by
    unfold sumOf
    rw [row_congr (prodOf_down sg_down _) _ us (read' := prodRun) (fun vs hv => row_run sg_down _ vs (by omega))]
    exact row_run prodRun_down _ us hu
  exact row_congr (sumOf_down sg_down _) 1 ts h1

/-! ### An expression's tokens -/
def inT (r least : Nat) (ts : List Tx) : List Tx := if r < least then [40] :: ts ++ [[41]] else ts
def sepT : List (List Tx) → List Tx
  | [] => []
  | [a] => a
  | a :: b :: r => a ++ [44] :: sepT (b :: r)
def shT (k : Nat) (t : Tx) (rs : List Nat) (ls : List (List Tx)) : List Tx :=
  if k = 3 then [91] :: sepT ls ++ [[93]]
  else if k = 4 then t :: [40] :: sepT ls ++ [[41]]
  else if k = 6 then [45] :: inT (rs.getD 0 0) 4 (ls.getD 0 [])
  else if k = 7 then [110, 111, 116] :: inT (rs.getD 0 0) 4 (ls.getD 0 [])
  else if k = 5 then
    (if t = [94] then inT (rs.getD 0 0) 6 (ls.getD 0 []) ++ t :: ls.getD 1 []
    else inT (rs.getD 0 0) (max (rkx 5 t) 2) (ls.getD 0 []) ++ t :: inT (rs.getD 1 0) (rkx 5 t + 1) (ls.getD 1 []))
  else [t]
def Ns.toks : Ns → List (List Tx)
  | .nil => []
  | .cons k t l _ _ r => shT k t (l.items.map Nd.rk) l.toks :: r.toks
def Nd.toks (x : Nd) : List Tx := shT x.kind x.text (x.l.items.map Nd.rk) x.l.toks
theorem toks_items (xs : Ns) : xs.toks = xs.items.map Nd.toks := by
  induction xs with
  | nil => rfl
  | cons k t l b e r _ _ _ ih => show _ :: r.toks = _ :: r.items.map Nd.toks; rw [ih]; rfl

theorem nd_toks (x : Nd) : x.toks = shT x.kind x.text (x.l.items.map Nd.rk) (x.l.items.map Nd.toks) := by rw [← toks_items]; rfl
theorem exprs_items (xs : Ns) : exprs xs = xs.items.all okx := by
  conv => lhs; rw [← Ns.of_items xs]
  exact exprs_of _
theorem nil_of_len {xs : Ns} (h : xs.len = 0) : xs = .nil := by
  cases xs with
  | nil => rfl
  | cons k t l b e r => exact absurd h (by simp [Ns.len, Ns.items])

/-- An expression that its tokens give again, wherever they stand. -/
structure Good (x : Nd) : Prop where
  a : x.rk = 6 → (∃ s q, x.toks = s :: q ∧ s ≠ [45] ∧ s ≠ [110, 111, 116]) ∧ ∀ r, Off [[40]] r → atom expr (x.toks ++ r) = .ok x r
  s : 4 ≤ x.rk → ∀ r, Off [[40], [94]] r → sg (x.toks ++ r) = .ok x r
  p : 3 ≤ x.rk → ∀ r, Off [[40], [94]] r → prodRun (x.toks ++ r) = more' muls sg x r
  q : 2 ≤ x.rk → ∀ r, Off [[40], [94], [42], [47]] r → sumRun (x.toks ++ r) = more' adds prodRun x r
  e : ∀ r, Closes r → expr (x.toks ++ r) = .ok x r
  h : ∃ s q, x.toks = s :: q ∧ s ≠ [41] ∧ s ≠ [93]

theorem closes_off {r : List Tx} (h : Closes r) (S : List Tx) (hs : ∀ s, S.contains s = true → goes.contains s = true) : Off S r := Off.sub h hs
theorem mem2 {s a b : Tx} : ([a, b] : List Tx).contains s = true ↔ s = a ∨ s = b := by simp
theorem mem4 {s a b c d : Tx} : ([a, b, c, d] : List Tx).contains s = true ↔ s = a ∨ s = b ∨ s = c ∨ s = d := by simp

theorem good_q {x : Nd} (hq : ∀ r, Off [[40], [94], [42], [47]] r → sumRun (x.toks ++ r) = more' adds prodRun x r) : ∀ r, Closes r → expr (x.toks ++ r) = .ok x r := by
  intro r hc
  rw [expr_run, hq r (closes_off hc _ (by intro s h; rw [mem4] at h; rcases h with rfl | rfl | rfl | rfl <;> decide))]
  unfold more'
  rw [more_off _ _ (closes_off hc adds adds_go)]
  exact more_off _ _ (closes_off hc cmps cmps_go)
theorem good_p {x : Nd} (hp : ∀ r, Off [[40], [94]] r → prodRun (x.toks ++ r) = more' muls sg x r) : ∀ r, Off [[40], [94], [42], [47]] r → sumRun (x.toks ++ r) = more' adds prodRun x r := by
  intro r hr
  unfold sumRun run
  rw [hp r (hr.sub (by intro s h; rw [mem2] at h; rcases h with rfl | rfl <;> decide))]
  conv => lhs; lhs; unfold more'
  rw [more_off _ _ (hr.sub (by intro s h; simp only [muls, mem2] at h; rcases h with rfl | rfl <;> decide))]
  rfl
theorem good_s {x : Nd} (hs : ∀ r, Off [[40], [94]] r → sg (x.toks ++ r) = .ok x r) : ∀ r, Off [[40], [94]] r → prodRun (x.toks ++ r) = more' muls sg x r := by
  intro r hr
  unfold prodRun run
  rw [hs r hr]
  rfl
theorem Good.of_s {x : Nd} (_ : 4 ≤ x.rk) (ha : x.rk = 6 → (∃ s q, x.toks = s :: q ∧ s ≠ [45] ∧ s ≠ [110, 111, 116]) ∧ ∀ r, Off [[40]] r → atom expr (x.toks ++ r) = .ok x r)
    (hs : ∀ r, Off [[40], [94]] r → sg (x.toks ++ r) = .ok x r) (hh : ∃ s q, x.toks = s :: q ∧ s ≠ [41] ∧ s ≠ [93]) : Good x :=
  ⟨ha, fun _ => hs, fun _ => good_s hs, fun _ => good_p (good_s hs), good_q (good_p (good_s hs)), hh⟩

theorem sg_atom' {s : Tx} {q r : List Tx} {x : Nd} (h1 : s ≠ [45]) (h2 : s ≠ [110, 111, 116]) (h : atom expr (s :: q) = .ok x r) (hr : Off [[94]] r) : sg (s :: q) = .ok x r := by
  rw [sg_cons, if_neg h1, if_neg h2, h]
  show (match r with | [] => R.ok x [] | p :: r'' => if p = [94] then (number r'').map (bin [94] x) else .ok x (p :: r'')) = _
  cases r with
  | nil => rfl
  | cons p q =>
    simp only
    rw [if_neg]
    intro e
    have := hr p q rfl
    rw [e] at this
    revert this; decide
theorem Good.of_a {x : Nd} (hx : x.rk = 6) (hh : ∃ s q, x.toks = s :: q ∧ s ≠ [45] ∧ s ≠ [110, 111, 116] ∧ s ≠ [41] ∧ s ≠ [93]) (ha : ∀ r, Off [[40]] r → atom expr (x.toks ++ r) = .ok x r) : Good x := by
  obtain ⟨s, q, he, h1, h2, h3, h4⟩ := hh
  refine Good.of_s (by omega) (fun _ => ⟨⟨s, q, he, h1, h2⟩, ha⟩) (fun r hr => ?_) ⟨s, q, he, h3, h4⟩
  have := ha r (hr.sub (by intro s h; simp at h; subst h; decide))
  rw [he] at this ⊢
  exact sg_atom' h1 h2 this (hr.sub (by intro s h; simp at h; subst h; decide))

/-- In brackets. -/
theorem Good.par {x : Nd} (h : Good x) (r : List Tx) : atom expr ([40] :: x.toks ++ [[41]] ++ r) = .ok x r := by
  have e : [40] :: x.toks ++ [[41]] ++ r = [40] :: (x.toks ++ [41] :: r) := by simp
  rw [e]
  exact atom_par (h.e _ (Closes.cons (by decide)))
theorem Good.parS {x : Nd} (h : Good x) (r : List Tx) (hr : Off [[40], [94]] r) : sg ([40] :: x.toks ++ [[41]] ++ r) = .ok x r :=
  sg_atom' (by decide) (by decide) (h.par r) (hr.sub (by intro s h; simp at h; subst h; decide))
theorem Good.in4 {x : Nd} (h : Good x) (r : List Tx) (hr : Off [[40], [94]] r) : sg (inT x.rk 4 x.toks ++ r) = .ok x r := by
  unfold inT
  split
  · exact h.parS r hr
  · exact h.s (by omega) r hr
theorem Good.in3 {x : Nd} (h : Good x) (r : List Tx) (hr : Off [[40], [94]] r) : prodRun (inT x.rk 3 x.toks ++ r) = more' muls sg x r := by
  unfold inT
  split
  · unfold prodRun run; rw [h.parS r hr]; rfl
  · exact h.p (by omega) r hr
theorem Good.in2 {x : Nd} (h : Good x) (r : List Tx) (hr : Off [[40], [94], [42], [47]] r) : sumRun (inT x.rk 2 x.toks ++ r) = more' adds prodRun x r := by
  unfold inT
  split
  · unfold sumRun run prodRun run
    rw [h.parS r (hr.sub (by intro s h; rw [mem2] at h; rcases h with rfl | rfl <;> decide))]
    show ((more' muls sg x r).then_ _) = _
    conv => lhs; lhs; unfold more'
    rw [more_off _ _ (hr.sub (by intro s h; simp only [muls, mem2] at h; rcases h with rfl | rfl <;> decide))]
    rfl
  · exact h.q (by omega) r hr
theorem Good.in6 {x : Nd} (h : Good x) (hk : x.rk ≤ 6) (r : List Tx) (hr : Off [[40]] r) : (∃ s q, inT x.rk 6 x.toks = s :: q ∧ s ≠ [45] ∧ s ≠ [110, 111, 116]) ∧ atom expr (inT x.rk 6 x.toks ++ r) = .ok x r := by
  unfold inT
  split
  · exact ⟨⟨[40], _, rfl, by decide, by decide⟩, h.par r⟩
  · have := h.a (by omega)
    exact ⟨this.1, this.2 r hr⟩
theorem inT_head (x : Nd) (least : Nat) (h : Good x) : ∃ s q, inT x.rk least x.toks = s :: q ∧ s ≠ [41] ∧ s ≠ [93] := by
  unfold inT
  split
  · exact ⟨[40], _, rfl, by decide, by decide⟩
  · exact h.h

theorem rkx_le (k : Nat) (t : Tx) : rkx k t ≤ 6 := by unfold rkx; (repeat' split) <;> omega

/-- What stands between commas. -/
theorem sep_tail {fin : Tx} (hf : fin = [41] ∨ fin = [93]) (r : List Tx) : ∀ (l : List Nd) (x : Nd), (∀ y ∈ x :: l, Good y) →
    ((expr (sepT ((x :: l).map Nd.toks) ++ fin :: r)).then_ fun y q => (sevTail fin expr q).map (y :: ·)) = .ok (x :: l) r := by
  intro l
  induction l with
  | nil =>
    intro x h
    show ((expr (x.toks ++ fin :: r)).then_ _) = _
    rw [(h x (by simp)).e _ (Closes.cons (by rcases hf with rfl | rfl <;> decide))]
    show (sevTail fin expr (fin :: r)).map _ = _
    rw [sevTail_end]; rfl
  | cons y l ih =>
    intro x h
    have e : sepT ((x :: y :: l).map Nd.toks) ++ fin :: r = x.toks ++ [44] :: (sepT ((y :: l).map Nd.toks) ++ fin :: r) := by
      show (x.toks ++ [44] :: sepT (y.toks :: l.map Nd.toks)) ++ fin :: r = _
      simp
    rw [e, (h x (by simp)).e _ (Closes.cons (by decide))]
    show (sevTail fin expr ([44] :: (sepT ((y :: l).map Nd.toks) ++ fin :: r))).map _ = _
    rw [sevTail_comma expr_down (by rcases hf with rfl | rfl <;> decide), ih y (fun z hz => h z (List.mem_cons_of_mem _ hz))]
    rfl
theorem sep_head {fin : Tx} (hf : fin = [41] ∨ fin = [93]) (r : List Tx) (l : List Nd) (x : Nd) (h : Good x) : (sepT ((x :: l).map Nd.toks) ++ fin :: r).head? ≠ some fin := by
  obtain ⟨s, q, he, h1, h2⟩ := h.h
  have : ∃ q', sepT ((x :: l).map Nd.toks) = s :: q' := by
    cases l with
    | nil => exact ⟨q, he⟩
    | cons y l => exact ⟨q ++ [44] :: sepT (y.toks :: l.map Nd.toks), by show x.toks ++ _ = _; rw [he]; rfl⟩
  obtain ⟨q', e⟩ := this
  rw [e]
  rcases hf with rfl | rfl
  · simpa using h1
  · simpa using h2
theorem sep_ok {fin : Tx} (hf : fin = [41] ∨ fin = [93]) (r : List Tx) (l : List Nd) (h : ∀ y ∈ l, Good y) : several fin expr (sepT (l.map Nd.toks) ++ fin :: r) = .ok l r := by
  cases l with
  | nil => exact several_none r
  | cons x l =>
    rw [several_first expr_down _ (sep_head hf r l x (h x (by simp)))]
    exact sep_tail hf r l x h

theorem name_ne {s : Tx} (h : To.name s = true) : s ≠ [45] ∧ s ≠ [110, 111, 116] ∧ s ≠ [41] ∧ s ≠ [93] := by
  refine ⟨?_, ?_, ?_, ?_⟩ <;> (rintro rfl; revert h; decide)
theorem plain_ne {s : Tx} (h : plain s = true) : s ≠ [45] ∧ s ≠ [110, 111, 116] ∧ s ≠ [41] ∧ s ≠ [93] ∧ s ≠ [40] ∧ s ≠ [91] := by
  refine ⟨?_, ?_, ?_, ?_, ?_, ?_⟩ <;> (rintro rfl; revert h; decide)
theorem plain_noname {s : Tx} (h : plain s = true) : To.name s = false := by
  cases s with
  | nil => revert h; decide
  | cons c q =>
    have hd : To.isD c = true := by
      unfold plain at h; simp only [List.all_cons, Bool.and_eq_true] at h; exact h.1.1
    have hL : To.isL c = false := by
      cases hh : To.isL c with
      | false => rfl
      | true => unfold To.isL at hh; unfold To.isD at hd; simp at hh hd; omega
    have : To.word (c :: q) = 0 := by
      unfold To.word; rw [if_pos]; show (if To.isL c = true then _ else 0) = 0; rw [hL]; rfl
    unfold To.name
    rw [this]
    simp
theorem atom_name' {s : Tx} {r : List Tx} (hs : To.name s = true) (hr : Off [[40]] r) : atom expr (s :: r) = .ok (leaf 2 s) r := by
  have h1 := name_no hs
  unfold atom; simp only; rw [if_neg h1.1, if_neg h1.2.1, if_pos hs]
  cases r with
  | nil => rfl
  | cons p q =>
    simp only
    rw [if_neg]
    intro e
    have := hr p q rfl
    rw [e] at this
    revert this; decide

theorem two_of {l : Ns} (h : l.len = 2) : ∃ a b, l = Ns.of [a, b] := by
  have h1 : l.items.length = 2 := h
  match hi : l.items, h1 with
  | [a, b], _ => exact ⟨a, b, by rw [← Ns.of_items l, hi]⟩
theorem one_of {l : Ns} (h : l.len = 1) : ∃ a, l = Ns.of [a] := by
  have h1 : l.items.length = 1 := h
  match hi : l.items, h1 with
  | [a], _ => exact ⟨a, by rw [← Ns.of_items l, hi]⟩
theorem raised_two {l : Ns} (h : raised l = true) : ∃ a b, l = Ns.of [a, b] ∧ b.kind = 1 := by
  unfold raised at h
  split at h
  · rename_i a b hi
    exact ⟨a, b, by rw [← Ns.of_items l, hi], by simpa using h⟩
  · cases h
theorem okx_num {x : Nd} (h : okx x = true) (hk : x.kind = 1) : plain x.text = true ∧ x = leaf 1 x.text := by
  obtain ⟨k, t, l, b, e⟩ := x
  simp only at hk
  subst hk
  unfold okx head at h
  simp only [if_true, Bool.and_eq_true, beq_iff_eq] at h
  obtain ⟨⟨⟨h1, h2⟩, _⟩, h3, h4⟩ := h
  rw [nil_of_len h1, nil_of_len h2, nil_of_len h3]
  exact ⟨h4, rfl⟩

theorem good_one (x : Nd) (hx : okx x = true) (ih : ∀ y ∈ x.l.items, okx y = true → Good y) : Good x := by
  have hx0 := hx
  obtain ⟨k, t, l, b, e⟩ := x
  unfold okx at hx
  simp only [Bool.and_eq_true, beq_iff_eq] at hx
  obtain ⟨⟨⟨hb, he⟩, hl⟩, hh⟩ := hx
  rw [exprs_items] at hl
  have hl2 := List.all_eq_true.1 hl
  have hg : ∀ y ∈ l.items, Good y := fun y hy => ih y hy (hl2 y hy)
  obtain rfl := nil_of_len hb
  obtain rfl := nil_of_len he
  unfold head at hh
  by_cases k1 : k = 1
  · subst k1
    simp only [if_true, Bool.and_eq_true, beq_iff_eq] at hh
    obtain ⟨h1, h2⟩ := hh
    obtain rfl := nil_of_len h1
    have hn := plain_ne h2
    exact Good.of_a rfl ⟨t, [], rfl, hn.1, hn.2.1, hn.2.2.1, hn.2.2.2.1⟩ fun r _ => atom_num h2 (plain_noname h2)
  · rw [if_neg k1] at hh
    by_cases k2 : k = 2
    · subst k2
      simp only [if_true, Bool.and_eq_true, beq_iff_eq] at hh
      obtain ⟨h1, h2⟩ := hh
      obtain rfl := nil_of_len h1
      have hn := name_ne h2
      exact Good.of_a rfl ⟨t, [], rfl, hn.1, hn.2.1, hn.2.2.1, hn.2.2.2⟩ fun r hr => atom_name' h2 hr
    · rw [if_neg k2] at hh
      by_cases k3 : k = 3
      · subst k3
        simp only [if_true, List.isEmpty_iff] at hh
        subst hh
        have et : Nd.toks ⟨3, [], l, .nil, .nil⟩ = [91] :: sepT (l.items.map Nd.toks) ++ [[93]] := by rw [nd_toks]; rfl
        refine Good.of_a rfl ⟨[91], _, et, by decide, by decide, by decide, by decide⟩ fun r _ => ?_
        rw [et]
        have e2 : [91] :: sepT (l.items.map Nd.toks) ++ [[93]] ++ r = [91] :: (sepT (l.items.map Nd.toks) ++ [93] :: r) := by simp
        rw [e2, atom_list (sep_ok (.inr rfl) r l.items hg), Ns.of_items]
      · rw [if_neg k3] at hh
        by_cases k4 : k = 4
        · subst k4
          simp only [if_true] at hh
          have hn := name_ne hh
          have et : Nd.toks ⟨4, t, l, .nil, .nil⟩ = t :: [40] :: sepT (l.items.map Nd.toks) ++ [[41]] := by
            rw [nd_toks]; rfl
          refine Good.of_a rfl ⟨t, _, et, hn.1, hn.2.1, hn.2.2.1, hn.2.2.2⟩ fun r _ => ?_
          rw [et]
          have e2 : t :: [40] :: sepT (l.items.map Nd.toks) ++ [[41]] ++ r = t :: [40] :: (sepT (l.items.map Nd.toks) ++ [41] :: r) := by simp
          rw [e2, atom_call hh (sep_ok (.inl rfl) r l.items hg), Ns.of_items]
        · rw [if_neg k4] at hh
          by_cases k67 : k = 6 ∨ k = 7
          · rw [if_pos k67] at hh
            simp only [Bool.and_eq_true, beq_iff_eq, List.isEmpty_iff] at hh
            obtain ⟨h1, rfl⟩ := hh
            obtain ⟨a, rfl⟩ := one_of h1
            have ga := hg a (by rw [Ns.items_of]; simp)
            rcases k67 with rfl | rfl
            · have et : Nd.toks ⟨6, [], Ns.of [a], .nil, .nil⟩ = [45] :: inT a.rk 4 a.toks := by
                rw [nd_toks]; show shT _ _ ((Ns.of _).items.map Nd.rk) ((Ns.of _).items.map Nd.toks) = _; rw [Ns.items_of]; rfl
              refine Good.of_s (show 4 ≤ rkx 6 [] by decide) (fun h => absurd (show rkx 6 [] = 6 from h) (by decide)) (fun r hr => ?_) ⟨[45], _, et, by decide, by decide⟩
              rw [et]
              exact sg_neg (ga.in4 r hr)
            · have et : Nd.toks ⟨7, [], Ns.of [a], .nil, .nil⟩ = [110, 111, 116] :: inT a.rk 4 a.toks := by
                rw [nd_toks]; show shT _ _ ((Ns.of _).items.map Nd.rk) ((Ns.of _).items.map Nd.toks) = _; rw [Ns.items_of]; rfl
              refine Good.of_s (show 4 ≤ rkx 7 [] by decide) (fun h => absurd (show rkx 7 [] = 6 from h) (by decide)) (fun r hr => ?_) ⟨[110, 111, 116], _, et, by decide, by decide⟩
              rw [et]
              exact sg_not (ga.in4 r hr)
          · rw [if_neg k67] at hh
            by_cases k5 : k = 5
            · subst k5
              rw [if_pos rfl] at hh
              by_cases ht : t = [94]
              · subst ht
                rw [if_pos rfl] at hh
                obtain ⟨a, b, rfl, hbk⟩ := raised_two hh
                have ga := hg a (by rw [Ns.items_of]; simp)
                obtain ⟨hp, hbl⟩ := okx_num (hl2 b (by rw [Ns.items_of]; simp)) hbk
                have et : Nd.toks ⟨5, [94], Ns.of [a, b], .nil, .nil⟩ = inT a.rk 6 a.toks ++ [94] :: b.toks := by
                  rw [nd_toks]; show shT _ _ ((Ns.of _).items.map Nd.rk) ((Ns.of _).items.map Nd.toks) = _; rw [Ns.items_of]; rfl
                have eb : b.toks = [b.text] := by rw [hbl]; rfl
                obtain ⟨s0, q0, hh0, hh1, hh2⟩ := inT_head a 6 ga
                refine Good.of_s (show 4 ≤ rkx 5 [94] by decide) (fun h => absurd (show rkx 5 [94] = 6 from h) (by decide)) (fun r hr => ?_) ⟨s0, q0 ++ [94] :: b.toks, by rw [et, hh0]; rfl, hh1, hh2⟩
                have e2 : inT a.rk 6 a.toks ++ [94] :: b.toks ++ r = inT a.rk 6 a.toks ++ ([94] :: b.text :: r) := by rw [eb]; simp
                rw [et, e2]
                obtain ⟨⟨s, q, hs, n1, n2⟩, hat⟩ := ga.in6 (rkx_le _ _) ([94] :: b.text :: r) (Off.cons (by decide))
                rw [hs] at hat ⊢
                rw [List.cons_append] at hat ⊢
                rw [sg_cons, if_neg n1, if_neg n2, hat]
                simp only [R.then_, if_true]
                unfold number
                simp only
                rw [if_pos hp]
                show R.ok (bin [94] a (leaf 1 b.text)) r = _
                rw [← hbl]; rfl
              · rw [if_neg ht] at hh
                simp only [Bool.and_eq_true, beq_iff_eq] at hh
                obtain ⟨h2, hsg⟩ := hh
                obtain ⟨a, b, rfl⟩ := two_of h2
                have ga := hg a (by rw [Ns.items_of]; simp)
                have gb := hg b (by rw [Ns.items_of]; simp)
                have et : Nd.toks ⟨5, t, Ns.of [a, b], .nil, .nil⟩ = inT a.rk (max (rkx 5 t) 2) a.toks ++ t :: inT b.rk (rkx 5 t + 1) b.toks := by
                  rw [nd_toks]; show shT _ _ ((Ns.of _).items.map Nd.rk) ((Ns.of _).items.map Nd.toks) = _; rw [Ns.items_of]; unfold shT; simp only [Nat.reduceEqDiff, if_false, if_true]; rw [if_neg ht]; rfl
                obtain ⟨s0, q0, hh0, hh1, hh2⟩ := inT_head a (max (rkx 5 t) 2) ga
                have hhead : ∃ s q, Nd.toks ⟨5, t, Ns.of [a, b], .nil, .nil⟩ = s :: q ∧ s ≠ [41] ∧ s ≠ [93] := ⟨s0, q0 ++ t :: inT b.rk (rkx 5 t + 1) b.toks, by rw [et, hh0]; rfl, hh1, hh2⟩
                by_cases hm : t = [42] ∨ t = [47]
                · have hr3 : rkx 5 t = 3 := by unfold rkx; rw [if_neg (by decide), if_pos rfl, if_neg ht, if_pos hm]
                  have hx3 : Nd.rk ⟨5, t, Ns.of [a, b], .nil, .nil⟩ = 3 := hr3
                  have hp : ∀ r, Off [[40], [94]] r → prodRun (Nd.toks ⟨5, t, Ns.of [a, b], .nil, .nil⟩ ++ r) = more' muls sg ⟨5, t, Ns.of [a, b], .nil, .nil⟩ r := by
                    intro r hr
                    have e2 : inT a.rk (max 3 2) a.toks ++ t :: inT b.rk (3 + 1) b.toks ++ r = inT a.rk 3 a.toks ++ (t :: (inT b.rk 4 b.toks ++ r)) := by simp
                    rw [et, hr3, e2, ga.in3 _ (Off.cons (by rcases hm with rfl | rfl <;> decide)), more_on sg_down (by rcases hm with rfl | rfl <;> decide), gb.in4 r hr]
                    rfl
                  exact ⟨fun h => (by rw [hx3] at h; cases h), fun h => (by rw [hx3] at h; omega), fun _ => hp, fun _ => good_p hp, good_q (good_p hp), hhead⟩
                · by_cases ha : t = [43] ∨ t = [45]
                  · have hr2 : rkx 5 t = 2 := by unfold rkx; rw [if_neg (by decide), if_pos rfl, if_neg ht, if_neg hm, if_pos ha]
                    have hx2 : Nd.rk ⟨5, t, Ns.of [a, b], .nil, .nil⟩ = 2 := hr2
                    have hq : ∀ r, Off [[40], [94], [42], [47]] r → sumRun (Nd.toks ⟨5, t, Ns.of [a, b], .nil, .nil⟩ ++ r) = more' adds prodRun ⟨5, t, Ns.of [a, b], .nil, .nil⟩ r := by
                      intro r hr
                      have e2 : inT a.rk (max 2 2) a.toks ++ t :: inT b.rk (2 + 1) b.toks ++ r = inT a.rk 2 a.toks ++ (t :: (inT b.rk 3 b.toks ++ r)) := by simp
                      rw [et, hr2, e2, ga.in2 _ (Off.cons (by rcases ha with rfl | rfl <;> decide)), more_on prodRun_down (by rcases ha with rfl | rfl <;> decide),
                        gb.in3 r (hr.sub (by intro s h; rw [mem2] at h; rcases h with rfl | rfl <;> decide))]
                      conv => lhs; lhs; unfold more'
                      rw [more_off _ _ (hr.sub (by intro s h; simp only [muls, mem2] at h; rcases h with rfl | rfl <;> decide))]
                      rfl
                    exact ⟨fun h => (by rw [hx2] at h; cases h), fun h => (by rw [hx2] at h; omega), fun h => (by rw [hx2] at h; omega), fun _ => hq, good_q hq, hhead⟩
                  · have hr1 : rkx 5 t = 1 := by unfold rkx; rw [if_neg (by decide), if_pos rfl, if_neg ht, if_neg hm, if_neg ha]
                    have hx1 : Nd.rk ⟨5, t, Ns.of [a, b], .nil, .nil⟩ = 1 := hr1
                    have hc : t = [61, 61] ∨ t = [33, 61] ∨ t = [60] ∨ t = [60, 61] := by
                      simp only [signs, List.contains_iff_mem, List.mem_cons, List.not_mem_nil, or_false] at hsg
                      rcases hsg with h | h | h | h | h | h | h | h
                      · exact absurd (.inl h) ha
                      · exact absurd (.inr h) ha
                      · exact absurd (.inl h) hm
                      · exact absurd (.inr h) hm
                      · exact .inl h
                      · exact .inr (.inl h)
                      · exact .inr (.inr (.inl h))
                      · exact .inr (.inr (.inr h))
                    refine ⟨fun h => (by rw [hx1] at h; cases h), fun h => (by rw [hx1] at h; omega), fun h => (by rw [hx1] at h; omega), fun h => (by rw [hx1] at h; omega), fun r hr => ?_, hhead⟩
                    have e2 : inT a.rk (max 1 2) a.toks ++ t :: inT b.rk (1 + 1) b.toks ++ r = inT a.rk 2 a.toks ++ (t :: (inT b.rk 2 b.toks ++ r)) := by simp
                    rw [et, hr1, e2, expr_run, ga.in2 _ (Off.cons (by rcases hc with rfl | rfl | rfl | rfl <;> decide))]
                    conv => lhs; lhs; unfold more'
                    rw [more_off _ _ (Off.cons (by rcases hc with rfl | rfl | rfl | rfl <;> decide))]
                    show more cmps sumRun 1 a (t :: (inT b.rk 2 b.toks ++ r)) = _
                    unfold more
                    rw [if_pos (by rcases hc with rfl | rfl | rfl | rfl <;> decide), gb.in2 r (closes_off hr _ (by intro s h; rw [mem4] at h; rcases h with rfl | rfl | rfl | rfl <;> decide))]
                    conv => lhs; lhs; unfold more'
                    rw [more_off _ _ (closes_off hr adds adds_go)]
                    rfl
            · rw [if_neg k5] at hh; cases hh
theorem good_all : ∀ xs : Ns, ∀ x ∈ xs.items, okx x = true → Good x := by
  intro xs
  induction xs with
  | nil => intro x hx; cases hx
  | cons k t l b e r il _ _ ir =>
    intro x hx ho
    rcases List.mem_cons.1 hx with rfl | hx
    · exact good_one _ ho il
    · exact ir x hx ho
theorem good_x (x : Nd) (h : okx x = true) : Good x := good_all (Ns.of [x]) x (by rw [Ns.items_of]; simp) h
end Go.Nd

/- Programs as they are written, plainly: a program's tokens are read as it. No program in sight. -/
namespace Go.Nd

def lineT (k : Nat) (t : Tx) (s lb le : List Tx) (els : Bool) : List Tx :=
  if k = 9 then [105, 102] :: s ++ [123] :: lb ++ [125] :: (if els then [101, 108, 115, 101] :: [123] :: le ++ [[125]] else [])
  else if k = 10 then [119, 104, 105, 108, 101] :: s ++ [123] :: lb ++ [[125]]
  else (if k = 8 then [t, [61]] else if k = 11 then [[114, 101, 116, 117, 114, 110]] else if k = 12 then [[116, 101, 108, 108]] else []) ++ s ++ [[59]]
def Ns.ltoks : Ns → List Tx
  | .nil => []
  | .cons k t l b e r => lineT k t (l.toks.getD 0 []) b.ltoks e.ltoks (e.len != 0) ++ r.ltoks
def fnToks (f : Fn) : List Tx := [102, 110] :: f.name :: [40] :: sepT (f.args.map fun a => [a]) ++ [41] :: [123] :: f.body.ltoks ++ [[125]]
def progToks (p : Pr) : List Tx := (p.funcs.map fnToks).flatten ++ p.body.ltoks

/-- What begins no expression. -/
theorem expr_bad {s : Tx} {q : List Tx} (h1 : To.name s = false) (h2 : plain s = false) (h3 : s ≠ [40] ∧ s ≠ [91] ∧ s ≠ [45] ∧ s ≠ [110, 111, 116]) : expr (s :: q) = .bad (s :: q) := by
  have hs : sg (s :: q) = .bad (s :: q) := by
    have : atom expr (s :: q) = .bad (s :: q) := by
      unfold atom; simp only
      rw [if_neg h3.1, if_neg h3.2.1, if_neg (by rw [h1]; decide)]
      unfold number; simp only
      rw [if_neg (by rw [h2]; decide)]
    rw [sg_cons, if_neg h3.2.2.1, if_neg h3.2.2.2, this]; rfl
  rw [expr_run]
  unfold sumRun run prodRun run
  rw [hs]; rfl
theorem expr_name_eq {s : Tx} {q : List Tx} (h : To.name s = true) : expr (s :: [61] :: q) = .ok (leaf 2 s) ([61] :: q) :=
  expr_sg (sg_name h (Closes.cons (by decide))) (Closes.cons (by decide))

/-- How an expression's tokens begin. -/
theorem Good.begins {x : Nd} (h : Good x) : ∃ s q, x.toks = s :: q ∧ s ≠ [105, 102] ∧ s ≠ [119, 104, 105, 108, 101] ∧ s ≠ [116, 101, 108, 108] ∧ s ≠ [114, 101, 116, 117, 114, 110] ∧ s ≠ [101, 108, 115, 101] ∧ s ≠ [102, 110] ∧ s ≠ [125] ∧
    ∀ r q', q ++ [59] :: r = [61] :: q' → To.name s = false := by
  obtain ⟨s, q, he, _, _⟩ := h.h
  have hb : ∀ w : Tx, To.name w = false → plain w = false → (w ≠ [40] ∧ w ≠ [91] ∧ w ≠ [45] ∧ w ≠ [110, 111, 116]) → s ≠ w := by
    intro w h1 h2 h3 hw
    subst hw
    have h4 := h.e [] Closes.nil
    rw [he, List.append_nil, expr_bad h1 h2 h3] at h4
    cases h4
  refine ⟨s, q, he, hb _ (by decide) (by decide) (by decide), hb _ (by decide) (by decide) (by decide), hb _ (by decide) (by decide) (by decide), hb _ (by decide) (by decide) (by decide), hb _ (by decide) (by decide) (by decide), hb _ (by decide) (by decide) (by decide), hb _ (by decide) (by decide) (by decide), fun r q' hq => ?_⟩
  cases hn : To.name s with
  | false => rfl
  | true =>
    have h4 := h.e ([59] :: r) (Closes.cons (by decide))
    rw [he, List.cons_append, hq, expr_name_eq hn] at h4
    simp only [R.ok.injEq] at h4
    exact absurd h4.2 (by simp)

theorem oks_one {inner : Bool} {k : Nat} {t : Tx} {l b e : Ns} (h : oks inner ⟨k, t, l, b, e⟩ = true) : ∃ x, l = Ns.of [x] ∧ Good x ∧ stmts inner b = true ∧ stmts inner e = true ∧ form inner k t b e = true := by
  unfold oks at h
  simp only [Bool.and_eq_true, beq_iff_eq] at h
  obtain ⟨⟨⟨⟨h1, h2⟩, h3⟩, h4⟩, h5⟩ := h
  obtain ⟨x, rfl⟩ := one_of h1
  rw [exprs_items, Ns.items_of] at h2
  simp at h2
  exact ⟨x, rfl, good_x x h2, h3, h4, h5⟩
theorem toks_one (x : Nd) : (Ns.of [x]).toks.getD 0 [] = x.toks := by rw [toks_items, Ns.items_of]; rfl

/-- What is behind a statement. -/
def NoElse (r : List Tx) : Prop := ∀ q, r ≠ [101, 108, 115, 101] :: q

theorem stm_line {inner : Bool} {k : Nat} {t : Tx} {l b e : Ns} (h : oks inner ⟨k, t, l, b, e⟩ = true)
    (hb : ∀ r, stmtsT (stm inner) (b.ltoks ++ [125] :: r) = .ok b.items r) (he : ∀ r, stmtsT (stm inner) (e.ltoks ++ [125] :: r) = .ok e.items r) (r : List Tx) (hr : NoElse r) :
    stm inner (lineT k t (l.toks.getD 0 []) b.ltoks e.ltoks (e.len != 0) ++ r) = .ok ⟨k, t, l, b, e⟩ r := by
  obtain ⟨x, rfl, gx, h3, h4, h5⟩ := oks_one h
  rw [toks_one]
  obtain ⟨s, q, hsq, n1, n2, n3, n4, n5, n6, n7, n8⟩ := gx.begins
  unfold form at h5
  by_cases k9 : k = 9
  · subst k9
    rw [if_pos rfl, List.isEmpty_iff] at h5
    subst h5
    have e1 : lineT 9 [] x.toks b.ltoks e.ltoks (e.len != 0) ++ r = [105, 102] :: (x.toks ++ [123] :: (b.ltoks ++ [125] :: ((if (e.len != 0) = true then [101, 108, 115, 101] :: [123] :: e.ltoks ++ [[125]] else []) ++ r))) := by
      unfold lineT; rw [if_pos rfl]; simp only [List.cons_append, List.append_assoc]
    rw [e1, stm_cons, if_pos rfl]
    unfold branch
    rw [gx.e _ (Closes.cons (by decide))]
    simp only [R.then_]
    rw [block_ok (hb _)]
    simp only
    by_cases hz : e.len = 0
    · have hz2 : (e.len != 0) = false := by simp [hz]
      rw [hz2]
      obtain rfl := nil_of_len hz
      cases r with
      | nil => simp only [Bool.false_eq_true, if_false, List.nil_append, Ns.of_items]
      | cons p r3 =>
        simp only [Bool.false_eq_true, if_false, List.nil_append]
        rw [if_neg (fun hp => hr r3 (by rw [hp])), Ns.of_items]
    · have hz2 : (e.len != 0) = true := by simp [hz]
      rw [hz2]
      simp only [if_true, List.cons_append]
      have e3 : e.ltoks ++ [[125]] ++ r = e.ltoks ++ [125] :: r := by simp
      rw [e3, block_ok (he r)]
      simp only [R.map, Ns.of_items]
  · rw [if_neg k9] at h5
    by_cases k10 : k = 10
    · subst k10
      rw [if_pos rfl] at h5
      simp only [Bool.and_eq_true, beq_iff_eq, List.isEmpty_iff] at h5
      obtain ⟨rfl, hz⟩ := h5
      obtain rfl := nil_of_len hz
      have e1 : lineT 10 [] x.toks b.ltoks Ns.nil.ltoks (Ns.nil.len != 0) ++ r = [119, 104, 105, 108, 101] :: (x.toks ++ [123] :: (b.ltoks ++ [125] :: r)) := by
        unfold lineT; rw [if_neg (by decide), if_pos rfl]; simp only [List.cons_append, List.append_assoc, List.nil_append]
      rw [e1, stm_while (gx.e _ (Closes.cons (by decide))) (block_ok (hb r)), Ns.of_items]
    · rw [if_neg k10] at h5
      have hend : ∀ (k : Nat) (t : Tx), ends k t (x.toks ++ [59] :: r) = .ok ⟨k, t, Ns.of [x], .nil, .nil⟩ r := fun k t => ends_ok (gx.e _ (Closes.cons (by decide)))
      by_cases k8 : k = 8
      · subst k8
        rw [if_pos rfl] at h5
        simp only [Bool.and_eq_true, beq_iff_eq] at h5
        obtain ⟨⟨hb0, he0⟩, hn⟩ := h5
        obtain rfl := nil_of_len hb0
        obtain rfl := nil_of_len he0
        have e1 : lineT 8 t x.toks Ns.nil.ltoks Ns.nil.ltoks (Ns.nil.len != 0) ++ r = t :: [61] :: (x.toks ++ [59] :: r) := by
          unfold lineT; rw [if_neg (by decide), if_neg (by decide), if_pos rfl]; simp only [List.cons_append, List.append_assoc, List.nil_append]
        rw [e1, stm_cons, if_neg (by rintro rfl; revert hn; decide), if_neg (by rintro rfl; revert hn; decide), if_neg (by rintro rfl; revert hn; decide)]
        rw [if_neg (by simp only [Bool.and_eq_true, beq_iff_eq, not_and]; rintro _ rfl; revert hn; decide)]
        simp only
        rw [if_pos (by simp [hn])]
        exact hend 8 t
      · rw [if_neg k8] at h5
        by_cases k11 : k = 11
        · subst k11
          rw [if_pos rfl] at h5
          simp only [Bool.and_eq_true, beq_iff_eq, List.isEmpty_iff] at h5
          obtain ⟨⟨⟨rfl, hb0⟩, he0⟩, hi⟩ := h5
          obtain rfl := nil_of_len hb0
          obtain rfl := nil_of_len he0
          subst hi
          have e1 : lineT 11 [] x.toks Ns.nil.ltoks Ns.nil.ltoks (Ns.nil.len != 0) ++ r = [114, 101, 116, 117, 114, 110] :: (x.toks ++ [59] :: r) := by
            unfold lineT; rw [if_neg (by decide), if_neg (by decide), if_neg (by decide), if_pos rfl]; simp only [List.cons_append, List.append_assoc, List.nil_append]
          rw [e1]
          exact stm_return (gx.e _ (Closes.cons (by decide)))
        · rw [if_neg k11] at h5
          by_cases k1213 : k = 12 ∨ k = 13
          · rw [if_pos k1213] at h5
            simp only [Bool.and_eq_true, beq_iff_eq, List.isEmpty_iff] at h5
            obtain ⟨⟨rfl, hb0⟩, he0⟩ := h5
            obtain rfl := nil_of_len hb0
            obtain rfl := nil_of_len he0
            rcases k1213 with rfl | rfl
            · have e1 : lineT 12 [] x.toks Ns.nil.ltoks Ns.nil.ltoks (Ns.nil.len != 0) ++ r = [116, 101, 108, 108] :: (x.toks ++ [59] :: r) := by
                unfold lineT; rw [if_neg (by decide), if_neg (by decide), if_neg (by decide), if_neg (by decide), if_pos rfl]; simp only [List.cons_append, List.append_assoc, List.nil_append]
              rw [e1, stm_cons, if_neg (by decide), if_neg (by decide), if_pos rfl]
              exact hend 12 []
            · have e1 : lineT 13 [] x.toks Ns.nil.ltoks Ns.nil.ltoks (Ns.nil.len != 0) ++ r = x.toks ++ [59] :: r := by
                unfold lineT; rw [if_neg (by decide), if_neg (by decide), if_neg (by decide), if_neg (by decide), if_neg (by decide)]; simp only [List.append_assoc, List.nil_append, List.cons_append]
              have hx := gx.e ([59] :: r) (Closes.cons (by decide))
              rw [e1]
              rw [hsq, List.cons_append] at hx ⊢
              exact stm_do n1 n2 n3 n4 (fun q' hq => n8 r q' hq) hx
          · rw [if_neg k1213] at h5; cases h5

theorem stmts_items (inner : Bool) (xs : Ns) : stmts inner xs = xs.items.all (oks inner) := by
  conv => lhs; rw [← Ns.of_items xs]
  exact stmts_of inner _
/-- How a statement's tokens begin. -/
theorem line_begins {inner : Bool} {k : Nat} {t : Tx} {l b e : Ns} (h : oks inner ⟨k, t, l, b, e⟩ = true) (lb le : List Tx) (els : Bool) : ∃ s q, lineT k t (l.toks.getD 0 []) lb le els = s :: q ∧ s ≠ [101, 108, 115, 101] ∧ s ≠ [102, 110] ∧ s ≠ [125] := by
  obtain ⟨x, rfl, gx, h3, h4, h5⟩ := oks_one h
  rw [toks_one]
  obtain ⟨s, q, hsq, n1, n2, n3, n4, n5, n6, n7, n8⟩ := gx.begins
  unfold lineT
  split
  · exact ⟨_, _, rfl, by decide, by decide, by decide⟩
  · split
    · exact ⟨_, _, rfl, by decide, by decide, by decide⟩
    · split
      · rename_i k9 k10 k8
        subst k8
        unfold form at h5
        simp only [Nat.reduceEqDiff, if_false, if_true, Bool.and_eq_true] at h5
        have hn := h5.2
        exact ⟨_, _, rfl, by rintro rfl; revert hn; decide, by rintro rfl; revert hn; decide, by rintro rfl; revert hn; decide⟩
      · split
        · exact ⟨_, _, rfl, by decide, by decide, by decide⟩
        · split
          · exact ⟨_, _, rfl, by decide, by decide, by decide⟩
          · exact ⟨s, q ++ [[59]], by rw [hsq]; rfl, n5, n6, n7⟩
theorem ltoks_begins {inner : Bool} (xs : Ns) (h : stmts inner xs = true) (r : List Tx) (hr : NoElse r ∧ (∀ q, r ≠ [102, 110] :: q)) : NoElse (xs.ltoks ++ r) ∧ ∀ q, xs.ltoks ++ r ≠ [102, 110] :: q := by
  cases xs with
  | nil => exact hr
  | cons k t l b e rest =>
    have ho : oks inner ⟨k, t, l, b, e⟩ = true := by
      rw [stmts_items] at h
      exact List.all_eq_true.1 h _ (List.mem_cons_self ..)
    obtain ⟨s, q, he, h1, h2, _⟩ := line_begins ho b.ltoks e.ltoks (e.len != 0)
    have e1 : (Ns.cons k t l b e rest).ltoks ++ r = s :: (q ++ (rest.ltoks ++ r)) := by
      show (lineT k t (l.toks.getD 0 []) b.ltoks e.ltoks (e.len != 0) ++ rest.ltoks) ++ r = _
      rw [he]; simp
    rw [e1]
    exact ⟨fun q' hq => h1 (by simp only [List.cons.injEq] at hq; exact hq.1), fun q' hq => h2 (by simp only [List.cons.injEq] at hq; exact hq.1)⟩
theorem noElse_125 (r : List Tx) : NoElse ([125] :: r) ∧ ∀ q, [125] :: r ≠ [102, 110] :: q := ⟨fun q h => by simp at h, fun q h => by simp at h⟩

theorem stmts_ok : ∀ (xs : Ns) (inner : Bool), stmts inner xs = true → (∀ r, stmtsT (stm inner) (xs.ltoks ++ [125] :: r) = .ok xs.items r) ∧ (inner = false → bodyT xs.ltoks = .ok xs.items []) := by
  intro xs
  induction xs with
  | nil => intro inner _; exact ⟨fun r => stmtsT_end _ r, fun _ => rfl⟩
  | cons k t l b e rest _ ib ie ir =>
    intro inner h
    have hall := h
    rw [stmts_items] at hall
    have ho : oks inner ⟨k, t, l, b, e⟩ = true := List.all_eq_true.1 hall _ (List.mem_cons_self ..)
    have hrest : stmts inner rest = true := by
      have : (oks inner ⟨k, t, l, b, e⟩ && rest.items.all (oks inner)) = true := hall
      rw [stmts_items]; simp only [Bool.and_eq_true] at this; exact this.2
    obtain ⟨x, _, _, hb, he, _⟩ := oks_one ho
    obtain ⟨r1, r2⟩ := ir inner hrest
    have hst := fun r hr => stm_line ho (ib inner hb).1 (ie inner he).1 r hr
    obtain ⟨s, q, hsq, n1, n2, n3⟩ := line_begins ho b.ltoks e.ltoks (e.len != 0)
    refine ⟨fun r => ?_, fun hi => ?_⟩
    · have e1 : (Ns.cons k t l b e rest).ltoks ++ [125] :: r = lineT k t (l.toks.getD 0 []) b.ltoks e.ltoks (e.len != 0) ++ (rest.ltoks ++ [125] :: r) := by
        show (lineT k t (l.toks.getD 0 []) b.ltoks e.ltoks (e.len != 0) ++ rest.ltoks) ++ [125] :: r = _
        rw [List.append_assoc]
      rw [e1]
      refine stmts_one (stm_down inner) ?_ ?_ (hst _ (ltoks_begins rest hrest _ (noElse_125 r)).1) (r1 r)
      · rw [hsq]; simpa using n3
      · rw [hsq]; simp
    · subst hi
      have h2 := r2 rfl
      have hne : NoElse rest.ltoks := by
        have := (ltoks_begins rest hrest [] ⟨fun q h => (by cases h), fun q h => (by cases h)⟩).1
        rw [List.append_nil] at this; exact this
      have h3 := hst rest.ltoks hne
      show bodyT (lineT k t (l.toks.getD 0 []) b.ltoks e.ltoks (e.len != 0) ++ rest.ltoks) = _
      rw [hsq, List.cons_append] at h3 ⊢
      rw [bodyT_cons, h3]
      show (bodyT rest.ltoks).map _ = _
      rw [h2]; rfl

/-- Names between commas. -/
theorem args_tail (r : List Tx) : ∀ (l : List Tx) (a : Tx), (∀ y ∈ a :: l, To.name y = true) →
    ((nameOf (sepT ((a :: l).map fun a => [a]) ++ [41] :: r)).then_ fun y q => (sevTail [41] nameOf q).map (y :: ·)) = .ok (a :: l) r := by
  intro l
  induction l with
  | nil =>
    intro a h
    show ((nameOf (a :: [41] :: r)).then_ _) = _
    have : nameOf (a :: [41] :: r) = .ok a ([41] :: r) := by unfold nameOf; simp only; rw [if_pos (h a (by simp))]
    rw [this]
    show (sevTail [41] nameOf ([41] :: r)).map _ = _
    rw [sevTail_end]; rfl
  | cons b l ih =>
    intro a h
    have e : sepT ((a :: b :: l).map fun a => [a]) ++ [41] :: r = a :: [44] :: (sepT ((b :: l).map fun a => [a]) ++ [41] :: r) := rfl
    have : ∀ q, nameOf (a :: q) = .ok a q := fun q => by unfold nameOf; simp only; rw [if_pos (h a (by simp))]
    rw [e, this]
    show (sevTail [41] nameOf ([44] :: (sepT ((b :: l).map fun a => [a]) ++ [41] :: r))).map _ = _
    rw [sevTail_comma nameOf_down (by decide), ih b (fun z hz => h z (List.mem_cons_of_mem _ hz))]
    rfl
theorem args_ok (r : List Tx) (l : List Tx) (h : ∀ y ∈ l, To.name y = true) : several [41] nameOf (sepT (l.map fun a => [a]) ++ [41] :: r) = .ok l r := by
  cases l with
  | nil => exact several_none r
  | cons a l =>
    have hn := h a (by simp)
    rw [several_first nameOf_down]
    · exact args_tail r l a h
    · have : ∃ q, sepT ((a :: l).map fun a => [a]) = a :: q := by
        cases l with
        | nil => exact ⟨[], rfl⟩
        | cons b l => exact ⟨_, rfl⟩
      obtain ⟨q, e⟩ := this
      rw [e]
      intro hh
      simp at hh
      subst hh
      revert hn; decide
theorem func_ok (f : Fn) (h : okf f = true) (r : List Tx) : ∃ q, fnToks f ++ r = [102, 110] :: q ∧ func q = .ok f r := by
  unfold okf at h
  simp only [Bool.and_eq_true] at h
  obtain ⟨⟨hn, ha⟩, hb⟩ := h
  refine ⟨f.name :: [40] :: (sepT (f.args.map fun a => [a]) ++ [41] :: ([123] :: (f.body.ltoks ++ [125] :: r))), by unfold fnToks; simp, ?_⟩
  rw [func_is]
  have h1 : ∀ q, nameOf (f.name :: q) = .ok f.name q := fun q => by unfold nameOf; simp only; rw [if_pos hn]
  have h2 : ∀ q, must [40] () ([40] :: q) = .ok () q := fun q => by unfold must; simp
  rw [h1]
  simp only [R.then_]
  rw [h2]
  simp only
  rw [args_ok _ _ (fun y hy => List.all_eq_true.1 ha y hy)]
  simp only
  rw [block_ok ((stmts_ok f.body true hb).1 r)]
  simp only [R.map, Ns.of_items]
theorem prog_ok (body : Ns) (hb : stmts false body = true) : ∀ (fs gs : List Fn), (∀ f ∈ fs, okf f = true) → progT gs ((fs.map fnToks).flatten ++ body.ltoks) = .ok ⟨gs ++ fs, body⟩ [] := by
  intro fs
  induction fs with
  | nil =>
    intro gs _
    show progT gs body.ltoks = _
    have hh : body.ltoks.head? ≠ some [102, 110] := by
      have := (ltoks_begins body hb [] ⟨fun q h => (by cases h), fun q h => (by cases h)⟩).2
      rw [List.append_nil] at this
      cases hc : body.ltoks with
      | nil => simp
      | cons s q => intro e; simp at e; subst e; exact this q hc
    rw [progT_body gs _ hh, (stmts_ok body false hb).2 rfl]
    simp only [R.map, Ns.of_items, List.append_nil]
  | cons f fs ih =>
    intro gs h
    have e : ((f :: fs).map fnToks).flatten ++ body.ltoks = fnToks f ++ ((fs.map fnToks).flatten ++ body.ltoks) := by simp
    obtain ⟨q, hq, hf⟩ := func_ok f (h f (by simp)) ((fs.map fnToks).flatten ++ body.ltoks)
    rw [e, hq, progT_fn, hf]
    show progT (gs ++ [f]) ((fs.map fnToks).flatten ++ body.ltoks) = _
    rw [ih _ (fun g hg => h g (List.mem_cons_of_mem _ hg))]
    simp
/-- A PROGRAM'S TOKENS ARE READ AS IT. -/
theorem prog_toks {wrap : Int → Int} {p : Pr} (h : check wrap p = true) : progT [] (progToks p) = .ok p [] := by
  unfold check at h
  simp only [Bool.and_eq_true] at h
  obtain ⟨⟨h1, h2⟩, _⟩ := h
  have := prog_ok p.body h2 p.funcs [] (fun f hf => by
    have := List.all_eq_true.1 h1 f hf
    unfold okf; simpa using this)
  exact this
end Go.Nd

/- Tokens: where they stand. No program in sight. -/
namespace Go.To

theorem sil_true_pos (l : List UInt8) (h : sil true l = 0) : l = [] := by
  cases l with
  | nil => rfl
  | cons c l => unfold sil at h; split at h <;> omega

theorem sil_t (c : UInt8) (l : List UInt8) : sil true (c :: l) = if c.toNat = 10 then sil false l + 1 else sil true l + 1 := by rw [sil]

/-- Behind what says nothing there is nothing more of it. -/
theorem sil_drop : ∀ (l : List UInt8) (b : Bool), sil false (l.drop (sil b l)) = 0 := by
  intro l
  induction l with
  | nil => intro b; simp [sil]
  | cons c l ih =>
    intro b
    cases b with
    | true =>
      by_cases h0 : c.toNat = 10
      · rw [sil_t, if_pos h0, List.drop_succ_cons]; exact ih false
      · rw [sil_t, if_neg h0, List.drop_succ_cons]; exact ih true
    | false =>
      by_cases h1 : isB c = true
      · rw [sil, if_pos h1, List.drop_succ_cons]; exact ih false
      · by_cases h2 : c.toNat = 35
        · rw [sil, if_neg h1, if_pos h2, List.drop_succ_cons]; exact ih true
        · rw [sil, if_neg h1, if_neg h2, List.drop_zero, sil, if_neg h1, if_neg h2]

theorem sil_zero (c : UInt8) (l : List UInt8) (h : sil false (c :: l) = 0) : isB c = false ∧ c.toNat ≠ 35 := by
  by_cases h1 : isB c = true
  · rw [sil, if_pos h1] at h; omega
  · by_cases h2 : c.toNat = 35
    · rw [sil, if_neg h1, if_pos h2] at h; omega
    · exact ⟨by simpa using h1, h2⟩

theorem scan_bad (s : List UInt8) : ∀ (f p q : Nat) (l : List UInt8), l = s.drop p → sil false l = 0 → (scan f p l).2 = some q → ∃ c r, s.drop q = c :: r ∧ isB c = false ∧ c.toNat ≠ 35 ∧ q < s.length := by
  intro f
  induction f with
  | zero => intro p q l _ _ h; simp [scan] at h
  | succ f ih =>
    intro p q l hl hz h
    rw [scan] at h
    by_cases h0 : l = []
    · rw [if_pos h0] at h; simp at h
    · rw [if_neg h0] at h
      by_cases h1 : (tok l).1 = 0
      · rw [if_pos h1] at h
        simp at h
        subst h
        cases l with
        | nil => exact absurd rfl h0
        | cons c r =>
          refine ⟨c, r, hl.symm, (sil_zero c r hz).1, (sil_zero c r hz).2, ?_⟩
          rcases Nat.lt_or_ge p s.length with h | h
          · exact h
          · rw [List.drop_eq_nil_of_le h] at hl; cases hl
      · rw [if_neg h1] at h
        refine ih _ q _ ?_ (sil_drop _ _) h
        rw [hl, List.drop_drop, List.drop_drop]; congr 1; omega

theorem all_bad (s : List UInt8) (q : Nat) (h : (all s).2 = some q) : ∃ c r, s.drop q = c :: r ∧ isB c = false ∧ c.toNat ≠ 35 ∧ q < s.length := by
  unfold all at h
  exact scan_bad s _ _ q _ rfl (sil_drop s false) h

/-- From a place behind a token on. -/
structure At (s : List UInt8) (A : List T) (i e : Nat) : Prop where
  le : e ≤ s.length
  n : i ≤ A.length
  rest : scan' (e + sil false (s.drop e)) (s.drop (e + sil false (s.drop e))) = (A.drop i, none)

theorem At.start (s : List UInt8) (h : (all s).2 = none) : At s (all s).1 0 0 :=
  ⟨Nat.zero_le _, Nat.zero_le _, by rw [List.drop_zero, Nat.zero_add, ← all_scan']; exact Prod.ext rfl h⟩

theorem At.last {s : List UInt8} {A : List T} {e : Nat} (h : At s A A.length e) : e + sil false (s.drop e) = s.length := by
  have hr := h.rest
  rw [List.drop_length] at hr
  obtain ⟨p, hp⟩ : ∃ p, p = e + sil false (s.drop e) := ⟨_, rfl⟩
  have hz := sil_le (s.drop e) false
  have hle := h.le
  rw [List.length_drop] at hz
  rw [← hp] at hr ⊢
  by_cases h1 : s.drop p = []
  · have := congrArg List.length h1
    rw [List.length_drop, List.length_nil] at this
    omega
  · by_cases h2 : (tok (s.drop p)).1 = 0
    · rw [scan'_bad _ _ h1 h2] at hr; simp at hr
    · rw [scan'_tok _ _ h1 h2] at hr; simp at hr

theorem At.next {s : List UInt8} {A : List T} {i e : Nat} (h : At s A i e) (hi : i < A.length) :
    ∃ n, (tok (s.drop A[i].pos)).1 ≠ 0 ∧ A[i].pos = e + sil false (s.drop e) ∧ A[i].kind = (tok (s.drop A[i].pos)).1 ∧ A[i].text = (s.drop A[i].pos).take n ∧ 0 < n ∧ A[i].pos + n ≤ s.length ∧ At s A (i + 1) (A[i].pos + n) := by
  have hr := h.rest
  have hz := sil_le (s.drop e) false
  have hle := h.le
  rw [List.length_drop] at hz
  obtain ⟨p, hp⟩ : ∃ p, p = e + sil false (s.drop e) := ⟨_, rfl⟩
  rw [← hp] at hr
  have hd := List.drop_eq_getElem_cons hi
  by_cases h1 : s.drop p = []
  · rw [h1, scan'_nil, hd] at hr; (simp at hr) <;> omega
  · by_cases h2 : (tok (s.drop p)).1 = 0
    · rw [scan'_bad _ _ h1 h2, hd] at hr; (simp at hr) <;> omega
    · rw [scan'_tok _ _ h1 h2, hd] at hr
      simp only [Prod.mk.injEq, List.cons.injEq] at hr
      obtain ⟨⟨hx, hrest⟩, hn⟩ := hr
      have hpos := tok_pos _ h2
      have htl := tok_le (s.drop p)
      rw [List.length_drop] at htl
      have e1 : A[i].pos = p := by rw [← hx]
      have hps : p < s.length := by
        rcases Nat.lt_or_ge p s.length with h | h
        · exact h
        · exact absurd (List.drop_eq_nil_of_le h) h1
      refine ⟨(tok (s.drop p)).2, by rw [e1]; exact h2, by rw [e1, hp], by rw [e1, ← hx], by rw [e1, ← hx], hpos, by rw [e1]; omega, ?_⟩
      rw [e1]
      refine ⟨by omega, hi, ?_⟩
      have e2 : (s.drop p).drop (tok (s.drop p)).2 = s.drop (p + (tok (s.drop p)).2) := List.drop_drop ..
      rw [e2] at hrest hn
      rw [List.drop_drop] at hrest hn
      exact Prod.ext hrest hn

/-- A step within what says nothing. -/
theorem sil_step (s : List UInt8) (k to : Nat) (c : Bool) (hk : k < s.length) (hlt : k < to) (h : sil c (s.drop k) = to - k) :
    sil ((c || s[k].toNat == 35) && s[k].toNat != 10) (s.drop (k + 1)) = to - (k + 1) ∧ ((c || s[k].toNat == 35) || isB s[k]) = true := by
  rw [List.drop_eq_getElem_cons hk] at h
  generalize s[k] = b at *
  cases c with
  | true =>
    rw [sil_t] at h
    by_cases h1 : b.toNat = 10
    · rw [if_pos h1] at h
      have e : ((true || b.toNat == 35) && b.toNat != 10) = false := by rw [h1]; rfl
      rw [e]; exact ⟨by omega, rfl⟩
    · rw [if_neg h1] at h
      have e : ((true || b.toNat == 35) && b.toNat != 10) = true := by simp [h1]
      rw [e]; exact ⟨by omega, rfl⟩
  | false =>
    rw [sil] at h
    by_cases h1 : isB b = true
    · rw [if_pos h1] at h
      have h2 : b.toNat ≠ 35 := by unfold isB at h1; simp at h1; omega
      have e : ((false || b.toNat == 35) && b.toNat != 10) = false := by simp [h2]
      rw [e]; exact ⟨by omega, by rw [h1, Bool.or_true]⟩
    · rw [if_neg h1] at h
      by_cases h2 : b.toNat = 35
      · rw [if_pos h2] at h
        have e : ((false || b.toNat == 35) && b.toNat != 10) = true := by rw [h2]; rfl
        rw [e]; exact ⟨by omega, by rw [h2]; rfl⟩
      · rw [if_neg h2] at h; omega
end Go.To

/- Tokens: a text behind another one, in a new line. No program in sight. -/
namespace Go.To

/-- What a run does where a line's end stands behind. -/
theorem run_nl (p : UInt8 → Bool) (hp : p 10 = false) (l t : List UInt8) : run p (l ++ 10 :: t) = run p l := by
  induction l with
  | nil => simp [run, hp]
  | cons c l ih =>
    rw [List.cons_append, run, run, ih]

theorem word_nl (l t : List UInt8) : word (l ++ 10 :: t) = word l := by
  unfold word; rw [run_nl isL (by decide), run_nl isW (by decide)]
theorem number_nl (l t : List UInt8) : number (l ++ 10 :: t) = number l := run_nl isD (by decide) l t
theorem sign_nl (l t : List UInt8) (h : l ≠ []) : sign (l ++ 10 :: t) = sign l := by
  cases l with
  | nil => exact absurd rfl h
  | cons c l =>
    rw [List.cons_append, sign_cons, sign_cons]
    have e : ((l ++ 10 :: t).head? = some 61) ↔ (l.head? = some 61) := by
      cases l with
      | nil => simp
      | cons d l => simp
    simp only [e]
theorem tok_nl (l t : List UInt8) (h : l ≠ []) : tok (l ++ 10 :: t) = tok l := by
  unfold tok; rw [word_nl, number_nl, sign_nl l t h]

/-- What says nothing, a line's end standing behind. -/
theorem sil_nl (t : List UInt8) : ∀ (l : List UInt8) (b : Bool), sil b (l ++ 10 :: t) = if sil b l < l.length then sil b l else l.length + 1 + sil false t := by
  intro l
  induction l with
  | nil =>
    intro b
    have e10 : (10 : UInt8).toNat = 10 := rfl
    have eb : isB 10 = true := by decide
    cases b with
    | true => rw [List.nil_append, sil_t, if_pos e10]; simp [sil]; omega
    | false =>
      have e : sil false (10 :: t) = sil false t + 1 := by rw [sil, if_pos eb]
      rw [List.nil_append, e]; simp [sil]; omega
  | cons c l ih =>
    intro b
    have h1 := ih true
    have h2 := ih false
    have hl : (c :: l).length = l.length + 1 := rfl
    have key : ∀ b' : Bool, sil b (c :: l) = sil b' l + 1 → sil b (c :: (l ++ 10 :: t)) = sil b' (l ++ 10 :: t) + 1 →
        sil b (c :: l ++ 10 :: t) = if sil b (c :: l) < (c :: l).length then sil b (c :: l) else (c :: l).length + 1 + sil false t := by
      intro b' e1 e2
      have h3 := ih b'
      rw [List.cons_append, e2, e1, h3, hl]
      by_cases hc : sil b' l < l.length
      · rw [if_pos hc, if_pos (by omega)]
      · rw [if_neg hc, if_neg (by omega)]; omega
    cases b with
    | true =>
      by_cases hc : c.toNat = 10
      · exact key false (by rw [sil_t, if_pos hc]) (by rw [sil_t, if_pos hc])
      · exact key true (by rw [sil_t, if_neg hc]) (by rw [sil_t, if_neg hc])
    | false =>
      by_cases hb : isB c = true
      · exact key false (by rw [sil, if_pos hb]) (by rw [sil, if_pos hb])
      · by_cases hc : c.toNat = 35
        · exact key true (by rw [sil, if_neg hb, if_pos hc]) (by rw [sil, if_neg hb, if_pos hc])
        · have e1 : ∀ r, sil false (c :: r) = 0 := fun r => by rw [sil, if_neg hb, if_neg hc]
          rw [List.cons_append, e1, e1, hl, if_pos (by omega)]

/-- A token, put on. -/
def T.on (k : Nat) (x : T) : T := ⟨x.kind, x.text, x.pos + k⟩

theorem scan_on (k : Nat) : ∀ (f p : Nat) (l : List UInt8), scan f (p + k) l = ((scan f p l).1.map (T.on k), (scan f p l).2.map (· + k)) := by
  intro f
  induction f with
  | zero => intro p l; rfl
  | succ f ih =>
    intro p l
    rw [scan, scan]
    by_cases h0 : l = []
    · rw [if_pos h0, if_pos h0]; rfl
    · rw [if_neg h0, if_neg h0]
      by_cases h1 : (tok l).1 = 0
      · rw [if_pos h1, if_pos h1]; rfl
      · rw [if_neg h1, if_neg h1]
        have e : p + k + (tok l).2 + sil false (l.drop (tok l).2) = (p + (tok l).2 + sil false (l.drop (tok l).2)) + k := by omega
        rw [e, ih]
        rfl

theorem scan'_on (k p : Nat) (l : List UInt8) : scan' (p + k) l = ((scan' p l).1.map (T.on k), (scan' p l).2.map (· + k)) := scan_on k _ p l

/-- All tokens from a place on, at which there may be what says nothing. -/
def from_ (e : Nat) (r : List UInt8) : List T × Option Nat := scan' (e + sil false r) (r.drop (sil false r))
theorem all_from (s : List UInt8) : all s = from_ 0 s := by unfold from_; rw [Nat.zero_add, all_scan']
theorem from_on (k e : Nat) (r : List UInt8) : from_ (e + k) r = ((from_ e r).1.map (T.on k), (from_ e r).2.map (· + k)) := by
  unfold from_
  rw [← scan'_on]
  congr 1; omega

theorem from_nl (t : List UInt8) : ∀ (m : Nat) (r : List UInt8) (e : Nat), r.length ≤ m →
    from_ e (r ++ 10 :: t) = match (from_ e r).2 with
      | some q => ((from_ e r).1, some q)
      | none => ((from_ e r).1 ++ (all t).1.map (T.on (e + r.length + 1)), (all t).2.map (· + (e + r.length + 1))) := by
  intro m
  induction m with
  | zero =>
    intro r e hr
    have h0 : r = [] := List.eq_nil_of_length_eq_zero (by omega)
    subst h0
    have h1 : from_ e [] = ([], none) := rfl
    have h2 : from_ e (10 :: t) = from_ (e + 1) t := by
      have e10 : sil false (10 :: t) = sil false t + 1 := by rw [sil, if_pos (by decide)]
      unfold from_
      rw [e10, List.drop_succ_cons]; congr 1; omega
    rw [List.nil_append, h1, h2, all_from]
    have h3 := from_on (e + 1) 0 t
    rw [Nat.zero_add] at h3
    rw [h3]; rfl
  | succ m ih =>
    intro r e hr
    have hs := sil_nl t r false
    have hle := sil_le r false
    by_cases hz : sil false r < r.length
    · rw [if_pos hz] at hs
      obtain ⟨z, hzz⟩ : ∃ z, z = sil false r := ⟨_, rfl⟩
      have e1 : from_ e (r ++ 10 :: t) = scan' (e + z) (r.drop z ++ 10 :: t) := by
        unfold from_
        rw [hs, ← hzz, List.drop_append_of_le_length (by omega)]
      have e2 : from_ e r = scan' (e + z) (r.drop z) := by unfold from_; rw [hzz]
      have hne : r.drop z ≠ [] := by intro h; have := congrArg List.length h; rw [List.length_drop, List.length_nil] at this; omega
      have hne2 : r.drop z ++ 10 :: t ≠ [] := by simp
      obtain ⟨l, hl⟩ : ∃ l, l = r.drop z := ⟨_, rfl⟩
      have hll : l.length = r.length - z := by rw [hl, List.length_drop]
      rw [← hl] at e1 e2 hne hne2
      rw [e1, e2]
      have ht := tok_nl l t hne
      by_cases h1 : (tok l).1 = 0
      · rw [scan'_bad _ _ hne2 (by rw [ht]; exact h1), scan'_bad _ _ hne h1]
      · have htl := tok_le l
        have hpos := tok_pos l h1
        have hih := ih (l.drop (tok l).2) (e + z + (tok l).2) (by rw [List.length_drop]; omega)
        rw [scan'_tok _ _ hne2 (by rw [ht]; exact h1), scan'_tok _ _ hne h1, ht, List.drop_append_of_le_length htl, List.take_append_of_le_length htl]
        have f1 : scan' (e + z + (tok l).2 + sil false (l.drop (tok l).2 ++ 10 :: t)) ((l.drop (tok l).2 ++ 10 :: t).drop (sil false (l.drop (tok l).2 ++ 10 :: t))) = from_ (e + z + (tok l).2) (l.drop (tok l).2 ++ 10 :: t) := rfl
        have f2 : scan' (e + z + (tok l).2 + sil false (l.drop (tok l).2)) ((l.drop (tok l).2).drop (sil false (l.drop (tok l).2))) = from_ (e + z + (tok l).2) (l.drop (tok l).2) := rfl
        rw [f1, f2, hih]
        have hlen : e + z + (tok l).2 + (l.drop (tok l).2).length + 1 = e + r.length + 1 := by rw [List.length_drop]; omega
        rw [hlen]
        cases (from_ (e + z + (tok l).2) (l.drop (tok l).2)).2 with
        | some q => rfl
        | none => rfl
    · rw [if_neg hz] at hs
      have e1 : from_ e (r ++ 10 :: t) = from_ (e + r.length + 1) t := by
        unfold from_
        rw [hs]
        have e3 : (r ++ 10 :: t).drop (r.length + 1 + sil false t) = t.drop (sil false t) := by
          rw [List.drop_append]
          have : r.length + 1 + sil false t - r.length = sil false t + 1 := by omega
          rw [this, List.drop_succ_cons, List.drop_eq_nil_of_le (by omega), List.nil_append]
        rw [e3]; congr 1; omega
      have e2 : from_ e r = ([], none) := by
        unfold from_
        rw [List.drop_eq_nil_of_le (by omega)]; rfl
      rw [e1, e2, all_from]
      have h3 := from_on (e + r.length + 1) 0 t
      rw [Nat.zero_add] at h3
      rw [h3]; rfl

theorem all_nl (s t : List UInt8) : all (s ++ 10 :: t) = match (all s).2 with
      | some q => ((all s).1, some q)
      | none => ((all s).1 ++ (all t).1.map (T.on (s.length + 1)), (all t).2.map (· + (s.length + 1))) := by
  rw [all_from (s ++ 10 :: t), all_from s, from_nl t s.length s 0 (Nat.le_refl _), Nat.zero_add]
end Go.To

/- Tokens: the tokens of a text, with what says nothing between them. No program in sight. -/
namespace Go.To

theorem run_consA (p : UInt8 → Bool) (c : UInt8) (l : List UInt8) : run p (c :: l) = if p c then run p l + 1 else 0 := rfl

/-- What a run does where its bytes stand alone, a byte that is none behind them. -/
theorem run_take (p : UInt8 → Bool) (c : UInt8) (hc : p c = false) (r : List UInt8) : ∀ (l : List UInt8) (n : Nat), n ≤ run p l → run p (l.take n ++ c :: r) = n := by
  intro l
  induction l with
  | nil => intro n hn; have : n = 0 := Nat.le_zero.1 hn; subst this; simp [run_consA, hc]
  | cons d l ih =>
    intro n hn
    cases n with
    | zero => simp [run_consA, hc]
    | succ n =>
      rw [run_consA] at hn
      by_cases hd : p d = true
      · rw [if_pos hd] at hn
        rw [List.take_succ_cons, List.cons_append, run_consA, if_pos hd, ih n (by omega)]
      · rw [if_neg hd] at hn; omega

theorem isL_W (c : UInt8) (h : isL c = true) : isW c = true := by unfold isW; rw [h]; rfl
theorem run_pos (p : UInt8 → Bool) (c : UInt8) (l : List UInt8) : 0 < run p (c :: l) ↔ p c = true := by
  rw [run_consA]; split <;> simp_all

/-- A token, alone, what says nothing behind it. -/
structure Good (x : T) : Prop where
  kind : x.kind ≠ 0
  head : ∃ c r, x.text = c :: r ∧ isB c = false ∧ c.toNat ≠ 35
  alone : ∀ (c : UInt8) (r : List UInt8), isB c = true → tok (x.text ++ c :: r) = (x.kind, x.text.length)

theorem blank_not (c : UInt8) (h : isB c = true) : isL c = false ∧ isD c = false ∧ isW c = false ∧ isS c = false ∧ c ≠ 61 := by
  have hc : c.toNat = 32 ∨ c.toNat = 9 ∨ c.toNat = 10 ∨ c.toNat = 13 := by unfold isB at h; simp at h; omega
  have e : ∀ n, c.toNat = n → n < 256 → c = UInt8.ofNat n := fun n hn hlt => by
    apply UInt8.toNat_inj.1; rw [hn]; simp; omega
  rcases hc with h1 | h1 | h1 | h1
  all_goals (rw [e _ h1 (by omega)]; decide)

theorem tok_good (l : List UInt8) (p : Nat) (h : (tok l).1 ≠ 0) : Good ⟨(tok l).1, l.take (tok l).2, p⟩ := by
  cases l with
  | nil => exact absurd rfl h
  | cons c0 l0 =>
    have hw : 0 < word (c0 :: l0) ↔ isL c0 = true := by
      unfold word
      constructor
      · intro hp
        split at hp
        · omega
        · rename_i hn; exact (run_pos _ _ _).1 (Nat.pos_of_ne_zero hn)
      · intro hp
        have h1 := (run_pos isL c0 l0).2 hp
        rw [if_neg (by omega)]
        exact (run_pos isW c0 l0).2 (isL_W _ hp)
    by_cases h1 : 0 < word (c0 :: l0)
    · have hL := hw.1 h1
      have e : tok (c0 :: l0) = (1, word (c0 :: l0)) := by unfold tok; rw [if_pos h1]
      have ew : word (c0 :: l0) = run isW (c0 :: l0) := by
        unfold word; rw [if_neg]; have := (run_pos isL c0 l0).2 hL; omega
      rw [e]
      obtain ⟨n, hn⟩ : ∃ n, word (c0 :: l0) = n + 1 := ⟨word (c0 :: l0) - 1, by omega⟩
      refine ⟨by simp, ⟨c0, l0.take n, by rw [hn]; rfl, ?_, ?_⟩, ?_⟩
      · cases hb : isB c0 with
        | false => rfl
        | true => have := (blank_not c0 hb).1; rw [hL] at this; cases this
      · intro h35; unfold isL at hL; simp [h35] at hL
      · intro c r hb
        obtain ⟨b1, b2, b3, b4, b5⟩ := blank_not c hb
        have hr := run_take isW c b3 r (c0 :: l0) (word (c0 :: l0)) (by rw [ew]; exact Nat.le_refl _)
        have hl : ((c0 :: l0).take (word (c0 :: l0))).length = word (c0 :: l0) := by rw [List.length_take]; have := word_le (c0 :: l0); omega
        have hw2 : word ((c0 :: l0).take (word (c0 :: l0)) ++ c :: r) = word (c0 :: l0) := by
          have hne : run isL ((c0 :: l0).take (word (c0 :: l0)) ++ c :: r) ≠ 0 := by
            rw [hn, List.take_succ_cons, List.cons_append]
            have := (run_pos isL c0 (l0.take n ++ c :: r)).2 hL
            omega
          show (if run isL ((c0 :: l0).take (word (c0 :: l0)) ++ c :: r) = 0 then 0 else run isW ((c0 :: l0).take (word (c0 :: l0)) ++ c :: r)) = _
          rw [if_neg hne]; exact hr
        show tok ((c0 :: l0).take (word (c0 :: l0)) ++ c :: r) = (1, _)
        unfold tok
        rw [hw2, if_pos h1, hl]
    · have hL : isL c0 = false := by cases hh : isL c0 with | false => rfl | true => exact absurd (hw.2 hh) h1
      have hw0 : ∀ r, word (c0 :: r) = 0 := fun r => by unfold word; rw [if_pos]; rw [run_consA, hL]; rfl
      by_cases h2 : 0 < number (c0 :: l0)
      · have hD : isD c0 = true := (run_pos isD c0 l0).1 h2
        have e : tok (c0 :: l0) = (2, number (c0 :: l0)) := by unfold tok; rw [if_neg h1, if_pos h2]
        rw [e]
        obtain ⟨n, hn⟩ : ∃ n, number (c0 :: l0) = n + 1 := ⟨number (c0 :: l0) - 1, by omega⟩
        refine ⟨by simp, ⟨c0, l0.take n, by rw [hn]; rfl, ?_, ?_⟩, ?_⟩
        · cases hb : isB c0 with
          | false => rfl
          | true => have := (blank_not c0 hb).2.1; rw [hD] at this; cases this
        · intro h35; unfold isD at hD; simp [h35] at hD
        · intro c r hb
          obtain ⟨b1, b2, b3, b4, b5⟩ := blank_not c hb
          have hr := run_take isD c b2 r (c0 :: l0) (number (c0 :: l0)) (Nat.le_refl _)
          have hl : ((c0 :: l0).take (number (c0 :: l0))).length = number (c0 :: l0) := by rw [List.length_take]; have := run_le isD (c0 :: l0); unfold number; omega
          have hw2 : word ((c0 :: l0).take (number (c0 :: l0)) ++ c :: r) = 0 := by rw [hn, List.take_succ_cons, List.cons_append]; exact hw0 _
          have hn2 : number ((c0 :: l0).take (number (c0 :: l0)) ++ c :: r) = number (c0 :: l0) := hr
          show tok ((c0 :: l0).take (number (c0 :: l0)) ++ c :: r) = (2, _)
          unfold tok
          rw [hw2, hn2, if_neg (by omega), if_pos h2, hl]
      · have hD : isD c0 = false := by cases hh : isD c0 with | false => rfl | true => exact absurd ((run_pos isD c0 l0).2 hh) h2
        have hn0 : ∀ r, number (c0 :: r) = 0 := fun r => by unfold number; rw [run_consA, hD]; rfl
        by_cases h3 : 0 < sign (c0 :: l0)
        · have e : tok (c0 :: l0) = (3, sign (c0 :: l0)) := by unfold tok; rw [if_neg h1, if_neg h2, if_pos h3]
          rw [e]
          rw [sign_cons] at h3 ⊢
          by_cases hs : (c0.toNat = 61 ∨ c0.toNat = 33 ∨ c0.toNat = 60) ∧ l0.head? = some 61
          · rw [if_pos hs]
            obtain ⟨l1, rfl⟩ : ∃ l1, l0 = 61 :: l1 := by
              cases l0 with
              | nil => cases hs.2
              | cons d l1 => exact ⟨l1, by have := hs.2; simp at this; rw [this]⟩
            refine ⟨by simp, ⟨c0, [61], rfl, ?_, ?_⟩, ?_⟩
            · unfold isB; simp; omega
            · omega
            · intro c r hb
              show tok (c0 :: 61 :: c :: r) = (3, 2)
              have e1 : sign (c0 :: 61 :: c :: r) = 2 := by rw [sign_cons, if_pos ⟨hs.1, rfl⟩]
              unfold tok
              rw [hw0, hn0, e1]; rfl
          · rw [if_neg hs] at h3 ⊢
            have hS : isS c0 = true := by
              cases hh : isS c0 with
              | true => rfl
              | false => rw [hh] at h3; simp at h3
            rw [if_pos hS]
            refine ⟨by simp, ⟨c0, [], rfl, ?_, ?_⟩, ?_⟩
            · cases hb : isB c0 with
              | false => rfl
              | true => have := (blank_not c0 hb).2.2.2.1; rw [hS] at this; cases this
            · intro h35
              have : c0 = 35 := UInt8.toNat_inj.1 h35
              rw [this] at hS; revert hS; decide
            · intro c r hb
              obtain ⟨b1, b2, b3, b4, b5⟩ := blank_not c hb
              show tok (c0 :: c :: r) = (3, 1)
              have e1 : sign (c0 :: c :: r) = 1 := by
                rw [sign_cons, if_neg (by rintro ⟨_, h⟩; simp at h; exact b5 h), if_pos hS]
              unfold tok
              rw [hw0, hn0, e1]; rfl
        · exfalso; apply h; unfold tok; rw [if_neg h1, if_neg h2, if_neg h3]

theorem scan_good : ∀ (f p : Nat) (l : List UInt8) (x : T), x ∈ (scan f p l).1 → Good x := by
  intro f
  induction f with
  | zero => intro p l x h; cases h
  | succ f ih =>
    intro p l x h
    rw [scan] at h
    split at h
    · cases h
    · split at h
      · cases h
      · rename_i h1
        rcases List.mem_cons.1 h with rfl | h
        · exact tok_good l p h1
        · exact ih _ _ _ h
theorem all_good (s : List UInt8) (x : T) (h : x ∈ (all s).1) : Good x := scan_good _ _ _ _ h

/-- How many bytes tokens have, all together. -/
def bytes : List T → Nat
  | [] => 0
  | x :: xs => x.text.length + bytes xs
theorem scan_bytes : ∀ (f p : Nat) (l : List UInt8), bytes (scan f p l).1 ≤ l.length := by
  intro f
  induction f with
  | zero => intro p l; exact Nat.zero_le _
  | succ f ih =>
    intro p l
    rw [scan]
    split
    · exact Nat.zero_le _
    · split
      · exact Nat.zero_le _
      · have h := ih (p + (tok l).2 + sil false (l.drop (tok l).2)) ((l.drop (tok l).2).drop (sil false (l.drop (tok l).2)))
        have h2 := tok_le l
        simp only [bytes]
        rw [List.length_drop, List.length_drop] at h
        rw [List.length_take]
        omega
theorem all_bytes (s : List UInt8) : bytes (all s).1 ≤ s.length := by
  have := scan_bytes (s.length + 1) (sil false s) (s.drop (sil false s))
  rw [List.length_drop] at this
  exact Nat.le_trans this (Nat.sub_le _ _)

/-- The text of tokens, what says nothing behind each. -/
def txt (b : List UInt8) : List T → List UInt8
  | [] => []
  | x :: xs => x.text ++ (b ++ txt b xs)
theorem txt_snoc (b : List UInt8) (x : T) : ∀ xs, txt b (xs ++ [x]) = txt b xs ++ x.text ++ b := by
  intro xs
  induction xs with
  | nil => simp [txt]
  | cons y xs ih => rw [List.cons_append, txt, txt, ih]; simp [List.append_assoc]
theorem txt_len (b : List UInt8) : ∀ xs, (txt b xs).length = bytes xs + xs.length * b.length := by
  intro xs
  induction xs with
  | nil => simp [txt, bytes]
  | cons y xs ih => rw [txt, bytes, List.length_append, List.length_append, ih, List.length_cons, Nat.succ_mul]; omega
theorem bytes_take : ∀ (xs : List T) (i : Nat), bytes (xs.take i) ≤ bytes xs := by
  intro xs
  induction xs with
  | nil => intro i; simp [bytes]
  | cons y xs ih =>
    intro i
    cases i with
    | zero => exact Nat.zero_le _
    | succ i => rw [List.take_succ_cons, bytes, bytes]; have := ih i; omega

theorem bytes_mem : ∀ (xs : List T) (i : Nat) (hi : i < xs.length), (xs[i]).text.length ≤ bytes xs := by
  intro xs
  induction xs with
  | nil => intro i hi; exact absurd hi (Nat.not_lt_zero _)
  | cons y xs ih =>
    intro i hi
    cases i with
    | zero => simp [bytes]
    | succ i => have := ih i (by simpa using hi); simp only [List.getElem_cons_succ, bytes]; omega

theorem map_at {xs ys : List T} (h : ys.map (fun y => (y.kind, y.text)) = xs.map (fun y => (y.kind, y.text))) (i : Nat) (h1 : i < ys.length) (h2 : i < xs.length) : (ys[i]).kind = (xs[i]).kind ∧ (ys[i]).text = (xs[i]).text := by
  have h3 : (ys.map (fun y => (y.kind, y.text)))[i]? = (xs.map (fun y => (y.kind, y.text)))[i]? := by rw [h]
  rw [List.getElem?_map, List.getElem?_map, List.getElem?_eq_getElem h1, List.getElem?_eq_getElem h2] at h3
  simp at h3
  exact h3

/-- What says nothing, whatever stands behind it, and begins with a blank. -/
def Blank (b : List UInt8) : Prop := (∃ c r, b = c :: r ∧ isB c = true) ∧ ∀ r, sil false (b ++ r) = b.length + sil false r

theorem from_blank {b : List UInt8} (hb : Blank b) (e : Nat) (r : List UInt8) : from_ e (b ++ r) = from_ (e + b.length) r := by
  unfold from_
  rw [hb.2, List.drop_append, List.drop_eq_nil_of_le (by omega), List.nil_append]
  congr 1
  · omega
  · congr 1; omega

theorem sil_head (c : UInt8) (r : List UInt8) (h : isB c = false) (h2 : c.toNat ≠ 35) : sil false (c :: r) = 0 := by
  rw [sil, h]; simp [h2]

theorem from_txt {b : List UInt8} (hb : Blank b) : ∀ (xs : List T) (e : Nat), (∀ x ∈ xs, Good x) →
    ∃ ys, from_ e (txt b xs) = (ys, none) ∧ ys.map (fun y => (y.kind, y.text)) = xs.map (fun y => (y.kind, y.text)) := by
  intro xs
  induction xs with
  | nil => intro e _; exact ⟨[], rfl, rfl⟩
  | cons x xs ih =>
    intro e hg
    have hx := hg x (List.mem_cons_self ..)
    obtain ⟨ys, h1, h2⟩ := ih (e + x.text.length + b.length) (fun y hy => hg y (List.mem_cons_of_mem _ hy))
    obtain ⟨c, r, hc, hB, h35⟩ := hx.head
    obtain ⟨d, q, hd, hdB⟩ := hb.1
    have ht : tok (txt b (x :: xs)) = (x.kind, x.text.length) := by
      rw [txt, hd, List.cons_append]; exact hx.alone d _ hdB
    have hs : sil false (txt b (x :: xs)) = 0 := by rw [txt, hc, List.cons_append]; exact sil_head _ _ hB h35
    have hne : txt b (x :: xs) ≠ [] := by rw [txt, hc]; simp
    have hf : from_ e (txt b (x :: xs)) = scan' e (txt b (x :: xs)) := by unfold from_; rw [hs]; rfl
    have htk : (txt b (x :: xs)).take x.text.length = x.text := by rw [txt]; exact List.take_left' rfl
    have hdr : (txt b (x :: xs)).drop x.text.length = b ++ txt b xs := by rw [txt]; exact List.drop_left' rfl
    rw [hf, scan'_tok _ _ hne (by rw [ht]; exact hx.kind), ht]
    simp only [htk, hdr]
    have hf2 : scan' (e + x.text.length + sil false (b ++ txt b xs)) ((b ++ txt b xs).drop (sil false (b ++ txt b xs))) = from_ (e + x.text.length) (b ++ txt b xs) := rfl
    rw [hf2, from_blank hb, h1]
    exact ⟨_, rfl, by rw [List.map_cons, List.map_cons, h2]⟩

def blanks (k : Nat) : List UInt8 := if k = 0 then [32] else if k = 1 then [10] else if k = 2 then [9, 13, 10] else [32, 35, 32, 61, 32, 120, 10]
theorem blanks_are (k : Nat) : Blank (blanks k) := by
  unfold blanks
  split
  · exact ⟨⟨32, [], rfl, by decide⟩, fun r => by simp [sil, isB]; omega⟩
  · split
    · exact ⟨⟨10, [], rfl, by decide⟩, fun r => by simp [sil, isB]; omega⟩
    · split
      · exact ⟨⟨9, _, rfl, by decide⟩, fun r => by simp [sil, isB]; omega⟩
      · exact ⟨⟨32, _, rfl, by decide⟩, fun r => by simp [sil, isB]; omega⟩
theorem blanks_len (k : Nat) : 1 ≤ (blanks k).length ∧ (blanks k).length ≤ 7 := by
  unfold blanks
  split
  · decide
  · split
    · decide
    · split <;> decide

/-- All tokens of that text. -/
theorem all_txt {b : List UInt8} (hb : Blank b) (xs : List T) (hg : ∀ x ∈ xs, Good x) : ∃ ys, all (b ++ txt b xs) = (ys, none) ∧ ys.map (fun y => (y.kind, y.text)) = xs.map (fun y => (y.kind, y.text)) := by
  rw [all_from, from_blank hb]
  exact from_txt hb xs _ hg

theorem scan_count : ∀ (f p : Nat) (l : List UInt8), (scan f p l).1.length ≤ l.length := by
  intro f
  induction f with
  | zero => intro p l; exact Nat.zero_le _
  | succ f ih =>
    intro p l
    rw [scan]
    split
    · exact Nat.zero_le _
    · split
      · exact Nat.zero_le _
      · rename_i h0 h1
        have hp := tok_pos l h1
        have hl : 0 < l.length := by cases l with | nil => exact absurd rfl h0 | cons _ _ => simp
        have := ih (p + (tok l).2 + sil false (l.drop (tok l).2)) ((l.drop (tok l).2).drop (sil false (l.drop (tok l).2)))
        rw [List.length_drop, List.length_drop] at this
        rw [List.length_cons]
        omega
theorem again_read {b : List UInt8} (hb : Blank b) (h7 : b.length ≤ 7) (s : List UInt8) (hs : s.length ≤ 3000) :
    ∃ ys, read (b ++ txt b (all s).1) = (ys, 0, 0) ∧ ys.map (fun y => (y.kind, y.text)) = (all s).1.map (fun y => (y.kind, y.text)) := by
  obtain ⟨ys, h1, h2⟩ := all_txt hb (all s).1 (fun x hx => all_good s x hx)
  refine ⟨ys, ?_, h2⟩
  have hl : (b ++ txt b (all s).1).length ≤ 65536 := by
    have := all_bytes s
    have h3 := scan_count (s.length + 1) (sil false s) (s.drop (sil false s))
    rw [List.length_drop] at h3
    have h4 : (all s).1.length ≤ 3000 := by unfold all; omega
    rw [List.length_append, txt_len]
    have h5 : (all s).1.length * b.length ≤ 3000 * 7 := Nat.mul_le_mul h4 h7
    omega
  unfold read
  rw [if_neg (by omega), h1]
end Go.To

/- Tokens, plainly: texts that are put together of pieces. No program in sight. -/
namespace Go.To

/-- Tokens, ahead of what is read from there on. -/
def ahead (xs : List T) (y : List T × Option Nat) : List T × Option Nat := (xs ++ y.1, y.2)
theorem ahead_nil (y : List T × Option Nat) : ahead [] y = y := rfl
theorem ahead_ahead (xs ys : List T) (y : List T × Option Nat) : ahead xs (ahead ys y) = ahead (xs ++ ys) y := by unfold ahead; simp

theorem T.on_on (a b : Nat) (xs : List T) : (xs.map (T.on a)).map (T.on b) = xs.map (T.on (a + b)) := by
  rw [List.map_map]; congr 1; funext x; simp [T.on, Function.comp, Nat.add_assoc]
theorem T.on_zero (xs : List T) : xs.map (T.on 0) = xs := by
  have : (T.on 0) = id := by funext x; rfl
  rw [this, List.map_id]
theorem T.on_text (k : Nat) (xs : List T) : (xs.map (T.on k)).map (·.text) = xs.map (·.text) := by
  rw [List.map_map]; rfl

/-- A piece of a text whose tokens are these, whatever stands behind it. -/
def Piece (p : List UInt8) (xs : List T) : Prop := ∀ e r, from_ e (p ++ r) = ahead (xs.map (T.on e)) (from_ (e + p.length) r)

theorem Piece.nil : Piece [] [] := fun _ _ => rfl
theorem Piece.append {p q : List UInt8} {xs ys : List T} (h : Piece p xs) (k : Piece q ys) : Piece (p ++ q) (xs ++ ys.map (T.on p.length)) := by
  intro e r
  rw [List.append_assoc, h, k, ahead_ahead, List.map_append, T.on_on, List.length_append]
  congr 2
  · rw [Nat.add_comm]
  · omega

theorem Piece.blank {c : UInt8} (h : isB c = true) : Piece [c] [] := by
  intro e r
  show from_ e (c :: r) = from_ (e + 1) r
  have e1 : sil false (c :: r) = sil false r + 1 := by rw [sil, if_pos h]
  unfold from_
  rw [e1, List.drop_succ_cons]
  congr 1
  omega

theorem from_tok {l : List UInt8} {e k n : Nat} (ht : tok l = (k, n)) (hk : k ≠ 0) (hs : sil false l = 0) (hl : l ≠ []) : from_ e l = ahead [⟨k, l.take n, e⟩] (from_ (e + n) (l.drop n)) := by
  have h1 : from_ e l = scan' e l := by unfold from_; rw [hs]; rfl
  rw [h1, scan'_tok e l hl (by rw [ht]; exact hk), ht]
  rfl

/-- A sign that is one whatever stands behind it. -/
theorem Piece.sign {c : UInt8} (h : isS c = true) (h2 : c.toNat ≠ 61 ∧ c.toNat ≠ 33 ∧ c.toNat ≠ 60) (h3 : isW c = false) : Piece [c] [⟨3, [c], 0⟩] := by
  intro e r
  have hL : isL c = false := by cases hh : isL c with | false => rfl | true => rw [isL_W c hh] at h3; cases h3
  have hD : isD c = false := by unfold isW at h3; simp at h3; exact h3.1.2
  have hB : isB c = false := by
    cases hb : isB c with
    | false => rfl
    | true => have := (blank_not c hb).2.2.2.1; rw [h] at this; cases this
  have h35 : c.toNat ≠ 35 := by
    intro e
    have : c = 35 := UInt8.toNat_inj.1 e
    rw [this] at h; revert h; decide
  have ht : tok (c :: r) = (3, 1) := by
    have e1 : To.sign (c :: r) = 1 := by
      rw [sign_cons, if_neg (by rintro ⟨h, _⟩; omega), if_pos h]
    have e2 : word (c :: r) = 0 := by unfold word; rw [if_pos]; rw [run_consA, hL]; rfl
    have e3 : number (c :: r) = 0 := by unfold number; rw [run_consA, hD]; rfl
    unfold tok; rw [e1, e2, e3]; rfl
  have := from_tok (e := e) ht (by decide) (sil_head c r hB h35) (by simp)
  show from_ e (c :: r) = _
  rw [this]
  simp [T.on]

theorem run_all (p : UInt8 → Bool) (w : List UInt8) (c : UInt8) (r : List UInt8) (hw : w.all p = true) (hc : p c = false) : run p (w ++ c :: r) = w.length := by
  induction w with
  | nil => rw [List.nil_append, run_consA, hc]; rfl
  | cons d w ih =>
    simp only [List.all_cons, Bool.and_eq_true] at hw
    rw [List.cons_append, run_consA, if_pos hw.1, ih hw.2]; rfl

/-- A word, a byte behind it that is in none. -/
theorem Piece.word {d : UInt8} {w q : List UInt8} {c : UInt8} {xs : List T} (hd : isL d = true) (hw : w.all isW = true) (hc : isW c = false) (k : Piece (c :: q) xs) : Piece (d :: w ++ c :: q) (⟨1, d :: w, 0⟩ :: xs.map (T.on (w.length + 1))) := by
  intro e r
  have hB : isB d = false := by
    cases hb : isB d with
    | false => rfl
    | true => have := (blank_not d hb).1; rw [hd] at this; cases this
  have h35 : d.toNat ≠ 35 := by
    intro e
    have : d = 35 := UInt8.toNat_inj.1 e
    rw [this] at hd; revert hd; decide
  have hr : run isW (d :: w ++ c :: (q ++ r)) = (d :: w).length := run_all isW (d :: w) c (q ++ r) (by rw [List.all_cons, isL_W d hd, hw]; rfl) hc
  have h1 : 0 < run isL (d :: (w ++ c :: (q ++ r))) := (run_pos _ _ _).2 hd
  have hwd : To.word (d :: w ++ c :: (q ++ r)) = w.length + 1 := by
    unfold To.word
    rw [if_neg (by rw [List.cons_append]; omega), hr]; rfl
  have ht : tok (d :: w ++ c :: (q ++ r)) = (1, w.length + 1) := by unfold tok; rw [hwd, if_pos (by omega)]
  have e0 : d :: w ++ c :: q ++ r = d :: w ++ c :: (q ++ r) := by simp
  have := from_tok (e := e) ht (by decide) (sil_head d _ hB h35) (by simp)
  rw [e0, this]
  have hk := k (e + (w.length + 1)) r
  have t1 : (d :: w ++ c :: (q ++ r)).take (w.length + 1) = d :: w := List.take_left' rfl
  have t2 : (d :: w ++ c :: (q ++ r)).drop (w.length + 1) = c :: q ++ r := List.drop_left' rfl
  rw [t1, t2, hk, ahead_ahead, List.map_cons, T.on_on]
  congr 2
  · simp [T.on, Nat.add_comm]
  · simp; omega

/-- A number, likewise. -/
theorem Piece.num {d : UInt8} {w q : List UInt8} {c : UInt8} {xs : List T} (hd : isD d = true) (hw : w.all isD = true) (hc : isD c = false) (k : Piece (c :: q) xs) : Piece (d :: w ++ c :: q) (⟨2, d :: w, 0⟩ :: xs.map (T.on (w.length + 1))) := by
  intro e r
  have hL : isL d = false := by
    cases hh : isL d with
    | false => rfl
    | true => unfold isL at hh; unfold isD at hd; simp at hh hd; omega
  have hB : isB d = false := by
    cases hb : isB d with
    | false => rfl
    | true => have := (blank_not d hb).2.1; rw [hd] at this; cases this
  have h35 : d.toNat ≠ 35 := by
    intro e
    have : d = 35 := UInt8.toNat_inj.1 e
    rw [this] at hd; revert hd; decide
  have hr : run isD (d :: w ++ c :: (q ++ r)) = (d :: w).length := run_all isD (d :: w) c (q ++ r) (by rw [List.all_cons, hd, hw]; rfl) hc
  have hwd : To.word (d :: w ++ c :: (q ++ r)) = 0 := by
    unfold To.word; rw [if_pos]; rw [List.cons_append, run_consA, hL]; rfl
  have ht : tok (d :: w ++ c :: (q ++ r)) = (2, w.length + 1) := by
    unfold tok number; rw [hwd, hr, if_neg (by omega), if_pos (by simp)]; rfl
  have e0 : d :: w ++ c :: q ++ r = d :: w ++ c :: (q ++ r) := by simp
  have := from_tok (e := e) ht (by decide) (sil_head d _ hB h35) (by simp)
  rw [e0, this]
  have hk := k (e + (w.length + 1)) r
  have t1 : (d :: w ++ c :: (q ++ r)).take (w.length + 1) = d :: w := List.take_left' rfl
  have t2 : (d :: w ++ c :: (q ++ r)).drop (w.length + 1) = c :: q ++ r := List.drop_left' rfl
  rw [t1, t2, hk, ahead_ahead, List.map_cons, T.on_on]
  congr 2
  · simp [T.on, Nat.add_comm]
  · simp; omega

/-- So often. -/
def rep {α : Type} (p : List α) : Nat → List α
  | 0 => []
  | k + 1 => p ++ rep p k
theorem rep_len {α : Type} (p : List α) : ∀ k, (rep p k).length = k * p.length := by
  intro k
  induction k with
  | zero => simp [rep]
  | succ k ih => rw [rep, List.length_append, ih, Nat.succ_mul]; omega
theorem rep_back {α : Type} (p : List α) : ∀ k, rep p (k + 1) = rep p k ++ p := by
  intro k
  induction k with
  | zero => simp [rep]
  | succ k ih => show p ++ rep p (k + 1) = (p ++ rep p k) ++ p; rw [ih, List.append_assoc]
def reps (n : Nat) (xs : List T) : Nat → List T
  | 0 => []
  | k + 1 => xs ++ (reps n xs k).map (T.on n)
theorem Piece.rep {p : List UInt8} {xs : List T} (h : Piece p xs) : ∀ k, Piece (To.rep p k) (reps p.length xs k) := by
  intro k
  induction k with
  | zero => exact Piece.nil
  | succ k ih => exact h.append ih
theorem reps_text (n : Nat) (xs : List T) : ∀ k, (reps n xs k).map (·.text) = To.rep (xs.map (·.text)) k := by
  intro k
  induction k with
  | zero => rfl
  | succ k ih => rw [reps, List.map_append, T.on_text, ih]; rfl

theorem Piece.read {p : List UInt8} {xs : List T} (h : Piece p xs) (hl : p.length ≤ 65536) : To.read p = (xs, 0, 0) := by
  have h1 := h 0 []
  rw [List.append_nil] at h1
  have h2 : all p = (xs, none) := by
    rw [all_from, h1, T.on_zero]
    show (xs ++ [], none) = _
    rw [List.append_nil]
  unfold To.read
  rw [if_neg (by omega), h2]
/-- .. what says something, but no token, behind it counts for nothing here: texts alone. -/
theorem Piece.texts {p : List UInt8} {xs : List T} (h : Piece p xs) (hl : p.length ≤ 65536) {l : List (List UInt8)} (e : xs.map (·.text) = l) : (To.read p).2.2 = 0 ∧ (To.read p).1.map (·.text) = l := by rw [h.read hl]; exact ⟨rfl, e⟩
end Go.To

/- Programs as they are written, plainly: the tokens of what is written. No program in sight. -/
namespace Go.To

/-- What ends a word, a number, a sign. -/
def Ends (r : List UInt8) : Prop := ∀ c q, r = c :: q → isW c = false ∧ c ≠ 61
/-- A piece whose tokens these are, where what ends it stands behind it. -/
def LexE (p : List UInt8) (ts : List (List UInt8)) : Prop := ∃ xs : List T, (∀ e r, Ends r → from_ e (p ++ r) = ahead (xs.map (T.on e)) (from_ (e + p.length) r)) ∧ xs.map (·.text) = ts
/-- .. whatever stands behind it. -/
def LexF (p : List UInt8) (ts : List (List UInt8)) : Prop := ∃ xs : List T, Piece p xs ∧ xs.map (·.text) = ts

theorem LexF.e {p : List UInt8} {ts : List (List UInt8)} (h : LexF p ts) : LexE p ts := by
  obtain ⟨xs, h1, h2⟩ := h
  exact ⟨xs, fun e r _ => h1 e r, h2⟩
theorem LexF.of {p : List UInt8} {xs : List T} (h : Piece p xs) {ts : List (List UInt8)} (e : xs.map (·.text) = ts) : LexF p ts := ⟨xs, h, e⟩
theorem LexF.nil : LexF [] [] := ⟨[], Piece.nil, rfl⟩
theorem LexF.append {p q : List UInt8} {ts us : List (List UInt8)} (h : LexF p ts) (k : LexF q us) : LexF (p ++ q) (ts ++ us) := by
  obtain ⟨xs, h1, h2⟩ := h
  obtain ⟨ys, k1, k2⟩ := k
  exact ⟨_, h1.append k1, by rw [List.map_append, T.on_text, h2, k2]⟩
theorem LexF.appendE {p q : List UInt8} {ts us : List (List UInt8)} (h : LexF p ts) (k : LexE q us) : LexE (p ++ q) (ts ++ us) := by
  obtain ⟨xs, h1, h2⟩ := h
  obtain ⟨ys, k1, k2⟩ := k
  refine ⟨xs ++ ys.map (T.on p.length), fun e r hr => ?_, by rw [List.map_append, T.on_text, h2, k2]⟩
  rw [List.append_assoc, h1, k1 _ _ hr, ahead_ahead, List.map_append, T.on_on, List.length_append]
  congr 2
  · rw [Nat.add_comm]
  · omega
theorem LexE.gen {p q : List UInt8} {ts us : List (List UInt8)} (h : LexE p ts) {ys : List T} {R : List UInt8 → Prop} (hq : ∀ r, R r → Ends (q ++ r)) (k1 : ∀ e r, R r → from_ e (q ++ r) = ahead (ys.map (T.on e)) (from_ (e + q.length) r)) (k2 : ys.map (·.text) = us) :
    ∃ xs : List T, (∀ e r, R r → from_ e (p ++ q ++ r) = ahead (xs.map (T.on e)) (from_ (e + (p ++ q).length) r)) ∧ xs.map (·.text) = ts ++ us := by
  obtain ⟨xs, h1, h2⟩ := h
  refine ⟨xs ++ ys.map (T.on p.length), fun e r hr => ?_, by rw [List.map_append, T.on_text, h2, k2]⟩
  rw [List.append_assoc, h1 _ _ (hq r hr), k1 _ _ hr, ahead_ahead, List.map_append, T.on_on, List.length_append]
  congr 2
  · rw [Nat.add_comm]
  · omega
/-- How a piece must begin to end what is ahead of it. -/
def Begins (q : List UInt8) : Prop := ∃ c q', q = c :: q' ∧ isW c = false ∧ c ≠ 61
theorem Begins.ends {q : List UInt8} (h : Begins q) (r : List UInt8) : Ends (q ++ r) := by
  obtain ⟨c, q', rfl, h1, h2⟩ := h
  intro c' q'' e
  simp only [List.cons_append, List.cons.injEq] at e
  rw [← e.1]
  exact ⟨h1, h2⟩
theorem Begins.of {c : UInt8} {q : List UInt8} (h1 : isW c = false) (h2 : c ≠ 61) : Begins (c :: q) := ⟨c, q, rfl, h1, h2⟩
theorem Begins.append {q : List UInt8} (h : Begins q) (r : List UInt8) : Begins (q ++ r) := by
  obtain ⟨c, q', rfl, h1, h2⟩ := h
  exact ⟨c, q' ++ r, rfl, h1, h2⟩
theorem LexE.append {p q : List UInt8} {ts us : List (List UInt8)} (h : LexE p ts) (k : LexE q us) (hq : Begins q) : LexE (p ++ q) (ts ++ us) := by
  obtain ⟨ys, k1, k2⟩ := k
  exact h.gen (fun r _ => hq.ends r) k1 k2
theorem LexE.appendF {p q : List UInt8} {ts us : List (List UInt8)} (h : LexE p ts) (k : LexF q us) (hq : Begins q) : LexF (p ++ q) (ts ++ us) := by
  obtain ⟨ys, k1, k2⟩ := k
  obtain ⟨xs, h1, h2⟩ := h.gen (R := fun _ => True) (fun r _ => hq.ends r) (fun e r _ => k1 e r) k2
  exact ⟨xs, fun e r => h1 e r trivial, h2⟩

theorem run_end (p : UInt8 → Bool) (w r : List UInt8) (hw : w.all p = true) (hr : ∀ c q, r = c :: q → p c = false) : run p (w ++ r) = w.length := by
  cases r with
  | nil =>
    rw [List.append_nil]
    induction w with
    | nil => rfl
    | cons d w ih =>
      simp only [List.all_cons, Bool.and_eq_true] at hw
      rw [run_consA, if_pos hw.1, ih hw.2]; rfl
  | cons c q => exact run_all p w c q hw (hr c q rfl)
theorem run_full (p : UInt8 → Bool) : ∀ l : List UInt8, run p l = l.length → l.all p = true := by
  intro l
  induction l with
  | nil => intro _; rfl
  | cons c l ih =>
    intro h
    rw [run_consA] at h
    split at h
    · rename_i hc
      simp only [List.length_cons, Nat.add_right_cancel_iff] at h
      rw [List.all_cons, hc, ih h]; rfl
    · simp at h
theorem isW_of_isD (c : UInt8) (h : isD c = true) : isW c = true := by unfold isW; rw [h]; simp

theorem LexE.name {s : List UInt8} (h : To.name s = true) : LexE s [s] := by
  unfold To.name at h
  simp only [Bool.and_eq_true, beq_iff_eq, Bool.not_eq_true'] at h
  obtain ⟨⟨_, h1⟩, h2⟩ := h
  cases s with
  | nil => cases h1
  | cons d w =>
    have hL : isL d = true := by
      cases hd : isL d with
      | true => rfl
      | false =>
        have : To.word (d :: w) = 0 := by unfold To.word; rw [if_pos]; rw [run_consA, hd]; rfl
        rw [this] at h2; cases h2
    have hW : (d :: w).all isW = true := by
      apply run_full
      have h0 : 0 < run isL (d :: w) := (run_pos _ _ _).2 hL
      unfold To.word at h2
      rw [if_neg (by omega)] at h2
      exact h2
    have hB : isB d = false := by
      cases hb : isB d with
      | false => rfl
      | true => have := (blank_not d hb).1; rw [hL] at this; cases this
    have h35 : d.toNat ≠ 35 := by
      intro e
      have : d = 35 := UInt8.toNat_inj.1 e
      rw [this] at hL; revert hL; decide
    refine ⟨[⟨1, d :: w, 0⟩], fun e r hr => ?_, rfl⟩
    have hrun : run isW (d :: w ++ r) = (d :: w).length := run_end isW (d :: w) r hW (fun c q e => (hr c q e).1)
    have h0 : 0 < run isL (d :: w ++ r) := (run_pos _ _ _).2 hL
    have hwd : To.word (d :: w ++ r) = w.length + 1 := by
      unfold To.word; rw [if_neg (by omega), hrun]; rfl
    have ht : tok (d :: w ++ r) = (1, w.length + 1) := by unfold tok; rw [hwd, if_pos (by omega)]
    rw [from_tok (e := e) ht (by decide) (sil_head d _ hB h35) (by simp)]
    have t1 : (d :: w ++ r).take (w.length + 1) = d :: w := List.take_left' rfl
    have t2 : (d :: w ++ r).drop (w.length + 1) = r := List.drop_left' rfl
    rw [t1, t2]
    simp [T.on]
theorem LexE.num {s : List UInt8} (h : s.all isD = true) (hn : s ≠ []) : LexE s [s] := by
  cases s with
  | nil => exact absurd rfl hn
  | cons d w =>
    have hD : isD d = true := by simp only [List.all_cons, Bool.and_eq_true] at h; exact h.1
    have hL : isL d = false := by
      cases hh : isL d with
      | false => rfl
      | true => unfold isL at hh; unfold isD at hD; simp at hh hD; omega
    have hB : isB d = false := by
      cases hb : isB d with
      | false => rfl
      | true => have := (blank_not d hb).2.1; rw [hD] at this; cases this
    have h35 : d.toNat ≠ 35 := by
      intro e
      have : d = 35 := UInt8.toNat_inj.1 e
      rw [this] at hD; revert hD; decide
    refine ⟨[⟨2, d :: w, 0⟩], fun e r hr => ?_, rfl⟩
    have hrun : run isD (d :: w ++ r) = (d :: w).length := run_end isD (d :: w) r h (fun c q e => by
      cases hd : isD c with
      | false => rfl
      | true => have := (hr c q e).1; rw [isW_of_isD c hd] at this; cases this)
    have hwd : To.word (d :: w ++ r) = 0 := by unfold To.word; rw [if_pos]; rw [List.cons_append, run_consA, hL]; rfl
    have ht : tok (d :: w ++ r) = (2, w.length + 1) := by
      unfold tok number; rw [hwd, hrun, if_neg (by omega), if_pos (by simp)]; rfl
    rw [from_tok (e := e) ht (by decide) (sil_head d _ hB h35) (by simp)]
    have t1 : (d :: w ++ r).take (w.length + 1) = d :: w := List.take_left' rfl
    have t2 : (d :: w ++ r).drop (w.length + 1) = r := List.drop_left' rfl
    rw [t1, t2]
    simp [T.on]

theorem LexF.blank {c : UInt8} (h : isB c = true) : LexF [c] [] := ⟨[], Piece.blank h, rfl⟩
theorem LexF.sign {c : UInt8} (h : isS c = true) (h2 : c.toNat ≠ 61 ∧ c.toNat ≠ 33 ∧ c.toNat ≠ 60) (h3 : isW c = false) : LexF [c] [[c]] := ⟨_, Piece.sign h h2 h3, rfl⟩
/-- A sign of one byte that may be the first one of two, a blank behind it; a sign of two. -/
theorem LexF.sign1 {c : UInt8} (h : c = 61 ∨ c = 60) : LexF [c, 32] [[c]] := by
  refine ⟨[⟨3, [c], 0⟩], fun e r => ?_, rfl⟩
  have ht : tok (c :: 32 :: r) = (3, 1) := by rcases h with rfl | rfl <;> rfl
  have hs : sil false (c :: 32 :: r) = 0 := by rcases h with rfl | rfl <;> rfl
  show from_ e (c :: 32 :: r) = _
  rw [from_tok (e := e) ht (by decide) hs (by simp)]
  show ahead [_] (from_ (e + 1) ([32] ++ r)) = _
  rw [Piece.blank (c := 32) (by decide)]
  simp [T.on, ahead]
theorem LexF.sign2 {c : UInt8} (h : c = 61 ∨ c = 33 ∨ c = 60) : LexF [c, 61] [[c, 61]] := by
  refine ⟨[⟨3, [c, 61], 0⟩], fun e r => ?_, rfl⟩
  have ht : tok (c :: 61 :: r) = (3, 2) := by rcases h with rfl | rfl | rfl <;> rfl
  have hs : sil false (c :: 61 :: r) = 0 := by rcases h with rfl | rfl | rfl <;> rfl
  show from_ e (c :: 61 :: r) = _
  rw [from_tok (e := e) ht (by decide) hs (by simp)]
  simp [T.on]
theorem LexF.kw {d : UInt8} {w : List UInt8} (hd : isL d = true) (hw : w.all isW = true) : LexF (d :: w ++ [32]) [d :: w] :=
  ⟨_, Piece.word (q := []) hd hw (by decide) (Piece.blank (c := 32) (by decide)), rfl⟩
end Go.To
namespace Go.Nd
open Go.To (LexE LexF Begins)

theorem lex_inx {x : Nd} (h : LexE x.sh x.toks) (r least : Nat) : LexE (inx r least x.sh) (inT r least x.toks) := by
  unfold inx inT
  split
  · have h1 := (h.append (LexF.sign (c := 41) (by decide) (by decide) (by decide)).e (Begins.of (by decide) (by decide)))
    have h2 := (LexF.sign (c := 40) (by decide) (by decide) (by decide)).appendE h1
    simpa [List.append_assoc] using h2
  · exact h
theorem lex_sep : ∀ (l : List Nd), (∀ y ∈ l, LexE y.sh y.toks) → LexE (sepx [44, 32] (l.map Nd.sh)) (sepT (l.map Nd.toks)) := by
  intro l
  induction l with
  | nil => intro _; exact LexF.nil.e
  | cons x l ih =>
    intro h
    cases l with
    | nil => exact h x (by simp)
    | cons y l =>
      have h1 := ih (fun z hz => h z (List.mem_cons_of_mem _ hz))
      have h2 := ((LexF.sign (c := 44) (by decide) (by decide) (by decide)).append (LexF.blank (c := 32) (by decide))).appendE h1
      have h3 := (h x (by simp)).append h2 (Begins.of (by decide) (by decide))
      have e1 : sepx [44, 32] ((x :: y :: l).map Nd.sh) = x.sh ++ ([44] ++ [32] ++ sepx [44, 32] ((y :: l).map Nd.sh)) := by
        show x.sh ++ [44, 32] ++ sepx [44, 32] (y.sh :: l.map Nd.sh) = _; simp [List.append_assoc]
      have e2 : sepT ((x :: y :: l).map Nd.toks) = x.toks ++ ([[44]] ++ [] ++ sepT ((y :: l).map Nd.toks)) := by
        show x.toks ++ [44] :: sepT (y.toks :: l.map Nd.toks) = _; simp
      rw [e1, e2]
      exact h3
theorem nd_sh (x : Nd) : x.sh = shOne x.kind x.text (x.l.items.map Nd.rk) (x.l.items.map Nd.sh) := by rw [← sh_items]; rfl

theorem lex_one (x : Nd) (hx : okx x = true) (ih : ∀ y ∈ x.l.items, okx y = true → LexE y.sh y.toks) : LexE x.sh x.toks := by
  obtain ⟨k, t, l, b, e⟩ := x
  unfold okx at hx
  simp only [Bool.and_eq_true, beq_iff_eq] at hx
  obtain ⟨⟨⟨_, _⟩, hl⟩, hh⟩ := hx
  rw [exprs_items] at hl
  have hl2 := List.all_eq_true.1 hl
  have hg : ∀ y ∈ l.items, LexE y.sh y.toks := fun y hy => ih y hy (hl2 y hy)
  unfold head at hh
  rw [nd_sh, nd_toks]
  simp only
  by_cases k1 : k = 1
  · subst k1
    simp only [if_true, Bool.and_eq_true] at hh
    have hp := hh.2
    unfold plain at hp
    simp only [Bool.and_eq_true] at hp
    exact LexE.num hp.1 (by rintro rfl; exact absurd hp.2 (by decide))
  · rw [if_neg k1] at hh
    by_cases k2 : k = 2
    · subst k2
      simp only [if_true, Bool.and_eq_true] at hh
      exact LexE.name hh.2
    · rw [if_neg k2] at hh
      by_cases k3 : k = 3
      · subst k3
        have h1 := (lex_sep l.items hg).append (LexF.sign (c := 93) (by decide) (by decide) (by decide)).e (Begins.of (by decide) (by decide))
        have h2 := (LexF.sign (c := 91) (by decide) (by decide) (by decide)).appendE h1
        unfold shOne shT
        simpa [List.append_assoc] using h2
      · rw [if_neg k3] at hh
        by_cases k4 : k = 4
        · subst k4
          simp only [if_true] at hh
          have h1 := (lex_sep l.items hg).append (LexF.sign (c := 41) (by decide) (by decide) (by decide)).e (Begins.of (by decide) (by decide))
          have h2 := (LexF.sign (c := 40) (by decide) (by decide) (by decide)).appendE h1
          have h3 := (LexE.name hh).append h2 (Begins.of (by decide) (by decide))
          unfold shOne shT
          simpa [List.append_assoc] using h3
        · rw [if_neg k4] at hh
          by_cases k67 : k = 6 ∨ k = 7
          · rw [if_pos k67] at hh
            simp only [Bool.and_eq_true, beq_iff_eq, List.isEmpty_iff] at hh
            obtain ⟨h1, rfl⟩ := hh
            obtain ⟨a, rfl⟩ := one_of h1
            have ga := lex_inx (hg a (by rw [Ns.items_of]; simp)) a.rk 4
            rw [Ns.items_of]
            rcases k67 with rfl | rfl
            · exact (LexF.sign (c := 45) (by decide) (by decide) (by decide)).appendE ga
            · exact (LexF.kw (d := 110) (w := [111, 116]) (by decide) (by decide)).appendE ga
          · rw [if_neg k67] at hh
            by_cases k5 : k = 5
            · subst k5
              rw [if_pos rfl] at hh
              by_cases ht : t = [94]
              · subst ht
                rw [if_pos rfl] at hh
                obtain ⟨a, b, rfl, hbk⟩ := raised_two hh
                have ga := lex_inx (hg a (by rw [Ns.items_of]; simp)) a.rk 6
                have gb := hg b (by rw [Ns.items_of]; simp)
                have h1 := ga.append ((LexF.sign (c := 94) (by decide) (by decide) (by decide)).appendE gb) (Begins.of (by decide) (by decide))
                rw [Ns.items_of]
                have e1 : shOne 5 [94] ([a, b].map Nd.rk) ([a, b].map Nd.sh) = inx a.rk 6 a.sh ++ ([94] ++ b.sh) := by
                  show inx a.rk 6 a.sh ++ [94] ++ b.sh = _; rw [List.append_assoc]
                rw [e1]
                exact h1
              · rw [if_neg ht] at hh
                simp only [Bool.and_eq_true, beq_iff_eq] at hh
                obtain ⟨h2, hsg⟩ := hh
                obtain ⟨a, b, rfl⟩ := two_of h2
                have ga := lex_inx (hg a (by rw [Ns.items_of]; simp)) a.rk (max (rkx 5 t) 2)
                have gb := lex_inx (hg b (by rw [Ns.items_of]; simp)) b.rk (rkx 5 t + 1)
                have hs : LexF (t ++ [32]) [t] := by
                  simp only [signs, List.contains_iff_mem, List.mem_cons, List.not_mem_nil, or_false] at hsg
                  rcases hsg with rfl | rfl | rfl | rfl | rfl | rfl | rfl | rfl
                  · exact (LexF.sign (c := 43) (by decide) (by decide) (by decide)).append (LexF.blank (c := 32) (by decide))
                  · exact (LexF.sign (c := 45) (by decide) (by decide) (by decide)).append (LexF.blank (c := 32) (by decide))
                  · exact (LexF.sign (c := 42) (by decide) (by decide) (by decide)).append (LexF.blank (c := 32) (by decide))
                  · exact (LexF.sign (c := 47) (by decide) (by decide) (by decide)).append (LexF.blank (c := 32) (by decide))
                  · exact (LexF.sign2 (c := 61) (by decide)).append (LexF.blank (c := 32) (by decide))
                  · exact (LexF.sign2 (c := 33) (by decide)).append (LexF.blank (c := 32) (by decide))
                  · exact LexF.sign1 (c := 60) (by decide)
                  · exact (LexF.sign2 (c := 60) (by decide)).append (LexF.blank (c := 32) (by decide))
                have h1 := ga.append ((LexF.blank (c := 32) (by decide)).appendE (hs.appendE gb)) (Begins.of (by decide) (by decide))
                rw [Ns.items_of]
                have e1 : shOne 5 t ([a, b].map Nd.rk) ([a, b].map Nd.sh) = inx a.rk (max (rkx 5 t) 2) a.sh ++ ([32] ++ (t ++ [32] ++ inx b.rk (rkx 5 t + 1) b.sh)) := by
                  unfold shOne
                  simp only [Nat.reduceEqDiff, if_false, if_true]
                  rw [if_neg ht]
                  show inx a.rk (max (rkx 5 t) 2) a.sh ++ [32] ++ t ++ [32] ++ inx b.rk (rkx 5 t + 1) b.sh = _
                  simp only [List.append_assoc]
                have e2 : shT 5 t ([a, b].map Nd.rk) ([a, b].map Nd.toks) = inT a.rk (max (rkx 5 t) 2) a.toks ++ ([] ++ ([t] ++ inT b.rk (rkx 5 t + 1) b.toks)) := by
                  unfold shT
                  simp only [Nat.reduceEqDiff, if_false, if_true]
                  rw [if_neg ht]
                  rfl
                rw [e1, e2]
                exact h1
            · rw [if_neg k5] at hh; cases hh
theorem lex_all : ∀ xs : Ns, ∀ x ∈ xs.items, okx x = true → LexE x.sh x.toks := by
  intro xs
  induction xs with
  | nil => intro x hx; cases hx
  | cons k t l b e r il _ _ ir =>
    intro x hx ho
    rcases List.mem_cons.1 hx with rfl | hx
    · exact lex_one _ ho il
    · exact ir x hx ho
theorem lex_x (x : Nd) (h : okx x = true) : LexE x.sh x.toks := lex_all (Ns.of [x]) x (by rw [Ns.items_of]; simp) h
end Go.Nd

/- Programs as they are written, plainly: WHAT IS WRITTEN IS PARSED AS THE PROGRAM. No program in sight. -/
namespace Go.Nd
open Go.To (LexE LexF Begins)

theorem lex_tabs (d : Nat) : LexF (tabs d) [] := by
  unfold tabs
  induction d with
  | zero => exact LexF.nil
  | succ d ih => exact (LexF.blank (c := 9) (by decide)).append ih
theorem lex_open : LexF [32, 123, 10] [[123]] := (LexF.blank (c := 32) (by decide)).append ((LexF.sign (c := 123) (by decide) (by decide) (by decide)).append (LexF.blank (c := 10) (by decide)))
theorem lex_shut : LexF [125, 10] [[125]] := (LexF.sign (c := 125) (by decide) (by decide) (by decide)).append (LexF.blank (c := 10) (by decide))
theorem lex_semi : LexF [59, 10] [[59]] := (LexF.sign (c := 59) (by decide) (by decide) (by decide)).append (LexF.blank (c := 10) (by decide))
theorem lex_else : LexF [125, 32, 101, 108, 115, 101, 32, 123, 10] [[125], [101, 108, 115, 101], [123]] :=
  (LexF.sign (c := 125) (by decide) (by decide) (by decide)).append ((LexF.blank (c := 32) (by decide)).append ((LexF.kw (d := 101) (w := [108, 115, 101]) (by decide) (by decide)).append ((LexF.sign (c := 123) (by decide) (by decide) (by decide)).append (LexF.blank (c := 10) (by decide)))))
theorem begins_open (q : Tx) : Begins ([32, 123, 10] ++ q) := Begins.of (by decide) (by decide)
theorem begins_semi (q : Tx) : Begins ([59, 10] ++ q) := Begins.of (by decide) (by decide)

theorem sh_of_one (x : Nd) : (Ns.of [x]).sh.getD 0 [] = x.sh := by rw [sh_items, Ns.items_of]; rfl
theorem lex_line {inner : Bool} {k : Nat} {t : Tx} {l b e : Ns} (h : oks inner ⟨k, t, l, b, e⟩ = true) (d : Nat) {lb le : Tx} {tb te : List Tx} (hb : LexF lb tb) (he : LexF le te) (els : Bool) :
    LexF (lineOf k t (l.sh.getD 0 []) d lb le els) (lineT k t (l.toks.getD 0 []) tb te els) := by
  have h0 := h
  obtain ⟨x, rfl, gx, h3, h4, h5⟩ := oks_one h
  have hx : okx x = true := by
    unfold oks at h0
    simp only [Bool.and_eq_true] at h0
    have := h0.1.1.1.2
    rw [exprs_items, Ns.items_of] at this
    simpa using this
  have lx := lex_x x hx
  rw [toks_one, sh_of_one]
  unfold lineOf lineT
  by_cases k9 : k = 9
  · subst k9
    simp only [if_true]
    have hels : LexF (if els = true then [125, 32, 101, 108, 115, 101, 32, 123, 10] ++ le ++ tabs d else []) (if els = true then [125] :: [101, 108, 115, 101] :: [123] :: te else []) := by
      cases els with
      | true => simpa using (lex_else.append he).append (lex_tabs d)
      | false => exact LexF.nil
    have h1 := (lex_open.append (hb.append ((lex_tabs d).append (hels.append lex_shut))))
    have h2 := lx.appendF h1 (begins_open _)
    have h3 := (lex_tabs d).append ((LexF.kw (d := 105) (w := [102]) (by decide) (by decide)).append h2)
    cases els with
    | true => simpa [List.append_assoc] using h3
    | false => simpa [List.append_assoc] using h3
  · rw [if_neg k9, if_neg k9]
    by_cases k10 : k = 10
    · subst k10
      simp only [if_true]
      have h1 := (lex_open.append (hb.append ((lex_tabs d).append lex_shut)))
      have h2 := lx.appendF h1 (begins_open _)
      have h3 := (lex_tabs d).append ((LexF.kw (d := 119) (w := [104, 105, 108, 101]) (by decide) (by decide)).append h2)
      simpa [List.append_assoc] using h3
    · rw [if_neg k10, if_neg k10]
      have h2 := lx.appendF lex_semi (begins_semi [])
      have ha : LexF (aheadOf k t ++ (x.sh ++ [59, 10])) ((if k = 8 then [t, [61]] else if k = 11 then [[114, 101, 116, 117, 114, 110]] else if k = 12 then [[116, 101, 108, 108]] else []) ++ (x.toks ++ [[59]])) := by
        unfold aheadOf
        by_cases k8 : k = 8
        · rw [if_pos k8, if_pos k8]
          have hn : To.name t = true := by
            subst k8
            unfold form at h5
            simp only [Nat.reduceEqDiff, if_false, if_true, Bool.and_eq_true] at h5
            exact h5.2
          have h3 : LexF (t ++ [32, 61, 32]) ([t] ++ ([] ++ [[61]])) := (LexE.name hn).appendF ((LexF.blank (c := 32) (by decide)).append (LexF.sign1 (c := 61) (by decide))) (Begins.of (by decide) (by decide))
          exact h3.append h2
        · rw [if_neg k8, if_neg k8]
          by_cases k11 : k = 11
          · rw [if_pos k11, if_pos k11]
            exact (LexF.kw (d := 114) (w := [101, 116, 117, 114, 110]) (by decide) (by decide)).append h2
          · rw [if_neg k11, if_neg k11]
            by_cases k12 : k = 12
            · rw [if_pos k12, if_pos k12]
              exact (LexF.kw (d := 116) (w := [101, 108, 108]) (by decide) (by decide)).append h2
            · rw [if_neg k12, if_neg k12]
              exact h2
      have h3 := (lex_tabs d).append ha
      simpa [List.append_assoc] using h3
theorem lex_lines : ∀ (xs : Ns) (inner : Bool) (d : Nat), stmts inner xs = true → LexF (xs.lines d) xs.ltoks := by
  intro xs
  induction xs with
  | nil => intro _ _ _; exact LexF.nil
  | cons k t l b e rest _ ib ie ir =>
    intro inner d h
    rw [stmts_items] at h
    have ho : oks inner ⟨k, t, l, b, e⟩ = true := List.all_eq_true.1 h _ (List.mem_cons_self ..)
    have hrest : stmts inner rest = true := by
      have : (oks inner ⟨k, t, l, b, e⟩ && rest.items.all (oks inner)) = true := h
      rw [stmts_items]; simp only [Bool.and_eq_true] at this; exact this.2
    obtain ⟨_, _, _, hb, he, _⟩ := oks_one ho
    exact (lex_line ho d (ib inner (d + 1) hb) (ie inner (d + 1) he) (e.len != 0)).append (ir inner d hrest)
theorem lex_args : ∀ (l : List Tx), (∀ y ∈ l, To.name y = true) → LexE (sepx [44, 32] l) (sepT (l.map fun a => [a])) := by
  intro l
  induction l with
  | nil => intro _; exact LexF.nil.e
  | cons x l ih =>
    intro h
    cases l with
    | nil => exact LexE.name (h x (by simp))
    | cons y l =>
      have h1 := ih (fun z hz => h z (List.mem_cons_of_mem _ hz))
      have h2 := ((LexF.sign (c := 44) (by decide) (by decide) (by decide)).append (LexF.blank (c := 32) (by decide))).appendE h1
      have h3 := (LexE.name (h x (by simp))).append h2 (Begins.of (by decide) (by decide))
      have e1 : sepx [44, 32] (x :: y :: l) = x ++ ([44] ++ [32] ++ sepx [44, 32] (y :: l)) := by
        show x ++ [44, 32] ++ sepx [44, 32] (y :: l) = _; simp [List.append_assoc]
      have e2 : sepT ((x :: y :: l).map fun a => [a]) = [x] ++ ([[44]] ++ [] ++ sepT ((y :: l).map fun a => [a])) := rfl
      rw [e1, e2]
      exact h3
theorem lex_fn (f : Fn) (h : okf f = true) : LexF (fnText f) (fnToks f) := by
  unfold okf at h
  simp only [Bool.and_eq_true] at h
  obtain ⟨⟨hn, ha⟩, hb⟩ := h
  have h1 := lex_open.append ((lex_lines f.body true 1 hb).append lex_shut)
  have h2 := (LexF.sign (c := 41) (by decide) (by decide) (by decide)).append h1
  have h3 := (lex_args f.args (fun y hy => List.all_eq_true.1 ha y hy)).appendF h2 (Begins.of (by decide) (by decide))
  have h4 := (LexF.sign (c := 40) (by decide) (by decide) (by decide)).append h3
  have h5 := (LexE.name hn).appendF h4 (Begins.of (by decide) (by decide))
  have h6 := (LexF.kw (d := 102) (w := [110]) (by decide) (by decide)).append h5
  unfold fnText fnToks
  simpa [List.append_assoc] using h6
theorem lex_fns : ∀ (fs : List Fn), (∀ f ∈ fs, okf f = true) → LexF (fs.map fnText).flatten (fs.map fnToks).flatten := by
  intro fs
  induction fs with
  | nil => intro _; exact LexF.nil
  | cons f fs ih =>
    intro h
    exact (lex_fn f (h f (by simp))).append (ih fun g hg => h g (List.mem_cons_of_mem _ hg))
theorem check_parts {wrap : Int → Int} {p : Pr} (h : check wrap p = true) : (∀ f ∈ p.funcs, okf f = true) ∧ stmts false p.body = true ∧ (great wrap p.body || p.funcs.any (fun f => great wrap f.body)) = false := by
  unfold check at h
  simp only [Bool.and_eq_true, Bool.not_eq_true'] at h
  obtain ⟨⟨h1, h2⟩, h3⟩ := h
  refine ⟨fun f hf => ?_, h2, h3⟩
  have := List.all_eq_true.1 h1 f hf
  unfold okf; simpa using this
theorem lex_prog {wrap : Int → Int} {p : Pr} (h : check wrap p = true) : LexF (progText p) (progToks p) := by
  obtain ⟨h1, h2, _⟩ := check_parts h
  exact (lex_fns p.funcs h1).append (lex_lines p.body false 0 h2)
theorem LexF.texts {p : Tx} {ts : List Tx} (h : LexF p ts) (hl : p.length ≤ 65536) : (To.read p).2.2 = 0 ∧ (To.read p).1.map (·.text) = ts := by
  obtain ⟨xs, h1, h2⟩ := h
  exact h1.texts hl h2
/-- WHAT IS WRITTEN IS PARSED AS THE PROGRAM. -/
theorem parse_shown {wrap : Int → Int} {p : Pr} (h : check wrap p = true) (hl : (progText p).length ≤ 65536) : parse wrap (progText p) = (p, 0, 0) := by
  obtain ⟨h1, h2⟩ := LexF.texts (lex_prog h) hl
  rw [parse_ok wrap _ h1 (by rw [h2]; exact prog_toks h), (check_parts h).2.2]
  rfl
end Go.Nd
