/- Trees: may a program be: the package's own Check. -/
import Derived.Test.YtiefpffccmdcoaaDoorNdArgFT
namespace Go.My
open Go.Nd
def bodiesOf (p : Pr) : List Ns := p.body :: p.funcs.map (·.body)
def greatP (wrap : Int → Int) (p : Pr) : Bool := (bodiesOf p).any (Nd.great wrap)
def fnOne (f : Nd.Fn) : Bool := To.name f.name && f.args.all To.name && stmts true f.body
theorem check_is (wrap : Int → Int) (p : Pr) : check wrap p = (p.funcs.all fnOne && stmts false p.body && !greatP wrap p) := by
  unfold check greatP bodiesOf
  rw [List.any_cons, List.any_map]; rfl
theorem not_names (l : List (List UInt8)) : l.any (fun x => !To.name x) = !l.all To.name := by
  induction l with
  | nil => rfl
  | cons x l ih => rw [List.any_cons, List.all_cons, ih]; cases To.name x <;> rfl
end Go.My
namespace Go.Proofs.YtiefpffccmdcoaaDoor
open Go.RowKit Go.My Go.Nd

/-- A function of a list of nodes, asked at any later world. -/
def AskedN (tw : Bool) (B : Nat) (fn : FuncId) (p : Ns → Bool) (x : Ns) : Prop :=
  ∀ (w' : World) (v : Value), B ≤ w'.heap.size → Nodes w' (· < B) tw v x → Calls Tryd.prog fn #[v] w' fun e w'' => e = .returned (.bool (p x)) ∧ Below w'.heap.size w' w''

theorem great1_one (tw : Bool) (B : Nat) (x : Ns) : AskedN tw B 51 (Nd.great wrapI) x := by
  intro w v hB hv
  have HD := Lib.hid (deep_said tw x w B v hB hv)
  have HL := Lib.hid (fun w1 (hb : Below w.heap.size w w1) => long_said tw x w1 B v (Nat.le_trans hB hb.size) (hv.below (hb.mono hB)))
  have hn := deep_nonneg wrapI x
  have hm := deep_le wrapI 9223372036854775807 (by decide) (fun x => by unfold wrapI; rw [IntKind.wrap_i64]; omega) x
  obtain ⟨a, c, rfl, _⟩ := hv
  obtain ⟨d, hd⟩ : ∃ d, d = deep wrapI x := ⟨_, rfl⟩
  rw [← hd] at HD hn hm
  have HDD := Lib.hid hd
  clear hd
  go_enter Tryd.func51, Tryd.ntmps51
  go_wp2_with fail
  refine HD.out.mono ?_
  rintro e w1 ⟨rfl, hb⟩
  have K := Lib.hid hb
  clear hb
  by_cases hg : 64 < d
  · have HG := Lib.hid (show Nd.great wrapI x = true by unfold Nd.great; rw [← HDD.out]; simp [hg])
    go_wp2_with fail
    go_ret
    exact ⟨by rw [HG.out]; rfl, K.out⟩
  · have hg1 : d ≤ 64 := by omega
    have HG := Lib.hid (show Nd.great wrapI x = (decide (64 < d) || long x) by unfold Nd.great; rw [← HDD.out])
    clear hg
    go_wp2_with fail
    refine (HL.out w1 K.out).mono ?_
    rintro e w2 ⟨rfl, hb⟩
    have K2 := Lib.hid (K.out.trans (hb.mono K.out.size))
    clear hb
    go_wp2_with fail
    go_ret
    exact ⟨by rw [HG.out]; rfl, K2.out⟩

def IndexNAt (w : World) (xs : List Ns) (p : Ns → Bool) (gk : Nat) (v8 : Value) (wr : World) : Prop :=
  ∃ i : Nat, i ≤ xs.length ∧ gk = xs.length - i ∧ v8 = .int .i64 (i : Int) ∧ (xs.drop i).any p = xs.any p ∧ Below w.heap.size w wr

/-- v reads as these lists of nodes: the row itself anywhere, the nodes below B. -/
def ListsOf (w : World) (B : Nat) (tw : Bool) (v : Value) (xs : List Ns) : Prop :=
  ∃ vs, RowIn w (fun b => b < w.heap.size) v vs ∧ vs.length = xs.length ∧ ∀ j (h : j < vs.length) (h' : j < xs.length), Nodes w (· < B) tw vs[j] xs[j]

set_option maxRecDepth 100000 in
set_option maxHeartbeats 4000000 in
theorem indexN_said {tw : Bool} {xs : List Ns} {fn : Nat} {p : Ns → Bool} {w : World} {B : Nat} {v : Value} (hB : B ≤ w.heap.size) (hv : ListsOf w B tw v xs) (hx : xs.length ≤ 140737488351232) (hf : ∀ x ∈ xs, AskedN tw B fn p x) (hcf : ∀ (args : Array Value) (wx : World), (callFunc fn args).run Tryd.prog wx = .ok (.enter fn args) wx) :
    Calls Tryd.prog 79 #[v, .func (.func fn) #[] #[]] w (IndexSaid w (xs.any p)) := by
  obtain ⟨vs, ⟨a, c, rfl, hc1, hc2, _, hcell⟩, hlen, hn⟩ := hv
  rw [hlen]
  have HF := Lib.hid hf
  have HN := Lib.hid hn
  have HC := Lib.hid hcell
  have HL := Lib.hid hlen
  have l0 : (0 : Int) ≤ (xs.length : Int) := by omega
  have l1 : (xs.length : Int) ≤ 140737488351232 := by omega
  clear hn hcell hlen hf hc1 hc2
  go_enter Tryd.func79, Tryd.ntmps79
  go_wp2_with fail
  go_loopg [8] xs.length (fun gk v8 wr => IndexNAt w xs p gk v8 wr)
  case atStart => exact ⟨0, Nat.zero_le _, rfl, rfl, rfl, Below.refl _ _⟩
  case round =>
    obtain ⟨i, hi, rfl, rfl, hd, hb⟩ := hrel
    have i0 : (0 : Int) ≤ (i : Int) := by omega
    by_cases hlt : i < xs.length
    · have i1 : (i : Int) < (xs.length : Int) := by omega
      have hiv : i < vs.length := by rw [HL.out]; exact hlt
      obtain ⟨b, off, rfl, hS, hcc⟩ := HC.out (by intro e; rw [e] at hiv; exact absurd hiv (Nat.not_lt_zero _))
      have d0 := (World.cell?_of_block (hb.block b hS)).trans (hcc i vs[i] (by rw [List.getElem?_eq_getElem hiv]))
      have hnx := (HN.out i hiv hlt).below (hb.mono hB)
      obtain ⟨y, hy⟩ : ∃ y, y = vs[i] := ⟨_, rfl⟩
      rw [← hy] at d0 hnx
      obtain ⟨x, hx⟩ : ∃ x, x = xs[i] := ⟨_, rfl⟩
      rw [← hx] at hnx
      have hA := HF.out _ (List.getElem_mem hlt)
      rw [← hx] at hA
      have hdr := List.drop_eq_getElem_cons hlt
      rw [← hx] at hdr
      have Y := Lib.hid (And.intro hb (And.intro hd (And.intro hdr (hA wr y (Nat.le_trans hB hb.size) hnx))))
      obtain ⟨ya, yc, rfl, _⟩ := hnx
      clear hb hd hx hdr hA hS hy hcc hiv
      go_wp2_with fail
      refine Y.out.2.2.2.mono ?_
      rintro e w' ⟨rfl, hk⟩
      have K := Lib.hid (Y.out.1.trans (hk.mono Y.out.1.size))
      clear hk
      cases hp : p x with
      | true =>
        have HP := Lib.hid hp
        clear hp
        go_wp2_with fail
        go_ret
        refine ⟨(i : Int), rfl, ?_, K.out⟩
        have hd := Y.out.2.1
        rw [Y.out.2.2.1, List.any_cons, HP.out] at hd
        rw [← hd]; simp
      | false =>
        have HP := Lib.hid hp
        clear hp
        go_wp2_with fail
        go_roundg (xs.length - (i + 1))
        case measure => omega
        case rel =>
          refine ⟨i + 1, hlt, rfl, by go_num, ?_, K.out⟩
          have hd := Y.out.2.1
          rw [Y.out.2.2.1, List.any_cons, HP.out, Bool.false_or] at hd
          exact hd
    · obtain rfl : i = xs.length := by omega
      clear hlt
      go_wp2_with fail
      go_ret
      exact ⟨-1, rfl, by rw [← hd, List.drop_length]; rfl, hb⟩

set_option maxRecDepth 100000 in
set_option maxHeartbeats 4000000 in
theorem containsN_said {tw : Bool} {xs : List Ns} {fn : Nat} {p : Ns → Bool} {w : World} {B : Nat} {v : Value} (hB : B ≤ w.heap.size) (hv : ListsOf w B tw v xs) (hx : xs.length ≤ 140737488351232) (hf : ∀ x ∈ xs, AskedN tw B fn p x) (hcf : ∀ (args : Array Value) (wx : World), (callFunc fn args).run Tryd.prog wx = .ok (.enter fn args) wx) :
    Calls Tryd.prog 49 #[v, .func (.func fn) #[] #[]] w fun e w' => e = .returned (.bool (xs.any p)) ∧ Below w.heap.size w w' := by
  have H := Lib.hid (indexN_said hB hv hx hf hcf)
  clear hv hf hcf
  go_enter Tryd.func49, Tryd.ntmps49
  go_wp2_with fail
  refine H.out.mono ?_
  rintro e w' ⟨n, rfl, hn, hb⟩
  have K := Lib.hid (And.intro hn hb)
  clear hn hb
  go_wp2_with fail
  go_ret
  refine ⟨?_, K.out.2⟩
  rw [← K.out.1]; rfl
end Go.Proofs.YtiefpffccmdcoaaDoor
