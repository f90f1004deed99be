/- Trees: is there one of a list of nodes for which a function says yes; is a number too long. -/
import Derived.Test.YtiefpffccmdcoaaDoorNdDeepT
namespace Go.Proofs.YtiefpffccmdcoaaDoor
open Go.RowKit Go.My Go.Nd

/-- A function of a node, asked at any later world. -/
def Asked (tw : Bool) (B : Nat) (fn : FuncId) (p : Nd → Bool) (x : Nd) : Prop :=
  ∀ (w' : World) (a1 a2 a3 : Option Addr) (c1 c2 c3 : Nat), B ≤ w'.heap.size → Nodes w' (· < B) tw (.slice a1 x.l.len c1) x.l → Nodes w' (· < B) tw (.slice a2 x.body.len c2) x.body → Nodes w' (· < B) tw (.slice a3 x.els.len c3) x.els → x.kind < 256 → x.text.length ≤ 140737488351232 →
    Calls Tryd.prog fn #[.agg #[.int .u8 (x.kind : Int), .string (tx x.text), .slice a1 x.l.len c1, .slice a2 x.body.len c2, .slice a3 x.els.len c3]] w' fun e w'' => e = .returned (.bool (p x)) ∧ Below w'.heap.size w' w''

def IndexSaid (w : World) (b : Bool) (e : Ending) (w' : World) : Prop := ∃ n : Int, e = .returned (.int .i64 n) ∧ (decide (0 ≤ n)) = b ∧ Below w.heap.size w w'

def IndexAt (w : World) (xs : Ns) (p : Nd → Bool) (gk : Nat) (v8 : Value) (wr : World) : Prop :=
  ∃ i : Nat, i ≤ xs.items.length ∧ gk = xs.items.length - i ∧ v8 = .int .i64 (i : Int) ∧ (xs.items.drop i).any p = xs.items.any p ∧ Below w.heap.size w wr

set_option maxRecDepth 100000 in
set_option maxHeartbeats 4000000 in
theorem index_said {tw : Bool} {xs : Ns} {fn : Nat} {p : Nd → Bool} {w : World} {B : Nat} {v : Value} (hB : B ≤ w.heap.size) (hv : Nodes w (· < B) tw v xs) (hf : ∀ x ∈ xs.items, Asked tw B fn p x) (hcf : ∀ (args : Array Value) (wx : World), (callFunc fn args).run Tryd.prog wx = .ok (.enter fn args) wx) :
    Calls Tryd.prog 100 #[v, .func (.func fn) #[] #[]] w (IndexSaid w (xs.items.any p)) := by
  obtain ⟨a, c, rfl, hr, hc⟩ := hv.open_
  have HF := Lib.hid hf
  have HC := Lib.hid hc
  have l0 : (0 : Int) ≤ (xs.items.length : Int) := by omega
  have l1 : (xs.items.length : Int) ≤ 140737488351232 := by have := hr.2.2.1; omega
  clear hv hc hr hf
  go_enter Tryd.func100, Tryd.ntmps100
  go_wp2_with fail
  go_loopg [8] xs.items.length (fun gk v8 wr => IndexAt w xs p gk v8 wr)
  case atStart => exact ⟨0, Nat.zero_le _, rfl, rfl, rfl, Below.refl _ _⟩
  case round =>
    obtain ⟨i, hi, rfl, rfl, hd, hb⟩ := hrel
    have i0 : (0 : Int) ≤ (i : Int) := by omega
    by_cases hlt : i < xs.items.length
    · have i1 : (i : Int) < (xs.items.length : Int) := by omega
      obtain ⟨b, off, v1, v2, v3, rfl, hS, hN⟩ := HC.out i hlt
      have hN' := hN.frame hS fun k hk _ => hb.block k (Nat.lt_of_lt_of_le hk hB)
      obtain ⟨x, hx⟩ : ∃ x, x = xs.items[i] := ⟨_, rfl⟩
      rw [← hx] at hN'
      have hA := HF.out _ (List.getElem_mem hlt)
      rw [← hx] at hA
      have hdr := items_cons_drop xs i hlt
      rw [← hx] at hdr
      obtain ⟨kd, tt, xl, xb, xe⟩ := x
      have d0 := hN'.d0
      have d1 := hN'.d1
      have d2 := hN'.d2
      have d3 := hN'.d3
      have d4 := hN'.d4
      obtain ⟨a1, c1, rfl, s1, m1⟩ := hN'.l
      obtain ⟨a2, c2, rfl, s2, m2⟩ := hN'.body
      obtain ⟨a3, c3, rfl, s3, m3⟩ := hN'.els
      simp only at d0 d1 d2 d3 d4
      have Y := Lib.hid (And.intro hb (And.intro hd (And.intro hdr (hA wr a1 a2 a3 c1 c2 c3 (Nat.le_trans hB hb.size) ⟨a1, c1, rfl, s1, m1⟩ ⟨a2, c2, rfl, s2, m2⟩ ⟨a3, c3, rfl, s3, m3⟩ hN'.kind hN'.text))))
      clear hN hN' s1 s2 s3 m1 m2 m3 hb hd hx hdr hA hS
      go_wp2_with fail
      refine Y.out.2.2.2.mono ?_
      rintro e w' ⟨rfl, hk⟩
      have K := Lib.hid (Y.out.1.trans (hk.mono Y.out.1.size))
      clear hk
      cases hp : p ⟨kd, tt, xl, xb, xe⟩ with
      | true =>
        have HP := Lib.hid hp
        clear hp
        go_wp2_with fail
        go_ret
        refine ⟨(i : Int), rfl, ?_, K.out⟩
        have hd := Y.out.2.1
        rw [Y.out.2.2.1, List.any_cons, HP.out] at hd
        rw [← hd]; simp
      | false =>
        have HP := Lib.hid hp
        clear hp
        go_wp2_with fail
        go_roundg (xs.items.length - (i + 1))
        case measure => omega
        case rel =>
          refine ⟨i + 1, hlt, rfl, by go_num, ?_, K.out⟩
          have hd := Y.out.2.1
          rw [Y.out.2.2.1, List.any_cons, HP.out, Bool.false_or] at hd
          exact hd
    · obtain rfl : i = xs.items.length := by omega
      clear hlt
      go_wp2_with fail
      go_ret
      exact ⟨-1, rfl, by rw [← hd, List.drop_length]; rfl, hb⟩

set_option maxRecDepth 100000 in
set_option maxHeartbeats 4000000 in
theorem contains_said {tw : Bool} {xs : Ns} {fn : Nat} {p : Nd → Bool} {w : World} {B : Nat} {v : Value} (hB : B ≤ w.heap.size) (hv : Nodes w (· < B) tw v xs) (hf : ∀ x ∈ xs.items, Asked tw B fn p x) (hcf : ∀ (args : Array Value) (wx : World), (callFunc fn args).run Tryd.prog wx = .ok (.enter fn args) wx) :
    Calls Tryd.prog 76 #[v, .func (.func fn) #[] #[]] w fun e w' => e = .returned (.bool (xs.items.any p)) ∧ Below w.heap.size w w' := by
  have H := Lib.hid (index_said hB hv hf hcf)
  clear hv hf hcf
  go_enter Tryd.func76, Tryd.ntmps76
  go_wp2_with fail
  refine H.out.mono ?_
  rintro e w' ⟨n, rfl, hn, hb⟩
  have K := Lib.hid (And.intro hn hb)
  clear hn hb
  go_wp2_with fail
  go_ret
  refine ⟨?_, K.out.2⟩
  rw [← K.out.1]; rfl
end Go.Proofs.YtiefpffccmdcoaaDoor
