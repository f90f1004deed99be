/- Trees: is one of several texts none; is one of several lists too much; the bodies of a program. -/
import Derived.Test.YtiefpffccmdcoaaDoorNdRStmtT
import Derived.Test.YtiefpffccmdcoaaDoorTrB3
namespace Go.Proofs.YtiefpffccmdcoaaDoor
open Go.RowKit Go.My Go.Nd

/-- A function of a text, asked at any later world. -/
def AskedT (B : Nat) (fn : FuncId) (p : List UInt8 → Bool) (x : List UInt8) : Prop :=
  ∀ (w' : World), B ≤ w'.heap.size → x.length ≤ 140737488351232 → Calls Tryd.prog fn #[.string (bs x)] w' fun e w'' => e = .returned (.bool (p x)) ∧ Below w'.heap.size w' w''

def IndexTAt (w : World) (xs : List (List UInt8)) (p : List UInt8 → Bool) (gk : Nat) (v8 : Value) (wr : World) : Prop :=
  ∃ i : Nat, i ≤ xs.length ∧ gk = xs.length - i ∧ v8 = .int .i64 (i : Int) ∧ (xs.drop i).any p = xs.any p ∧ Below w.heap.size w wr

set_option maxRecDepth 100000 in
set_option maxHeartbeats 4000000 in
theorem indexT_said {tw : Bool} {xs : List (List UInt8)} {fn : Nat} {p : List UInt8 → Bool} {w : World} {B : Nat} {v : Value} (hB : B ≤ w.heap.size) (hv : TextsIn w (· < B) tw v xs) (hf : ∀ x ∈ xs, AskedT B fn p x) (hcf : ∀ (args : Array Value) (wx : World), (callFunc fn args).run Tryd.prog wx = .ok (.enter fn args) wx) :
    Calls Tryd.prog 47 #[v, .func (.func fn) #[] #[]] w (IndexSaid w (xs.any p)) := by
  obtain ⟨a, c, rfl, _, _, hr, _, hc⟩ := hv
  have HF := Lib.hid hf
  have HC := Lib.hid hc
  have l0 : (0 : Int) ≤ (xs.length : Int) := by omega
  have l1 : (xs.length : Int) ≤ 140737488351232 := by omega
  clear hc hr hf
  go_enter Tryd.func47, Tryd.ntmps47
  go_wp2_with fail
  go_loopg [8] xs.length (fun gk v8 wr => IndexTAt w xs p gk v8 wr)
  case atStart => exact ⟨0, Nat.zero_le _, rfl, rfl, rfl, Below.refl _ _⟩
  case round =>
    obtain ⟨i, hi, rfl, rfl, hd, hb⟩ := hrel
    have i0 : (0 : Int) ≤ (i : Int) := by omega
    by_cases hlt : i < xs.length
    · have i1 : (i : Int) < (xs.length : Int) := by omega
      obtain ⟨b, off, rfl, hS, hN, hl⟩ := HC.out i hlt
      have d0 := (World.cell?_of_block (hb.block b (Nat.lt_of_lt_of_le hS hB))).trans hN
      obtain ⟨x, hx⟩ : ∃ x, x = xs[i] := ⟨_, rfl⟩
      rw [← hx] at d0 hl
      have etx : tx x = bs x := rfl
      rw [etx] at d0
      have hA := HF.out _ (List.getElem_mem hlt)
      rw [← hx] at hA
      have hdr := List.drop_eq_getElem_cons hlt
      rw [← hx] at hdr
      have Y := Lib.hid (And.intro hb (And.intro hd (And.intro hdr (hA wr (Nat.le_trans hB hb.size) hl))))
      clear hN hb hd hx hdr hA hS hl etx
      go_wp2_with fail
      refine Y.out.2.2.2.mono ?_
      rintro e w' ⟨rfl, hk⟩
      have K := Lib.hid (Y.out.1.trans (hk.mono Y.out.1.size))
      clear hk
      cases hp : p x with
      | true =>
        have HP := Lib.hid hp
        clear hp
        go_wp2_with fail
        go_ret
        refine ⟨(i : Int), rfl, ?_, K.out⟩
        have hd := Y.out.2.1
        rw [Y.out.2.2.1, List.any_cons, HP.out] at hd
        rw [← hd]; simp
      | false =>
        have HP := Lib.hid hp
        clear hp
        go_wp2_with fail
        go_roundg (xs.length - (i + 1))
        case measure => omega
        case rel =>
          refine ⟨i + 1, hlt, rfl, by go_num, ?_, K.out⟩
          have hd := Y.out.2.1
          rw [Y.out.2.2.1, List.any_cons, HP.out, Bool.false_or] at hd
          exact hd
    · obtain rfl : i = xs.length := by omega
      clear hlt
      go_wp2_with fail
      go_ret
      exact ⟨-1, rfl, by rw [← hd, List.drop_length]; rfl, hb⟩

set_option maxRecDepth 100000 in
set_option maxHeartbeats 4000000 in
theorem containsT_said {tw : Bool} {xs : List (List UInt8)} {fn : Nat} {p : List UInt8 → Bool} {w : World} {B : Nat} {v : Value} (hB : B ≤ w.heap.size) (hv : TextsIn w (· < B) tw v xs) (hf : ∀ x ∈ xs, AskedT B fn p x) (hcf : ∀ (args : Array Value) (wx : World), (callFunc fn args).run Tryd.prog wx = .ok (.enter fn args) wx) :
    Calls Tryd.prog 25 #[v, .func (.func fn) #[] #[]] w fun e w' => e = .returned (.bool (xs.any p)) ∧ Below w.heap.size w w' := by
  have H := Lib.hid (indexT_said hB hv hf hcf)
  clear hv hf hcf
  go_enter Tryd.func25, Tryd.ntmps25
  go_wp2_with fail
  refine H.out.mono ?_
  rintro e w' ⟨n, rfl, hn, hb⟩
  have K := Lib.hid (And.intro hn hb)
  clear hn hb
  go_wp2_with fail
  go_ret
  refine ⟨?_, K.out.2⟩
  rw [← K.out.1]; rfl

theorem check1_one {B : Nat} (x : List UInt8) : AskedT B 26 (fun x => !To.name x) x := by
  intro w hB hx
  go_enter Tryd.func26, Tryd.ntmps26
  go_wp2_with fail
  refine name_t x (by omega) fun w1 hb => ?_
  have K := Lib.hid hb
  clear hb
  cases hp : To.name x with
  | true =>
    have HP := Lib.hid hp
    clear hp
    go_wp2_with fail
    go_ret
    exact ⟨by simp [HP.out], K.out⟩
  | false =>
    have HP := Lib.hid hp
    clear hp
    go_wp2_with fail
    go_ret
    exact ⟨by simp [HP.out], K.out⟩
end Go.Proofs.YtiefpffccmdcoaaDoor
