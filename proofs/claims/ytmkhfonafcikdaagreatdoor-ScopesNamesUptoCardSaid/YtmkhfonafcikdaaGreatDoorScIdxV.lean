/- Scopes: is one of several texts, or functions, such; the function that is asked may change what it holds. -/
import Derived.Test.YtmkhfonafcikdaaGreatDoorScHeadV
import Derived.Test.YtmkhfonafcikdaaGreatDoorTrC2
namespace Go.Proofs.YtmkhfonafcikdaaGreatDoor
open Go.RowKit Go.My Go.Nd

/-- A function, asked of the i-th: true: Jx; false: J of the next one. -/
def AsksJ (J : Nat → World → Tags → Prop) (Jx : World → Tags → Prop) (i : Nat) (e : Ending) (w' : World) : Prop :=
  (e = .returned (.bool true) ∧ ∃ g', Jx w' g') ∨ (e = .returned (.bool false) ∧ ∃ g', J (i + 1) w' g')
def IdxOut (n : Nat) (J : Nat → World → Tags → Prop) (Jx : World → Tags → Prop) (e : Ending) (w' : World) : Prop :=
  (∃ i : Nat, e = .returned (.int .i64 (i : Int)) ∧ ∃ g', Jx w' g') ∨ (e = .returned (.int .i64 (-1)) ∧ ∃ g', J n w' g')
def IdxAt (n : Nat) (J : Nat → World → Tags → Prop) (gk : Nat) (v8 : Value) (wr : World) : Prop :=
  ∃ (i : Nat) (g : Tags), i ≤ n ∧ gk = n - i ∧ v8 = .int .i64 (i : Int) ∧ J i wr g

set_option maxRecDepth 100000 in
set_option maxHeartbeats 4000000 in
theorem indexT_j {tw : Bool} {S : Nat → Prop} {xs : List Tx} {fn : Nat} {u : Value} {w : World} {g : Tags} {v : Value} {J : Nat → World → Tags → Prop} {Jx : World → Tags → Prop} (h0 : J 0 w g) (texts : ∀ i W g, J i W g → TextsIn W S tw v xs)
    (hf : ∀ i (hi : i < xs.length) W g, J i W g → Calls Tryz.prog fn #[.string (bs xs[i]), u] W (AsksJ J Jx i)) (hcf : ∀ (args : Array Value) (wx : World), (callFunc fn args).run Tryz.prog wx = .ok (.enter fn args) wx) :
    Calls Tryz.prog 99 #[v, .func (.func fn) #[] #[u]] w (IdxOut xs.length J Jx) := by
  obtain ⟨a, c, rfl, _, _, hr, _, _⟩ := texts _ _ _ h0
  have H0 := Lib.hid h0
  have HF := Lib.hid hf
  have HC := Lib.hid texts
  have l0 : (0 : Int) ≤ (xs.length : Int) := by omega
  have l1 : (xs.length : Int) ≤ 140737488351232 := by omega
  clear hr hf h0 texts
  go_enter Tryz.func99, Tryz.ntmps99
  go_wp2_with fail
  go_loopg [8] xs.length (fun gk v8 wr => IdxAt xs.length J gk v8 wr)
  case atStart => exact ⟨0, g, Nat.zero_le _, rfl, rfl, H0.out⟩
  case round =>
    obtain ⟨i, g1, hi, rfl, rfl, hJ⟩ := hrel
    have i0 : (0 : Int) ≤ (i : Int) := by omega
    have X := Lib.hid hJ
    by_cases hlt : i < xs.length
    · have i1 : (i : Int) < (xs.length : Int) := by omega
      obtain ⟨_, _, e1, _, _, _, _, hc⟩ := HC.out _ _ _ hJ
      obtain ⟨b, off, e2, hS, hN, hl⟩ := hc i hlt
      cases e1
      cases e2
      have hA := HF.out i hlt wr g1 hJ
      obtain ⟨x, hx⟩ : ∃ x, x = xs[i] := ⟨_, rfl⟩
      rw [← hx] at hN hA
      have etx : tx x = bs x := rfl
      rw [etx] at hN
      have Y := Lib.hid hA
      clear hA hx hS hl etx hJ hc
      go_wp2_with fail
      refine Y.out.mono ?_
      rintro e w' (⟨rfl, g2, hx2⟩ | ⟨rfl, g2, hx2⟩)
      · have K := Lib.hid hx2
        clear hx2 hN
        go_wp2_with fail
        go_ret
        exact .inl ⟨i, rfl, g2, K.out⟩
      · have K := Lib.hid hx2
        clear hx2 hN
        go_wp2_with fail
        go_roundg (xs.length - (i + 1))
        case measure => omega
        case rel => exact ⟨i + 1, g2, hlt, rfl, by go_num, K.out⟩
    · obtain rfl : i = xs.length := by omega
      clear hlt hJ
      go_wp2_with fail
      go_ret
      exact .inr ⟨rfl, g1, X.out⟩

set_option maxRecDepth 100000 in
set_option maxHeartbeats 4000000 in
theorem containsT_j {tw : Bool} {S : Nat → Prop} {xs : List Tx} {fn : Nat} {u : Value} {w : World} {g : Tags} {v : Value} {J : Nat → World → Tags → Prop} {Jx : World → Tags → Prop} (h0 : J 0 w g) (texts : ∀ i W g, J i W g → TextsIn W S tw v xs)
    (hf : ∀ i (hi : i < xs.length) W g, J i W g → Calls Tryz.prog fn #[.string (bs xs[i]), u] W (AsksJ J Jx i)) (hcf : ∀ (args : Array Value) (wx : World), (callFunc fn args).run Tryz.prog wx = .ok (.enter fn args) wx) :
    Calls Tryz.prog 35 #[v, .func (.func fn) #[] #[u]] w fun e w' => (e = .returned (.bool true) ∧ ∃ g', Jx w' g') ∨ (e = .returned (.bool false) ∧ ∃ g', J xs.length w' g') := by
  have H := Lib.hid (indexT_j h0 texts hf hcf)
  obtain ⟨a, c, rfl, _⟩ := texts _ _ _ h0
  clear h0 texts hf hcf
  go_enter Tryz.func35, Tryz.ntmps35
  go_wp2_with fail
  refine H.out.mono ?_
  rintro e w' (⟨n, rfl, g2, hn⟩ | ⟨rfl, g2, hn⟩)
  · have K := Lib.hid hn
    have n0 : (0 : Int) ≤ (n : Int) := by omega
    clear hn
    go_wp2_with fail
    go_ret
    exact .inl ⟨by simp, g2, K.out⟩
  · have K := Lib.hid hn
    clear hn
    go_wp2_with fail
    go_ret
    exact .inr ⟨rfl, g2, K.out⟩

/-- A function of a program, as it is handed on. -/
def fnVal (f : Nd.Fn) (v1 v2 : Value) : Value := .agg #[.string (bs f.name), v1, v2]

set_option maxRecDepth 100000 in
set_option maxHeartbeats 4000000 in
theorem indexF_j {tw : Bool} {S : Nat → Prop} {xs : List Nd.Fn} {fn : Nat} {u : Value} {w : World} {g : Tags} {v : Value} {J : Nat → World → Tags → Prop} {Jx : World → Tags → Prop} (h0 : J 0 w g) (funcs : ∀ i W g, J i W g → FuncsIn W S tw v xs)
    (hf : ∀ i (hi : i < xs.length) W g a1 c1 a2 c2, J i W g → (xs[i]).name.length ≤ 140737488351232 → TextsIn W S tw (.slice a1 (xs[i]).args.length c1) (xs[i]).args → Nodes W S tw (.slice a2 (xs[i]).body.len c2) (xs[i]).body →
      Calls Tryz.prog fn #[.agg #[.string (bs (xs[i]).name), .slice a1 (xs[i]).args.length c1, .slice a2 (xs[i]).body.len c2], u] W (AsksJ J Jx i)) (hcf : ∀ (args : Array Value) (wx : World), (callFunc fn args).run Tryz.prog wx = .ok (.enter fn args) wx) :
    Calls Tryz.prog 100 #[v, .func (.func fn) #[] #[u]] w (IdxOut xs.length J Jx) := by
  obtain ⟨a, c, rfl, _, _, hr, _, _⟩ := funcs _ _ _ h0
  have H0 := Lib.hid h0
  have HF := Lib.hid hf
  have HC := Lib.hid funcs
  have l0 : (0 : Int) ≤ (xs.length : Int) := by omega
  have l1 : (xs.length : Int) ≤ 140737488351232 := by omega
  clear hr hf h0 funcs
  go_enter Tryz.func100, Tryz.ntmps100
  go_wp2_with fail
  go_loopg [8] xs.length (fun gk v8 wr => IdxAt xs.length J gk v8 wr)
  case atStart => exact ⟨0, g, Nat.zero_le _, rfl, rfl, H0.out⟩
  case round =>
    obtain ⟨i, g1, hi, rfl, rfl, hJ⟩ := hrel
    have i0 : (0 : Int) ≤ (i : Int) := by omega
    have X := Lib.hid hJ
    by_cases hlt : i < xs.length
    · have i1 : (i : Int) < (xs.length : Int) := by omega
      obtain ⟨_, _, e1, _, _, _, _, hc⟩ := HC.out _ _ _ hJ
      obtain ⟨b, off, v1, v2, e2, hS, hN⟩ := hc i hlt
      cases e1
      cases e2
      obtain ⟨a1, c1, r1⟩ := hN.args.form
      obtain ⟨a2, c2, r2⟩ := hN.body.form
      subst r1
      subst r2
      have hA := HF.out i hlt wr g1 a1 c1 a2 c2 hJ hN.name hN.args hN.body
      have d0 := hN.d0
      have d1 := hN.d1
      have d2 := hN.d2
      obtain ⟨x, hx⟩ : ∃ x, x = xs[i] := ⟨_, rfl⟩
      rw [← hx] at hA d0 d1 d2
      obtain ⟨fname, fargs, fbody⟩ := x
      simp only at hA d0 d1 d2
      have etx : tx fname = bs fname := rfl
      rw [etx] at d0
      have Y := Lib.hid hA
      clear hA hx hS etx hJ hc hN
      go_wp2_with fail
      refine Y.out.mono ?_
      rintro e w' (⟨rfl, g2, hx2⟩ | ⟨rfl, g2, hx2⟩)
      · have K := Lib.hid hx2
        clear hx2 d0 d1 d2
        go_wp2_with fail
        go_ret
        exact .inl ⟨i, rfl, g2, K.out⟩
      · have K := Lib.hid hx2
        clear hx2 d0 d1 d2
        go_wp2_with fail
        go_roundg (xs.length - (i + 1))
        case measure => omega
        case rel => exact ⟨i + 1, g2, hlt, rfl, by go_num, K.out⟩
    · obtain rfl : i = xs.length := by omega
      clear hlt hJ
      go_wp2_with fail
      go_ret
      exact .inr ⟨rfl, g1, X.out⟩

set_option maxRecDepth 100000 in
set_option maxHeartbeats 4000000 in
theorem containsF_j {tw : Bool} {S : Nat → Prop} {xs : List Nd.Fn} {fn : Nat} {u : Value} {w : World} {g : Tags} {v : Value} {J : Nat → World → Tags → Prop} {Jx : World → Tags → Prop} (h0 : J 0 w g) (funcs : ∀ i W g, J i W g → FuncsIn W S tw v xs)
    (hf : ∀ i (hi : i < xs.length) W g a1 c1 a2 c2, J i W g → (xs[i]).name.length ≤ 140737488351232 → TextsIn W S tw (.slice a1 (xs[i]).args.length c1) (xs[i]).args → Nodes W S tw (.slice a2 (xs[i]).body.len c2) (xs[i]).body →
      Calls Tryz.prog fn #[.agg #[.string (bs (xs[i]).name), .slice a1 (xs[i]).args.length c1, .slice a2 (xs[i]).body.len c2], u] W (AsksJ J Jx i)) (hcf : ∀ (args : Array Value) (wx : World), (callFunc fn args).run Tryz.prog wx = .ok (.enter fn args) wx) :
    Calls Tryz.prog 37 #[v, .func (.func fn) #[] #[u]] w fun e w' => (e = .returned (.bool true) ∧ ∃ g', Jx w' g') ∨ (e = .returned (.bool false) ∧ ∃ g', J xs.length w' g') := by
  have H := Lib.hid (indexF_j h0 funcs hf hcf)
  obtain ⟨a, c, rfl, _⟩ := funcs _ _ _ h0
  clear h0 funcs hf hcf
  go_enter Tryz.func37, Tryz.ntmps37
  go_wp2_with fail
  refine H.out.mono ?_
  rintro e w' (⟨n, rfl, g2, hn⟩ | ⟨rfl, g2, hn⟩)
  · have K := Lib.hid hn
    have n0 : (0 : Int) ≤ (n : Int) := by omega
    clear hn
    go_wp2_with fail
    go_ret
    exact .inl ⟨by simp, g2, K.out⟩
  · have K := Lib.hid hn
    clear hn
    go_wp2_with fail
    go_ret
    exact .inr ⟨rfl, g2, K.out⟩
end Go.Proofs.YtmkhfonafcikdaaGreatDoor
