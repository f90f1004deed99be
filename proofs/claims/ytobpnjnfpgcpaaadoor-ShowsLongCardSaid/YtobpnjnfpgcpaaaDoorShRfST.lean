/- Shows, as the document has it: several, with commas between. -/
import Derived.Test.YtobpnjnfpgcpaaaDoorShRfET
import Derived.Test.YtobpnjnfpgcpaaaDoorTrA2
namespace Go.Proofs.YtobpnjnfpgcpaaaDoor
open Go.RowKit Go.My Go.Nd

theorem tot_append (a b : List Tx) : tot (a ++ b) = tot a + tot b := by
  induction a with
  | nil => exact (Nat.zero_add _).symm
  | cons s a ih => show s.length + 2 + tot (a ++ b) = s.length + 2 + tot a + tot b; rw [ih]; omega
theorem sepx_more (sep x : Tx) : ∀ ls : List Tx, ls ≠ [] → sepx sep (ls ++ [x]) = sepx sep ls ++ sep ++ x
  | [], h => absurd rfl h
  | [s], _ => rfl
  | s :: t :: r, _ => by
    have ih := sepx_more sep x (t :: r) (by simp)
    show s ++ sep ++ sepx sep (t :: (r ++ [x])) = s ++ sep ++ sepx sep (t :: r) ++ sep ++ x
    rw [show t :: (r ++ [x]) = (t :: r) ++ [x] from rfl, ih]
    simp only [List.append_assoc]

def sevS (xs : List Nd) (k : Nat) : Tx := sepx [44, 32] ((xs.take k).map Nd.sh)
theorem sev_step (xs : List Nd) (k : Nat) (h : k < xs.length) : sevS xs (k + 1) = (if 0 < k then sevS xs k ++ [44, 32] else []) ++ (xs[k]).sh := by
  unfold sevS
  rw [List.take_succ_eq_append_getElem h, List.map_append]
  by_cases h0 : 0 < k
  · rw [if_pos h0]
    exact sepx_more _ _ _ (by
      intro e
      have hl : ((xs.take k).map Nd.sh).length = k := by simp; omega
      rw [e, List.length_nil] at hl
      omega)
  · obtain rfl : k = 0 := by omega
    rw [if_neg h0]; rfl
theorem sev_len (xs : List Nd) (k : Nat) (h : k < xs.length) : (sevS xs k).length + 2 + (xs[k]).sh.length ≤ tot (xs.map Nd.sh) := by
  have e : xs.map Nd.sh = ((xs.take k).map Nd.sh ++ [(xs[k]).sh]) ++ (xs.drop (k + 1)).map Nd.sh := by
    conv => lhs; rw [← List.take_append_drop (k + 1) xs, List.take_succ_eq_append_getElem h]
    rw [List.map_append, List.map_append]; rfl
  have h1 := sepx_len [44, 32] (by decide) ((xs.take k).map Nd.sh)
  rw [e, tot_append, tot_append]
  unfold sevS
  show _ ≤ tot _ + ((xs[k]).sh.length + 2 + 0) + tot _
  omega

def SvAt (w : World) (xs : List Nd) (gk : Nat) (v3 v4 : Value) (wr : World) : Prop :=
  ∃ k : Nat, k ≤ xs.length ∧ gk = xs.length - k ∧ v3 = .string (bs (sevS xs k)) ∧ v4 = .int .i64 (k : Int) ∧ Below w.heap.size w wr

set_option maxRecDepth 100000 in
set_option maxHeartbeats 8000000 in
theorem several_r {tw : Bool} {xs : Ns} (hx : ∀ y ∈ xs.items, RExprOk tw y) (hlen : tot (xs.items.map Nd.sh) ≤ 70368744177664) {w : World} {B : Nat} {v : Value} (hB : B ≤ w.heap.size) (hv : Nodes w (· < B) tw v xs) :
    Calls Tryd.prog 33 #[v] w fun e w' => e = .returned (.string (bs (sepx [44, 32] (xs.items.map Nd.sh)))) ∧ Below w.heap.size w w' := by
  obtain ⟨a0, cp, rfl, hr, hcell⟩ := hv.open_
  have l0 : (0 : Int) ≤ (xs.items.length : Int) := by omega
  have l1 : (xs.items.length : Int) * 96 ≤ 140737488351232 := by have := hr.2.2.1; omega
  have HX := Lib.hid (And.intro hx hlen)
  have HC := Lib.hid (And.intro hcell hB)
  clear hx hlen hcell hB hr hv
  go_enter Tryd.func33, Tryd.ntmps33
  go_wp2_with fail
  go_loopg [3, 4] xs.items.length (fun gk v3 v4 wr => SvAt w xs.items gk v3 v4 wr)
  case atStart => exact ⟨0, Nat.zero_le _, rfl, rfl, rfl, Below.refl _ _⟩
  case round =>
    obtain ⟨k, hk, rfl, rfl, rfl, hS⟩ := hrel
    have k0 : (0 : Int) ≤ (k : Int) := by omega
    by_cases hlt : k < xs.items.length
    · have k1 : (k : Int) < (xs.items.length : Int) := by omega
      obtain ⟨b, off, v1, v2, v3, hb1, hSb, hN⟩ := HC.out.1 k hlt
      subst hb1
      have hM := hN.frame hSb fun j hj _ => hS.block j (Nat.lt_of_lt_of_le hj HC.out.2)
      have hI := HX.out.1 _ (List.getElem_mem hlt)
      have hst := sev_step xs.items k hlt
      have hln := sev_len xs.items k hlt
      generalize xs.items[k] = x at *
      have d0 := hM.d0
      have d1 := hM.d1
      have d2 := hM.d2
      have d3 := hM.d3
      have d4 := hM.d4
      have hV := NodeAt.nv hM
      have M1 := hM.l
      have M2 := hM.body
      have M3 := hM.els
      obtain ⟨z1, y1, rfl⟩ := M1.form
      obtain ⟨z2, y2, rfl⟩ := M2.form
      obtain ⟨z3, y3, rfl⟩ := M3.form
      have hBr : B ≤ wr.heap.size := Nat.le_trans HC.out.2 hS.size
      have hl := HX.out.2
      obtain ⟨u, hu⟩ : ∃ u, u = sevS xs.items k := ⟨_, rfl⟩
      obtain ⟨s, hs⟩ : ∃ s, s = x.sh := ⟨_, rfl⟩
      rw [← hu, ← hs] at hst hln
      rw [← hu]
      have HS := Lib.hid hs
      have Z := Lib.hid (And.intro hS (And.intro hV (And.intro hBr (And.intro hI hlt))))
      have c1 : ∀ wx, (Op.stringOp .add (bs u) ⟨#[44, 32]⟩).run Tryd.prog wx = .ok (.string (bs (u ++ [44, 32]))) wx := add_any u [44, 32] (by simp; omega)
      obtain ⟨u2, hu2⟩ : ∃ u2, u2 = u ++ [44, 32] := ⟨_, rfl⟩
      rw [← hu2] at hst c1
      have c2 : ∀ wx, (Op.stringOp .add (bs u2) (bs s)).run Tryd.prog wx = .ok (.string (bs (u2 ++ s))) wx := add_any u2 s (by rw [hu2]; simp; omega)
      have c3 : ∀ wx, (Op.stringOp .add (bs u) (bs s)).run Tryd.prog wx = .ok (.string (bs (u ++ s))) wx := add_any u s (by omega)
      clear hM hN M1 M2 M3 hSb hS hBr hI hk hlt hV hs hu2
      by_cases h0 : 0 < k
      · have i0 : (0 : Int) < (k : Int) := by omega
        rw [if_pos h0] at hst
        have HST := Lib.hid hst
        clear hst h0 hu hln
        go_wp2_with fail
        refine (Z.out.2.2.2.1 wr B _ Z.out.2.2.1 Z.out.2.1).mono ?_
        rintro e w2 ⟨rfl, hb⟩
        rw [← HS.out]
        have K := Lib.hid (Z.out.1.trans (hb.mono Z.out.1.size))
        clear hb
        go_wp2_with fail
        go_roundg (xs.items.length - (k + 1))
        case measure => have := Z.out.2.2.2.2; omega
        case rel => exact ⟨k + 1, Z.out.2.2.2.2, rfl, by rw [HST.out], by go_num, K.out⟩
      · have i0 : (k : Int) ≤ 0 := by omega
        rw [if_neg h0] at hst
        have hu0 : u = [] := by
          have hk0 : k = 0 := by omega
          rw [hu, hk0]; rfl
        subst hu0
        have HST := Lib.hid hst
        clear hst h0 hu hln
        go_wp2_with fail
        refine (Z.out.2.2.2.1 wr B _ Z.out.2.2.1 Z.out.2.1).mono ?_
        rintro e w2 ⟨rfl, hb⟩
        rw [← HS.out]
        have K := Lib.hid (Z.out.1.trans (hb.mono Z.out.1.size))
        clear hb
        go_wp2_with fail
        go_roundg (xs.items.length - (k + 1))
        case measure => have := Z.out.2.2.2.2; omega
        case rel => exact ⟨k + 1, Z.out.2.2.2.2, rfl, by rw [HST.out]; rfl, by go_num, K.out⟩
    · obtain rfl : k = xs.items.length := by omega
      have HU := Lib.hid (show sevS xs.items xs.items.length = sepx [44, 32] (xs.items.map Nd.sh) by unfold sevS; rw [List.take_length])
      have K := Lib.hid hS
      clear hlt hk hS
      go_wp2_with fail
      go_ret
      exact ⟨by rw [← HU.out]; rfl, K.out⟩
end Go.Proofs.YtobpnjnfpgcpaaaDoor
