/- Trees: is a number too long, as the document has it. -/
import Derived.Test.YtobpnjnfpgcpaaaDoorTrA2
namespace Go.Proofs.YtobpnjnfpgcpaaaDoor
open Go.RowKit Go.My Go.Nd

def RLongSaid (tw : Bool) (x : Ns) : Prop := ∀ (w : World) (B : Nat) (v : Value), B ≤ w.heap.size → Nodes w (· < B) tw v x → Calls Tryd.prog 60 #[v] w fun e w' => e = .returned (.bool (long x)) ∧ Below w.heap.size w w'

theorem cell_later {w w1 : World} {n b o : Nat} {u : Value} (hb : Below n w w1) (hlt : b < n) (h : w.cell? ⟨b, o, none⟩ = some u) : w1.cell? ⟨b, o, none⟩ = some u := (World.cell?_of_block (hb.block b hlt)).trans h

def LongAt (w : World) (xs : Ns) (gk : Nat) (v3 : Value) (wr : World) : Prop :=
  ∃ i : Nat, i ≤ xs.items.length ∧ gk = xs.items.length - i ∧ v3 = .int .i64 (i : Int) ∧ (xs.items.drop i).any longOne = xs.items.any longOne ∧ Below w.heap.size w wr

set_option maxRecDepth 100000 in
set_option maxHeartbeats 8000000 in
theorem rlong_said (tw : Bool) : ∀ xs, RLongSaid tw xs := by
  refine Ns.each fun xs ih w B v hB hv => ?_
  obtain ⟨a, c, rfl, hr, hc⟩ := hv.open_
  have HI := Lib.hid ih
  have HC := Lib.hid hc
  have l0 : (0 : Int) ≤ (xs.items.length : Int) := by omega
  have l1 : (xs.items.length : Int) ≤ 140737488351232 := by have := hr.2.2.1; omega
  clear ih hv hc hr
  go_enter Tryd.func60, Tryd.ntmps60
  go_wp2_with fail
  go_loopg [3] xs.items.length (fun gk v3 wr => LongAt w xs gk v3 wr)
  case atStart => exact ⟨0, Nat.zero_le _, rfl, rfl, rfl, Below.refl _ _⟩
  case round =>
    obtain ⟨i, hi, rfl, rfl, hd, hb⟩ := hrel
    have i0 : (0 : Int) ≤ (i : Int) := by omega
    by_cases hlt : i < xs.items.length
    · have i1 : (i : Int) < (xs.items.length : Int) := by omega
      obtain ⟨b, off, v1, v2, v3, rfl, hS, hN⟩ := HC.out i hlt
      have hN' := hN.frame hS fun k hk _ => hb.block k (Nat.lt_of_lt_of_le hk hB)
      obtain ⟨x, hx⟩ : ∃ x, x = xs.items[i] := ⟨_, rfl⟩
      rw [← hx] at hN'
      have hI := HI.out _ (List.getElem_mem hlt)
      rw [← hx] at hI
      have hdr := items_cons_drop xs i hlt
      rw [← hx] at hdr
      obtain ⟨kd, tt, xl, xb, xe⟩ := x
      have d0 := hN'.d0
      have d1 := hN'.d1
      have d2 := hN'.d2
      have d3 := hN'.d3
      have d4 := hN'.d4
      have ht := hN'.text
      obtain ⟨a1, c1, rfl, s1, m1⟩ := hN'.l
      obtain ⟨a2, c2, rfl, s2, m2⟩ := hN'.body
      obtain ⟨a3, c3, rfl, s3, m3⟩ := hN'.els
      simp only at d0 d1 d2 d3 d4 ht
      have hBr : B ≤ wr.heap.size := Nat.le_trans hB hb.size
      have n1 : Nodes wr (· < B) tw (.slice a1 xl.len c1) xl := ⟨a1, c1, rfl, s1, m1⟩
      have n2 : Nodes wr (· < B) tw (.slice a2 xb.len c2) xb := ⟨a2, c2, rfl, s2, m2⟩
      have n3 : Nodes wr (· < B) tw (.slice a3 xe.len c3) xe := ⟨a3, c3, rfl, s3, m3⟩
      have Y := Lib.hid (And.intro hI (And.intro n1 (And.intro n2 (And.intro n3 (And.intro hBr (And.intro hb (And.intro hd (And.intro hdr (Nat.lt_of_lt_of_le hS hBr)))))))))
      have ts := tx_size tt
      have k0 : (0 : Int) ≤ (kd : Int) := by omega
      have tl : (tt.length : Int) ≤ 140737488351232 := by omega
      obtain ⟨p, hp⟩ : ∃ p, p = (kd == 1 && decide (200 < tt.length)) := ⟨_, rfl⟩
      have HR := Lib.hid (show longOne ⟨kd, tt, xl, xb, xe⟩ = (p || long xl || long xb || long xe) by rw [hp]; rfl)
      have D3 := Lib.hid d3
      have D4 := Lib.hid d4
      clear hN hN' s1 s2 s3 m1 m2 m3 hb hd hx hdr hI hS n1 n2 n3 hBr ht
      have fin : ∀ wz, longOne ⟨kd, tt, xl, xb, xe⟩ = true → Below w.heap.size w wz → Ending.returned (.bool true) = Ending.returned (.bool (long xs)) ∧ Below w.heap.size w wz := fun wz hone hz => by
        refine ⟨?_, hz⟩
        have hd := Y.out.2.2.2.2.2.2.1
        rw [Y.out.2.2.2.2.2.2.2.1, List.any_cons, hone, Bool.true_or] at hd
        rw [long_items, ← hd]
      have FIN := Lib.hid fin
      clear fin
      cases p with
      | true =>
        have hq : kd = 1 ∧ 200 < tt.length := by have := hp.symm; simpa using this
        obtain ⟨rfl, hq⟩ := hq
        have hq2 : (200 : Int) < (tt.length : Int) := by omega
        clear hp hq
        go_wp2_with fail
        go_ret
        exact FIN.out _ (by rw [HR.out]; rfl) Y.out.2.2.2.2.2.1
      | false =>
        have hq : ((kd : Int) == 1) = false ∨ (kd = 1 ∧ (tt.length : Int) ≤ 200) := by
          have := hp.symm
          by_cases hk1 : kd = 1
          · right; subst hk1; simp at this; omega
          · left; simp; omega
        clear hp
        rcases hq with hq | ⟨rfl, hq⟩
        all_goals
          (try have hq2 : decide ((200 : Int) < (tt.length : Int)) = false := by simp; omega)
          go_wp2_with fail
          refine (Y.out.1.1 _ B _ Y.out.2.2.2.2.1 Y.out.2.1).mono ?_
          rintro e w1 ⟨rfl, hb1⟩
          have e3 := cell_later hb1 Y.out.2.2.2.2.2.2.2.2 D3.out
          have K1 := Lib.hid (And.intro hb1 (Y.out.2.2.2.2.2.1.trans (hb1.mono Y.out.2.2.2.2.2.1.size)))
          clear hb1
          cases hl1 : long xl with
          | true =>
            have L1 := Lib.hid hl1
            clear hl1
            go_wp2_with fail
            go_ret
            exact FIN.out _ (by rw [HR.out, L1.out]; rfl) K1.out.2
          | false =>
            have L1 := Lib.hid hl1
            clear hl1
            go_wp2_with fail
            refine (Y.out.1.2.1 w1 B _ (Nat.le_trans Y.out.2.2.2.2.1 K1.out.1.size) (Y.out.2.2.1.below (K1.out.1.mono Y.out.2.2.2.2.1))).mono ?_
            rintro e w2 ⟨rfl, hb2⟩
            have hb12 := K1.out.1.trans (hb2.mono K1.out.1.size)
            have e4 := cell_later hb12 Y.out.2.2.2.2.2.2.2.2 D4.out
            have K2 := Lib.hid (And.intro hb12 (Y.out.2.2.2.2.2.1.trans (hb12.mono Y.out.2.2.2.2.2.1.size)))
            clear hb2 hb12 e3
            cases hl2 : long xb with
            | true =>
              have L2 := Lib.hid hl2
              clear hl2
              go_wp2_with fail
              go_ret
              exact FIN.out _ (by rw [HR.out, L1.out, L2.out]; rfl) K2.out.2
            | false =>
              have L2 := Lib.hid hl2
              clear hl2
              go_wp2_with fail
              refine (Y.out.1.2.2 w2 B _ (Nat.le_trans Y.out.2.2.2.2.1 K2.out.1.size) (Y.out.2.2.2.1.below (K2.out.1.mono Y.out.2.2.2.2.1))).mono ?_
              rintro e w3 ⟨rfl, hb3⟩
              have K3 := Lib.hid (K2.out.2.trans (hb3.mono K2.out.2.size))
              clear hb3
              cases hl3 : long xe with
              | true =>
                have L3 := Lib.hid hl3
                clear hl3
                go_wp2_with fail
                go_ret
                exact FIN.out _ (by rw [HR.out, L1.out, L2.out, L3.out]; rfl) K3.out
              | false =>
                have L3 := Lib.hid hl3
                clear hl3
                go_wp2_with fail
                go_roundg (xs.items.length - (i + 1))
                case measure => omega
                case rel =>
                  refine ⟨i + 1, hlt, rfl, by go_num, ?_, K3.out⟩
                  have hd := Y.out.2.2.2.2.2.2.1
                  rw [Y.out.2.2.2.2.2.2.2.1, List.any_cons, HR.out, L1.out, L2.out, L3.out] at hd
                  exact hd
    · obtain rfl : i = xs.items.length := by omega
      clear hlt
      go_wp2_with fail
      go_ret
      exact ⟨by rw [long_items, ← hd, List.drop_length]; rfl, hb⟩
end Go.Proofs.YtobpnjnfpgcpaaaDoor
