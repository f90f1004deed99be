/- Shows, as the document has it: a call. -/
import Derived.Test.YtobpnjnfpgcpaaaDoorShRfXT
namespace Go.Proofs.YtobpnjnfpgcpaaaDoor
open Go.RowKit Go.My Go.Nd

theorem sevSS {tw : Bool} {w w' : World} {B : Nat} {v : Value} {xs : Ns} {s : Tx} (hB : B ≤ w.heap.size) (h : Nodes w (· < B) tw v xs) (hx : ∀ y ∈ xs.items, RExprOk tw y) (hlen : tot (xs.items.map Nd.sh) ≤ 17592186044416) (hs : s = sepx [44, 32] (xs.items.map Nd.sh)) {X : Prop} (hS : X ∧ Below w.heap.size w w') :
    Calls Tryd.prog 33 #[v] w' fun e w'' => e = .returned (.string (bs s)) ∧ Below w'.heap.size w' w'' := by
  subst hs
  exact several_r hx (by omega) (Nat.le_trans hB hS.2.size) (h.below (hS.2.mono hB))


set_option maxRecDepth 100000 in
set_option maxHeartbeats 8000000 in
theorem rexpr_call {tw : Bool} {x : Nd} (hkk : x.kind = 4) (hx : ∀ y ∈ x.l.items, RExprOk tw y) (htl : x.text.length ≤ 1048576) (hlen : tot (x.l.items.map Nd.sh) ≤ 17592186044416) : RExprOk tw x := by
  intro w B v hB h
  have hv := h
  obtain ⟨a1, c1, a2, c2, a3, c3, rfl, hk, ht, hn1, hn2, hn3⟩ := h
  obtain ⟨hA, hn, hz⟩ := Put.new w #[.int .u8 (x.kind : Int), .string (tx x.text), .slice a1 x.l.len c1, .slice a2 x.body.len c2, .slice a3 x.els.len c3] 25
  obtain ⟨bx, hbx⟩ : ∃ bx, bx = w.heap.size := ⟨_, rfl⟩
  obtain ⟨w0, hw0⟩ : ∃ w0, w0 = w.alloc (.cells #[.int .u8 (x.kind : Int), .string (tx x.text), .slice a1 x.l.len c1, .slice a2 x.body.len c2, .slice a3 x.els.len c3] 25) := ⟨_, rfl⟩
  rw [← hw0] at hA hn hz
  rw [← hbx] at hn
  have hmB := hA.mono hB
  have hbox : BxIs tw w0 B bx x a1 c1 a2 c2 a3 c3 := ⟨hn, hk, ht, hn1.below hmB, hn2.below hmB, hn3.below hmB, Nat.le_trans hB hA.size⟩
  have X := Lib.hid (And.intro hA hbox)
  obtain ⟨q0, q1, q2, q3, q4, _, _, _, _, _⟩ := row5 hn
  have k0 : (0 : Int) ≤ (x.kind : Int) := by omega
  clear hA hn hz hmB hn1 hn2 hn3 hv hB ht hbox hk
  have HK := Lib.hid (show (x.kind : Int) = 4 by omega)
  obtain ⟨s, hs⟩ : ∃ s, s = sepx [44, 32] (x.l.items.map Nd.sh) := ⟨_, rfl⟩
  have hl := sepx_len [44, 32] (by decide) (x.l.items.map Nd.sh)
  rw [← hs] at hl
  have hR : x.sh = x.text ++ [40] ++ s ++ [41] := by unfold Nd.sh shOne; rw [hkk, sh_items, hs]; rfl
  have ad1 : ∀ wx, (Op.stringOp .add (tx x.text) ⟨#[40]⟩).run Tryd.prog wx = .ok (.string (bs (x.text ++ [40]))) wx := add_any x.text [40] (by simp; omega)
  have ad2 : ∀ wx, (Op.stringOp .add (bs (x.text ++ [40])) (bs s)).run Tryd.prog wx = .ok (.string (bs (x.text ++ [40] ++ s))) wx := add_any (x.text ++ [40]) s (by simp; omega)
  have ad3 : ∀ wx, (Op.stringOp .add (bs (x.text ++ [40] ++ s)) ⟨#[41]⟩).run Tryd.prog wx = .ok (.string (bs (x.text ++ [40] ++ s ++ [41]))) wx := add_any (x.text ++ [40] ++ s) [41] (by simp; omega)
  rw [← hR] at ad3
  obtain ⟨s1, hs1⟩ : ∃ s1, s1 = x.text ++ [40] := ⟨_, rfl⟩
  rw [← hs1] at ad1 ad2 ad3
  obtain ⟨s2, hs2⟩ : ∃ s2, s2 = s1 ++ s := ⟨_, rfl⟩
  rw [← hs2] at ad2 ad3
  obtain ⟨z, hz⟩ : ∃ z, z = x.sh := ⟨_, rfl⟩
  rw [← hz] at ad3 ⊢
  have HS := Lib.hid hs
  have HX := Lib.hid (And.intro hx hlen)
  clear hs hs1 hs2 hR hl hx hlen hkk hz htl
  go_enter Tryd.func17, Tryd.ntmps17
  go_upto_region 1 with fail
  rw [← hbx, ← hw0]
  clear hbx hw0
  go_wp2_with fail
  refine (rank_r X.out.2.nv).mono ?_
  rintro e w1 ⟨rfl, hb⟩
  have Y := Lib.hid (And.intro (X.out.1.trans (hb.mono X.out.1.size)) (X.out.2.later hb))
  clear hb q0 q1 q2 q3 q4
  obtain ⟨q0, q1, q2, q3, q4, _, _, _, _, _⟩ := row5 Y.out.2.row
  rw [HK.out] at q0
  have KS := Lib.hid (fun (w' : World) (hb : Below w1.heap.size w1 w') => (show w'.cell? ⟨bx, 1, none⟩ = some (.string (tx x.text)) ∧ w'.cell? ⟨bx, 2, none⟩ = some (.slice a1 x.l.len c1) from ⟨(row5 (Y.out.2.later hb).row).2.1, (row5 (Y.out.2.later hb).row).2.2.1⟩))
  go_upto_region 6 with fail
  go_region_held3 (fun w' => (w'.cell? ⟨bx, 1, none⟩ = some (.string (tx x.text)) ∧ w'.cell? ⟨bx, 2, none⟩ = some (.slice a1 x.l.len c1)) ∧ Below w1.heap.size w1 w')
    (first | assumption | exact ⟨KS.out _ (Below.refl _ _).drew, (Below.refl _ _).drew⟩ | exact ⟨KS.out _ (keepW (by assumption) (by assumption)), keepW (by assumption) (by assumption)⟩)
    (first
      | (go_at_call 33; refine (sevSS Y.out.2.hB Y.out.2.l HX.out.1 HX.out.2 HS.out (by assumption)).mono ?_; rintro e w'' ⟨rfl, hk⟩))
  rename_i hH
  have K := Lib.hid (Y.out.1.trans (hH.2.mono Y.out.1.size))
  clear hH
  go_wp2_with fail
  go_ret
  exact ⟨rfl, K.out⟩
end Go.Proofs.YtobpnjnfpgcpaaaDoor
