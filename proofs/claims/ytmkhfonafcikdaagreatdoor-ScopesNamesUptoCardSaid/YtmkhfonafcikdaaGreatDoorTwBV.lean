/- Trees: twins of lists of nodes. -/
import Derived.Test.YtmkhfonafcikdaaGreatDoorTwMV
namespace Go.Proofs.YtmkhfonafcikdaaGreatDoor
open Go.RowKit Go.My Go.Nd

def TNAt (w : World) (xs : Ns) (gk : Nat) (v2 v3 : Value) (wr : World) : Prop :=
  ∃ (k : Nat) (a : Option Addr) (c : Nat) (g : Tags) (els : List El), k ≤ xs.items.length ∧ gk = xs.items.length - k ∧ v2 = .slice a k c ∧ v3 = .int .i64 (k : Int) ∧ Since w wr g ∧ Owns wr g 2 61 5 (.slice a k c) k (elCells els) ∧ els.length = k ∧ ElsAre wr g els xs ∧ NE wr g TN w.heap.size els xs

theorem fresh_tag {w w' : World} {g : Tags} {v : Value} {x : Ns} (f : FreshN w w' v x) : Nodes w' (fun b => g.ext w.heap.size 1 b = 1) true v x := Nodes.mono f fun _ _ hb => Tags.ext_new _ _ _ _ hb

theorem node_one {e : El} : ∀ u ∈ elCells [e], e.v1.oneCell' = true → e.v2.oneCell' = true → e.v3.oneCell' = true → u.oneCell' = true := by
  intro u hu h1 h2 h3
  rw [elCells_cons] at hu
  simp [elCells] at hu
  rcases hu with rfl | rfl | rfl | rfl | rfl
  · rfl
  · rfl
  · exact h1
  · exact h2
  · exact h3

set_option maxRecDepth 100000 in
set_option maxHeartbeats 4000000 in
theorem twin_nodes : ∀ xs, TwinSaid xs := by
  refine Ns.each fun xs ih w B v hB hv Q h => ?_
  obtain ⟨a0, cp, rfl, hr, hcell⟩ := hv.open_
  have H := Lib.hid h
  have HI := Lib.hid ih
  have HC := Lib.hid hcell
  have HB := Lib.hid hB
  have HR := Lib.hid hr
  have l0 : (0 : Int) ≤ (xs.items.length : Int) := by omega
  have l1 : (xs.items.length : Int) * 96 ≤ 140737488351232 := by have := hr.2.2.1; omega
  clear h hv hcell hr hB ih
  go_enter Tryz.func31, Tryz.ntmps31
  go_wp2_with (refine wpList_make_t _ rfl (.const (.int .i64 0)) (.tmp 7) rfl nodeElem (cn := xs.items.length + 1) (fun _ => 0) 2 rfl rfl (by omega) (by omega) (by unfold maxLen; omega) ?_; intro bm w0 g0 O0 T0; have X0 := Lib.hid (And.intro ((Since.start w).turn T0 (by decide)) O0); clear O0 T0)
  go_loopg [3, 4] xs.items.length (fun gk v2 v3 wr => TNAt w xs gk v2 v3 wr)
  case atStart => exact ⟨0, _, _, g0, [], Nat.zero_le _, rfl, rfl, rfl, X0.out.1, X0.out.2, rfl, (fun j h _ => absurd h (Nat.not_lt_zero _)), NE.nil _ _ _ _ _⟩
  case round =>
    obtain ⟨k, a, c, g1, els, hk, rfl, rfl, rfl, hS, hO, hE, hA, hNE⟩ := hrel
    have k0 : (0 : Int) ≤ (k : Int) := by omega
    have X := Lib.hid (And.intro hS (And.intro hO (And.intro hE hA)))
    have XN := Lib.hid hNE
    clear hNE
    clear hS hO hE hA X0
    by_cases hlt : k < xs.items.length
    · have k1 : (k : Int) < (xs.items.length : Int) := by omega
      obtain ⟨b, off, v1, v2, v3, hb1, hS', hN⟩ := HC.out k hlt
      cases hb1
      have hbl := X.out.1.below
      have hM := hN.frame hS' fun j hj _ => hbl.block j (Nat.lt_of_lt_of_le hj HB.out)
      obtain ⟨x, hx⟩ : ∃ x, x = xs.items[k] := ⟨_, rfl⟩
      have hI := HI.out _ (List.getElem_mem hlt)
      rw [← hx] at hM hI
      have d0 := hM.d0
      have d1 := hM.d1
      have d2 := hM.d2
      have d3 := hM.d3
      have d4 := hM.d4
      have M1 := Lib.hid hM.l
      have M2 := Lib.hid hM.body
      have M3 := Lib.hid hM.els
      obtain ⟨z1, y1, rfl⟩ := M1.out.form
      obtain ⟨z2, y2, rfl⟩ := M2.out.form
      obtain ⟨z3, y3, rfl⟩ := M3.out.form
      have HK := Lib.hid (And.intro hlt (And.intro hx (And.intro hI (And.intro hM.kind hM.text))))
      have HBr := Lib.hid (Nat.le_trans HB.out hbl.size)
      clear hN hM hI hx hbl hk hS'
      obtain ⟨kd, tt, xl, xb, xe⟩ := x
      simp only at d0 d1 d2 d3 d4
      go_wp2_with fail
      refine twin_one (x := ⟨kd, tt, xl, xb, xe⟩) HK.out.2.2.1.1 HK.out.2.2.1.2.1 HK.out.2.2.1.2.2 HBr.out M1.out M2.out M3.out fun v1 v2 v3 w1 hb1 f1 f2 f3 hm => ?_
      obtain ⟨u1, q1, rfl⟩ := Nodes.form f1
      obtain ⟨u2, q2, rfl⟩ := Nodes.form f2
      obtain ⟨u3, q3, rfl⟩ := Nodes.form f3
      have T1 := Turn.of_below hb1 g1 1
      have hel : ElIs w1 (fun b => g1.ext wr.heap.size 1 b = 1) true ⟨kd, tt, .slice u1 xl.len q1, .slice u2 xb.len q2, .slice u3 xe.len q3⟩ ⟨kd, tt, xl, xb, xe⟩ := ⟨⟨rfl, HK.out.2.2.2.1⟩, ⟨rfl, HK.out.2.2.2.2⟩, fresh_tag f1, fresh_tag f2, fresh_tag f3⟩
      have N1 : NE w1 (g1.ext wr.heap.size 1) TN w.heap.size (els ++ [⟨kd, tt, .slice u1 xl.len q1, .slice u2 xb.len q2, .slice u3 xe.len q3⟩]) xs := by
        obtain ⟨m0, m1, m2, m3, i1, i2, i3, i4, i5, l1, l2, l3⟩ := hm
        obtain ⟨F, hF, hr⟩ := nf_of (k := kd) (t := tt) HK.out.2.2.2.1 HK.out.2.2.2.2 l1 l2 l3 i2 i3 i4
        have hEl := X.out.2.2.1
        refine XN.out.snoc X.out.1.below.size T1 (by rw [hEl]; exact HK.out.1) (F := F) ?_ (hr.mono i1 i5) fun b hb => Tags.ext_new _ _ _ _ (Nat.le_trans i1 (hr.2 b hb).1)
        subst hEl
        rw [← HK.out.2.1]; exact hF
      have S1 := X.out.1.turn T1 (by decide)
      have O1 := X.out.2.1.turn T1 (by decide)
      have A1 := X.out.2.2.2.turn T1 (by decide)
      generalize g1.ext wr.heap.size 1 = g2 at *
      have T4 := Turn.alloc w1 g2 3 (.cells #[.int .u8 (kd : Int), .string (tx tt), .slice u1 xl.len q1, .slice u2 xb.len q2, .slice u3 xe.len q3] 61)
      have X4 := Lib.hid (And.intro (S1.turn T4 (by decide)) (And.intro (O1.turn T4 (by decide)) (And.intro (A1.turn T4 (by decide)) (hel.turn T4 (by decide)))))
      have XN4 := Lib.hid (N1.turn T4 (by decide))
      clear T1 T4 S1 O1 A1 hel f1 f2 f3 hb1 d0 d1 d2 d3 d4 N1 hm
      go_wp2_with (at_builtin; refine wpList_append_t _ rfl (.tmp 15) (.tmp 21) rfl nodeElem (v := .slice a k c) (y := .slice (some ⟨w1.heap.size, 0, none⟩) 1 1) rfl X4.out.2.1 rfl (Src.lit #[.int .u8 (kd : Int), .string (tx tt), .slice u1 xl.len q1, .slice u2 xb.len q2, .slice u3 xe.len q3] 61 rfl rfl) (by simp [Value.oneCell']) (by unfold maxLen; omega) (by omega) ?_; intro a2 c2 w2 g3 O2 T2; have X2 := Lib.hid (And.intro O2 T2); clear O2 T2)
      have e1 : elCells els ++ [.int .u8 (kd : Int), .string (tx tt), .slice u1 xl.len q1, .slice u2 xb.len q2, .slice u3 xe.len q3] = elCells (els ++ [⟨kd, tt, .slice u1 xl.len q1, .slice u2 xb.len q2, .slice u3 xe.len q3⟩]) := by rw [elCells_append, elCells_cons]; rfl
      have hE := X.out.2.2.1
      have X7 := Lib.hid (And.intro (X4.out.1.turn X2.out.2 (by decide)) (And.intro (show Owns w2 g3 2 61 5 (.slice a2 (k + 1) c2) (k + 1) _ from e1 ▸ X2.out.1) ((X4.out.2.2.1.turn X2.out.2 (by decide)).snoc (by rw [hE]; exact HK.out.1) (by subst hE; rw [← HK.out.2.1]; exact X4.out.2.2.2.turn X2.out.2 (by decide)))))
      have XN7 := Lib.hid (XN4.out.turn X2.out.2 (by decide))
      clear e1 X4 X2
      go_roundg (xs.items.length - (k + 1))
      case measure => have := HK.out.1; omega
      case rel => exact ⟨k + 1, a2, c2, g3, _, HK.out.1, rfl, rfl, by go_num, X7.out.1, X7.out.2.1, by rw [List.length_append, hE]; rfl, X7.out.2.2, XN7.out⟩
    · obtain rfl : k = xs.items.length := by omega
      have T4 := Turn.alloc wr g1 3 (.cells #[.int .u8 0, .string ⟨#[115, 112, 97, 114, 101]⟩, .slice none 0 0, .slice none 0 0, .slice none 0 0] 61)
      have X4 := Lib.hid (And.intro (X.out.1.turn T4 (by decide)) (And.intro (X.out.2.1.turn T4 (by decide)) (X.out.2.2.2.turn T4 (by decide))))
      have XN4 := Lib.hid (XN.out.turn T4 (by decide))
      clear T4 hlt hk
      go_wp2_with (at_builtin; (refine wpList_append_t _ rfl (.tmp 23) (.tmp 25) rfl nodeElem (v := .slice a xs.items.length c) (y := .slice (some ⟨wr.heap.size, 0, none⟩) 1 1) rfl X4.out.2.1 rfl (Src.lit #[.int .u8 0, .string ⟨#[115, 112, 97, 114, 101]⟩, .slice none 0 0, .slice none 0 0, .slice none 0 0] 61 rfl rfl) (by simp [Value.oneCell']) (by unfold maxLen; omega) (by omega) ?_; intro a2 c2 w2 g2 O2 T2; obtain ⟨b3, off3, cap3, hv3, hcc, hcap3⟩ := owns_someN O2; subst hv3; subst hcc; have X2 := Lib.hid (And.intro O2 T2); clear O2 T2; have hsl := slice_hs (P := Tryz.prog) (size := 5) Tryz.underlying23 (by kernel_rfl) b3 off3 (xs.items.length + 1) cap3 xs.items.length (xs.items.length : Int) rfl (by omega)))
      have hS2 := X4.out.1.turn X2.out.2 (by decide)
      exact H.out _ w2 hS2.below ⟨nodes_made rfl X.out.2.2.1 hS2 (X4.out.2.2.turn X2.out.2 (by decide)) X2.out.1 (by omega), lr_made rfl X.out.2.2.1 hS2 (XN4.out.turn X2.out.2 (by decide)) X2.out.1 (by omega)⟩
end Go.Proofs.YtmkhfonafcikdaaGreatDoor
