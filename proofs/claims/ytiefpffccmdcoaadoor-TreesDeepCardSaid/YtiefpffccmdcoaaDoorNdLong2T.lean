/- Trees: is a number too long. -/
import Derived.Test.YtiefpffccmdcoaaDoorNdLongT
namespace Go.My
open Go.Nd
def longOne (x : Nd) : Bool := (x.kind == 1 && decide (200 < x.text.length)) || long x.l || long x.body || long x.els
theorem long_items (xs : Ns) : long xs = xs.items.any longOne := by
  induction xs with
  | nil => rfl
  | cons k t l b e r _ _ _ ihr => rw [Ns.items_cons, List.any_cons, ← ihr]; rfl
theorem tx_size (l : List UInt8) : (tx l).size = l.length := by simp [tx, ByteArray.size]
end Go.My
namespace Go.Proofs.YtiefpffccmdcoaaDoor
open Go.RowKit Go.My Go.Nd

def LongSaid (tw : Bool) (x : Ns) : Prop := ∀ (w : World) (B : Nat) (v : Value), B ≤ w.heap.size → Nodes w (· < B) tw v x → Calls Tryd.prog 53 #[v] w fun e w' => e = .returned (.bool (long x)) ∧ Below w.heap.size w w'

theorem box_later {w w1 : World} {cs : Array Value} {ty : TypeId} (hb : Below (w.alloc (.cells cs ty)).heap.size (w.alloc (.cells cs ty)) w1) (o : Nat) : w1.cell? ⟨w.heap.size, o, none⟩ = cs[o]? :=
  (World.cell?_of_block (hb.block w.heap.size (by simp))).trans (cell_of_row _ w.heap.size o _ _ _ (heap_alloc_new w (.cells cs ty)))

set_option maxRecDepth 100000 in
set_option maxHeartbeats 4000000 in
theorem long_one {tw : Bool} {B : Nat} {x : Nd} (h1 : LongSaid tw x.l) (h2 : LongSaid tw x.body) (h3 : LongSaid tw x.els) : Asked tw B 80 longOne x := by
  intro w a1 a2 a3 c1 c2 c3 hB n1 n2 n3 hk ht
  obtain ⟨kd, tt, xl, xb, xe⟩ := x
  simp only at *
  have hA := Below.alloc (Below.refl w.heap.size w) (Nat.le_refl _) (.cells #[.int .u8 (kd : Int), .string (tx tt), .slice a1 xl.len c1, .slice a2 xb.len c2, .slice a3 xe.len c3] 49)
  have Y := Lib.hid (And.intro h1 (And.intro h2 (And.intro h3 (And.intro (n1.below (hA.mono hB)) (And.intro (n2.below (hA.mono hB)) (And.intro (n3.below (hA.mono hB)) (And.intro hA hB)))))))
  have ts := tx_size tt
  have k0 : (0 : Int) ≤ (kd : Int) := by omega
  have tl : (tt.length : Int) ≤ 140737488351232 := by omega
  obtain ⟨bx, hbx⟩ : ∃ bx, bx = w.heap.size := ⟨_, rfl⟩
  have HX := Lib.hid hbx
  obtain ⟨p, hp⟩ : ∃ p, p = (kd == 1 && decide (200 < tt.length)) := ⟨_, rfl⟩
  have HR := Lib.hid (show longOne ⟨kd, tt, xl, xb, xe⟩ = (p || long xl || long xb || long xe) by rw [hp]; rfl)
  clear h1 h2 h3 n1 n2 n3 hA hB hbx
  go_enter Tryd.func80, Tryd.ntmps80
  cases p with
  | true =>
    have hq : kd = 1 ∧ 200 < tt.length := by have := hp.symm; simpa using this
    obtain ⟨rfl, hq⟩ := hq
    have hq2 : (200 : Int) < (tt.length : Int) := by omega
    clear hp hq
    go_wp2_with fail
    go_ret
    exact ⟨by rw [HR.out]; rfl, Y.out.2.2.2.2.2.2.1⟩
  | false =>
    have hq : ((kd : Int) == 1) = false ∨ (kd = 1 ∧ (tt.length : Int) ≤ 200) := by
      have := hp.symm
      by_cases hk1 : kd = 1
      · right; subst hk1; simp at this; omega
      · left; simp; omega
    clear hp
    have go : ((kd : Int) == 1) = false ∨ (kd = 1 ∧ (tt.length : Int) ≤ 200) := hq
    rcases hq with hq | ⟨rfl, hq⟩
    all_goals
      clear go
      (try have hq2 : decide ((200 : Int) < (tt.length : Int)) = false := by simp; omega)
      go_wp2_with fail
      refine (Y.out.1 _ B _ (Nat.le_trans Y.out.2.2.2.2.2.2.2 Y.out.2.2.2.2.2.2.1.size) Y.out.2.2.2.1).mono ?_
      rintro e w1 ⟨rfl, hb1⟩
      have e3 := box_later hb1 3
      have e4 := box_later hb1 4
      simp at e3 e4
      have B1 := Lib.hid hb1
      clear hb1
      cases hl1 : long xl with
      | true =>
        have L1 := Lib.hid hl1
        clear hl1
        go_wp2_with fail
        go_ret
        exact ⟨by rw [HR.out, L1.out]; rfl, Y.out.2.2.2.2.2.2.1.trans (B1.out.mono Y.out.2.2.2.2.2.2.1.size)⟩
      | false =>
        have L1 := Lib.hid hl1
        clear hl1
        have K1 := Lib.hid (Y.out.2.2.2.2.2.2.1.trans (B1.out.mono Y.out.2.2.2.2.2.2.1.size))
        go_wp2_with fail
        refine (Y.out.2.1 w1 B _ (Nat.le_trans Y.out.2.2.2.2.2.2.2 K1.out.size) (Y.out.2.2.2.2.1.below (B1.out.mono (Nat.le_trans Y.out.2.2.2.2.2.2.2 Y.out.2.2.2.2.2.2.1.size)))).mono ?_
        rintro e w2 ⟨rfl, hb2⟩
        have hb12 := B1.out.trans (hb2.mono B1.out.size)
        have e4' := box_later hb12 4
        simp at e4'
        have B2 := Lib.hid hb12
        clear hb2 hb12 e3 e4
        cases hl2 : long xb with
        | true =>
          have L2 := Lib.hid hl2
          clear hl2
          go_wp2_with fail
          go_ret
          exact ⟨by rw [HR.out, L1.out, L2.out]; rfl, Y.out.2.2.2.2.2.2.1.trans (B2.out.mono Y.out.2.2.2.2.2.2.1.size)⟩
        | false =>
          have L2 := Lib.hid hl2
          clear hl2
          have K2 := Lib.hid (Y.out.2.2.2.2.2.2.1.trans (B2.out.mono Y.out.2.2.2.2.2.2.1.size))
          go_wp2_with fail
          refine (Y.out.2.2.1 w2 B _ (Nat.le_trans Y.out.2.2.2.2.2.2.2 K2.out.size) (Y.out.2.2.2.2.2.1.below (B2.out.mono (Nat.le_trans Y.out.2.2.2.2.2.2.2 Y.out.2.2.2.2.2.2.1.size)))).mono ?_
          rintro e w3 ⟨rfl, hb3⟩
          have K3 := Lib.hid (K2.out.trans (hb3.mono K2.out.size))
          clear hb3
          go_wp2_with fail
          go_ret
          exact ⟨by rw [HR.out, L1.out, L2.out]; rfl, K3.out⟩

set_option maxHeartbeats 4000000 in
theorem long_said (tw : Bool) : ∀ xs, LongSaid tw xs := by
  refine Ns.each fun xs ih w B v hB hv => ?_
  have H := Lib.hid (contains_said hB hv (fn := 80) (p := longOne) (fun x hx => long_one (ih x hx).1 (ih x hx).2.1 (ih x hx).2.2) (fun _ _ => by kernel_rfl))
  obtain ⟨a, c, rfl, _⟩ := hv
  clear ih
  go_enter Tryd.func53, Tryd.ntmps53
  go_wp2_with fail
  refine H.out.mono ?_
  rintro e w' ⟨rfl, hb⟩
  have K := Lib.hid hb
  clear hb
  go_wp2_with fail
  go_ret
  exact ⟨by rw [long_items]; rfl, K.out⟩
end Go.Proofs.YtiefpffccmdcoaaDoor
