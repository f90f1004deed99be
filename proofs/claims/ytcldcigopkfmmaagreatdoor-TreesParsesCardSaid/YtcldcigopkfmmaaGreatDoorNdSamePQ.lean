/- Trees: two programs that are the same. -/
import Derived.Test.YtcldcigopkfmmaaGreatDoorNdSameQ
import Derived.Test.YtcldcigopkfmmaaGreatDoorTrD2
namespace Go.Proofs.YtcldcigopkfmmaaGreatDoor
open Go.RowKit Go.My Go.Nd

def SameAtT (w : World) (n gk : Nat) (v3 : Value) (wr : World) : Prop := ∃ i : Nat, i ≤ n ∧ gk = n - i ∧ v3 = .int .i64 (i : Int) ∧ Below w.heap.size w wr

set_option maxRecDepth 100000 in
set_option maxHeartbeats 4000000 in
theorem sameTexts_t {w : World} {B : Nat} {v u : Value} {l : List Tx} (hB : B ≤ w.heap.size) (hv : TextsIn w (· < B) false v l) (hu : TextsIn w (· < B) false u l) :
    Calls Tryz.prog 143 #[v, u] w fun e w' => e = .returned (.bool true) ∧ Below w.heap.size w w' := by
  obtain ⟨a, c, rfl, h1, h2, h3, _, hc⟩ := hv
  obtain ⟨a', c', rfl, h1', h2', h3', _, hc'⟩ := hu
  have HC := Lib.hid (And.intro hc (And.intro hc' hB))
  have l0 : (0 : Int) ≤ (l.length : Int) := by omega
  have l1 : (l.length : Int) * 16 ≤ 140737488351232 := by omega
  have hn1 : ((l.length : Int) != (l.length : Int)) = false := by simp
  clear hc hc' h1 h2 h3 h1' h2' h3' hB
  go_enter Tryz.func143, Tryz.ntmps143
  go_wp2_with fail
  go_loopg [5] l.length (fun gk v3 wr => SameAtT w l.length gk v3 wr)
  case atStart => exact ⟨0, Nat.zero_le _, rfl, rfl, Below.refl _ _⟩
  case round =>
    obtain ⟨k, hk, rfl, rfl, hb⟩ := hrel
    have k0 : (0 : Int) ≤ (k : Int) := by omega
    have K := Lib.hid hb
    by_cases hlt : k < l.length
    · have k1 : (k : Int) < (l.length : Int) := by omega
      obtain ⟨b, off, hb1, hS, d0, dl⟩ := HC.out.1 k hlt
      obtain ⟨b', off', hb2, hS', e0, el⟩ := HC.out.2.1 k hlt
      subst hb1
      subst hb2
      have d1 := (World.cell?_of_block (hb.block b (Nat.lt_of_lt_of_le hS HC.out.2.2))).trans d0
      have e1 := (World.cell?_of_block (hb.block b' (Nat.lt_of_lt_of_le hS' HC.out.2.2))).trans e0
      obtain ⟨s, hs⟩ : ∃ s, s = l[k] := ⟨_, rfl⟩
      rw [← hs] at d1 e1
      have q1 : ((tx s).toList == (tx s).toList) = true := by simp
      have q2 : ((tx s).toList != (tx s).toList) = false := by simp
      have HLT := Lib.hid hlt
      clear d0 e0 dl el hs hS hS' hb hlt hk
      go_upto_region 6 with fail
      go_quiet (fail)
      have K5 := Lib.hid (K.out.trans ((below_drewN' wr nq).mono K.out.size))
      clear d1 e1
      go_wp2_with fail
      go_roundg (l.length - (k + 1))
      case measure => have := HLT.out; omega
      case rel => exact ⟨k + 1, HLT.out, rfl, by go_num, K5.out⟩
    · obtain rfl : k = l.length := by omega
      clear hlt hk hb
      go_wp2_with fail
      go_ret
      exact ⟨rfl, K.out⟩

set_option maxRecDepth 100000 in
set_option maxHeartbeats 4000000 in
theorem sameFunc_t {w : World} {B : Nat} {f : Nd.Fn} {a1 a2 b1 b2 : Option Addr} {c1 c2 d1 d2 : Nat} (hB : B ≤ w.heap.size)
    (t1 : TextsIn w (· < B) false (.slice a1 f.args.length c1) f.args) (n1 : Nodes w (· < B) false (.slice a2 f.body.len c2) f.body) (t2 : TextsIn w (· < B) false (.slice b1 f.args.length d1) f.args) (n2 : Nodes w (· < B) false (.slice b2 f.body.len d2) f.body) :
    Calls Tryz.prog 114 #[.agg #[.string (tx f.name), .slice a1 f.args.length c1, .slice a2 f.body.len c2], .agg #[.string (tx f.name), .slice b1 f.args.length d1, .slice b2 f.body.len d2]] w fun e w' => e = .returned (.bool true) ∧ Below w.heap.size w w' := by
  obtain ⟨hA1, hn1, hz1⟩ := Put.new w #[.string (tx f.name), .slice a1 f.args.length c1, .slice a2 f.body.len c2] 70
  obtain ⟨bx, hbx⟩ : ∃ bx, bx = w.heap.size := ⟨_, rfl⟩
  obtain ⟨w1, hw1⟩ : ∃ w1, w1 = w.alloc (.cells #[.string (tx f.name), .slice a1 f.args.length c1, .slice a2 f.body.len c2] 70) := ⟨_, rfl⟩
  rw [← hw1] at hA1 hn1 hz1
  obtain ⟨hA2, hn2, hz2⟩ := Put.new w1 #[.string (tx f.name), .slice b1 f.args.length d1, .slice b2 f.body.len d2] 70
  obtain ⟨w0, hw0⟩ : ∃ w0, w0 = w1.alloc (.cells #[.string (tx f.name), .slice b1 f.args.length d1, .slice b2 f.body.len d2] 70) := ⟨_, rfl⟩
  rw [← hw0] at hA2 hn2 hz2
  have hr0 : w0.heap[bx]? = some (.cells #[.string (tx f.name), .slice a1 f.args.length c1, .slice a2 f.body.len c2] 70 (0, 0)) := by rw [hbx]; exact (hA2.block _ (by omega)).trans hn1
  have hr1 : w0.heap[bx + 1]? = some (.cells #[.string (tx f.name), .slice b1 f.args.length d1, .slice b2 f.body.len d2] 70 (0, 0)) := by rw [hbx, ← hz1]; exact hn2
  have hA : Below w.heap.size w w0 := hA1.trans (hA2.mono hA1.size)
  have HX := Lib.hid (fun (w1 : World) (hb : Below w0.heap.size w0 w1) => (show (w1.cell? ⟨bx, 0, none⟩ = some (.string (tx f.name)) ∧ w1.cell? ⟨bx, 1, none⟩ = some (.slice a1 f.args.length c1) ∧ w1.cell? ⟨bx, 2, none⟩ = some (.slice a2 f.body.len c2)) ∧ (w1.cell? ⟨bx + 1, 0, none⟩ = some (.string (tx f.name)) ∧ w1.cell? ⟨bx + 1, 1, none⟩ = some (.slice b1 f.args.length d1) ∧ w1.cell? ⟨bx + 1, 2, none⟩ = some (.slice b2 f.body.len d2)) from by
    have q0 := (hb.block _ (Array.getElem?_eq_some_iff.1 hr0).1).trans hr0
    have q1 := (hb.block _ (Array.getElem?_eq_some_iff.1 hr1).1).trans hr1
    exact ⟨⟨cell_of_row w1 bx 0 _ _ _ q0, cell_of_row w1 bx 1 _ _ _ q0, cell_of_row w1 bx 2 _ _ _ q0⟩, ⟨cell_of_row w1 (bx + 1) 0 _ _ _ q1, cell_of_row w1 (bx + 1) 1 _ _ _ q1, cell_of_row w1 (bx + 1) 2 _ _ _ q1⟩⟩))
  have Y := Lib.hid (And.intro hA (And.intro (Nat.le_trans hB hA.size) (And.intro (t1.below (hA.mono hB)) (And.intro (t2.below (hA.mono hB)) (And.intro (n1.below (hA.mono hB)) (n2.below (hA.mono hB)))))))
  rw [hw1] at hw0
  have et : ((tx f.name).toList == (tx f.name).toList) = true := by simp
  clear hA1 hn1 hz1 hA2 hn2 hz2 hr0 hr1 hA t1 t2 n1 n2 hB hw1
  go_enter Tryz.func114, Tryz.ntmps114
  go_upto_region 1 with fail
  rw [← hbx, ← hw0]
  clear hbx hw0
  obtain ⟨⟨p0, p1, p2⟩, q0, q1, q2⟩ := HX.out w0 (Below.refl _ _)
  go_wp2_with fail
  refine (sameTexts_t Y.out.2.1 Y.out.2.2.1 Y.out.2.2.2.1).mono ?_
  rintro e w2 ⟨rfl, hb⟩
  have K := Lib.hid hb
  clear hb p0 p1 p2 q0 q1 q2
  obtain ⟨⟨p0, p1, p2⟩, q0, q1, q2⟩ := HX.out w2 K.out
  go_wp2_with fail
  refine (same_nodes f.body f.body w2 B _ _ (Nat.le_trans Y.out.2.1 K.out.size) (Y.out.2.2.2.2.1.below (K.out.mono Y.out.2.1)) (Y.out.2.2.2.2.2.below (K.out.mono Y.out.2.1))).mono ?_
  rintro e w3 ⟨rfl, hb⟩
  rw [show decide (f.body = f.body) = true from decide_eq_true rfl]
  have K3 := Lib.hid (K.out.trans (hb.mono K.out.size))
  clear hb p0 p1 p2 q0 q1 q2
  go_wp2_with fail
  go_ret
  exact ⟨rfl, Y.out.1.trans (K3.out.mono Y.out.1.size)⟩

theorem keep6s {wr w' w'' : World} {b o b' o' : Nat} {u0 u1 u2 s0 s1 s2 : Value}
    (hS : ((w'.cell? ⟨b, o, none⟩ = some u0 ∧ w'.cell? ⟨b, o + 1, none⟩ = some u1 ∧ w'.cell? ⟨b, o + 2, none⟩ = some u2) ∧ (w'.cell? ⟨b', o', none⟩ = some s0 ∧ w'.cell? ⟨b', o' + 1, none⟩ = some s1 ∧ w'.cell? ⟨b', o' + 2, none⟩ = some s2)) ∧ Below wr.heap.size wr w') (hk : Below w'.heap.size w' w'') :
    ((w''.cell? ⟨b, o, none⟩ = some u0 ∧ w''.cell? ⟨b, o + 1, none⟩ = some u1 ∧ w''.cell? ⟨b, o + 2, none⟩ = some u2) ∧ (w''.cell? ⟨b', o', none⟩ = some s0 ∧ w''.cell? ⟨b', o' + 1, none⟩ = some s1 ∧ w''.cell? ⟨b', o' + 2, none⟩ = some s2)) ∧ Below wr.heap.size wr w'' := by
  obtain ⟨⟨⟨h0, h1, h2⟩, ⟨k0, k1, k2⟩⟩, hb⟩ := hS
  have e : ∀ q, w''.cell? ⟨b, q, none⟩ = w'.cell? ⟨b, q, none⟩ := fun q => World.cell?_of_block (hk.block b (World.block_lt_of_cell? _ _ h0))
  have e' : ∀ q, w''.cell? ⟨b', q, none⟩ = w'.cell? ⟨b', q, none⟩ := fun q => World.cell?_of_block (hk.block b' (World.block_lt_of_cell? _ _ k0))
  exact ⟨⟨⟨(e _).trans h0, (e _).trans h1, (e _).trans h2⟩, ⟨(e' _).trans k0, (e' _).trans k1, (e' _).trans k2⟩⟩, hb.trans (hk.mono hb.size)⟩
theorem sameFunc_arm {B : Nat} {f : Nd.Fn} {wr w' : World} {a1 a2 b1 b2 : Option Addr} {c1 c2 d1 d2 : Nat} (hB : B ≤ wr.heap.size)
    (t1 : TextsIn wr (· < B) false (.slice a1 f.args.length c1) f.args) (n1 : Nodes wr (· < B) false (.slice a2 f.body.len c2) f.body) (t2 : TextsIn wr (· < B) false (.slice b1 f.args.length d1) f.args) (n2 : Nodes wr (· < B) false (.slice b2 f.body.len d2) f.body) {X : Prop} (hS : X ∧ Below wr.heap.size wr w') :
    Calls Tryz.prog 114 #[.agg #[.string (tx f.name), .slice a1 f.args.length c1, .slice a2 f.body.len c2], .agg #[.string (tx f.name), .slice b1 f.args.length d1, .slice b2 f.body.len d2]] w' fun e w'' => e = .returned (.bool true) ∧ Below w'.heap.size w' w'' :=
  have hm := hS.2.mono hB
  sameFunc_t (Nat.le_trans hB hS.2.size) (t1.below hm) (n1.below hm) (t2.below hm) (n2.below hm)

set_option maxRecDepth 100000 in
set_option maxHeartbeats 4000000 in
theorem sameFuncs_t {w : World} {B : Nat} {v u : Value} {l : List Nd.Fn} (hB : B ≤ w.heap.size) (hv : FuncsIn w (· < B) false v l) (hu : FuncsIn w (· < B) false u l) :
    Calls Tryz.prog 62 #[v, u] w fun e w' => e = .returned (.bool true) ∧ Below w.heap.size w w' := by
  obtain ⟨a, c, rfl, h1, h2, h3, _, hc⟩ := hv
  obtain ⟨a', c', rfl, h1', h2', h3', _, hc'⟩ := hu
  have HC := Lib.hid (And.intro hc (And.intro hc' hB))
  have l0 : (0 : Int) ≤ (l.length : Int) := by omega
  have l1 : (l.length : Int) * 64 ≤ 140737488351232 := by omega
  have hn1 : ((l.length : Int) != (l.length : Int)) = false := by simp
  clear hc hc' h1 h2 h3 h1' h2' h3' hB
  go_enter Tryz.func62, Tryz.ntmps62
  go_wp2_with fail
  go_loopg [5] l.length (fun gk v3 wr => SameAtT w l.length gk v3 wr)
  case atStart => exact ⟨0, Nat.zero_le _, rfl, rfl, Below.refl _ _⟩
  case round =>
    obtain ⟨k, hk, rfl, rfl, hb⟩ := hrel
    have k0 : (0 : Int) ≤ (k : Int) := by omega
    have K := Lib.hid hb
    by_cases hlt : k < l.length
    · have k1 : (k : Int) < (l.length : Int) := by omega
      obtain ⟨b, off, v1, v2, hb1, hS, hN⟩ := HC.out.1 k hlt
      obtain ⟨b', off', u1, u2, hb2, hS', hN'⟩ := HC.out.2.1 k hlt
      subst hb1
      subst hb2
      have hM := hN.frame hS fun j hj _ => hb.block j (Nat.lt_of_lt_of_le hj HC.out.2.2)
      have hM' := hN'.frame hS' fun j hj _ => hb.block j (Nat.lt_of_lt_of_le hj HC.out.2.2)
      obtain ⟨f, hf⟩ : ∃ f, f = l[k] := ⟨_, rfl⟩
      rw [← hf] at hM hM'
      have d0 := hM.d0
      have d1 := hM.d1
      have d2 := hM.d2
      have e0 := hM'.d0
      have e1 := hM'.d1
      have e2 := hM'.d2
      have M1 := Lib.hid hM.args
      have M2 := Lib.hid hM.body
      have M1' := Lib.hid hM'.args
      have M2' := Lib.hid hM'.body
      obtain ⟨z1, y1, rfl⟩ := M1.out.form
      obtain ⟨z2, y2, rfl⟩ := M2.out.form
      obtain ⟨z4, y4, rfl⟩ := M1'.out.form
      obtain ⟨z5, y5, rfl⟩ := M2'.out.form
      have HLT := Lib.hid hlt
      have HBr := Lib.hid (Nat.le_trans HC.out.2.2 hb.size)
      clear hN hN' hM hM' hf hb hlt hk hS hS'
      go_upto_region 6 with fail
      go_region_held3 (fun w' => ((w'.cell? ⟨b, off + k * 3, none⟩ = some (.string (tx f.name)) ∧ w'.cell? ⟨b, off + k * 3 + 1, none⟩ = some (.slice z1 f.args.length y1) ∧ w'.cell? ⟨b, off + k * 3 + 2, none⟩ = some (.slice z2 f.body.len y2)) ∧ (w'.cell? ⟨b', off' + k * 3, none⟩ = some (.string (tx f.name)) ∧ w'.cell? ⟨b', off' + k * 3 + 1, none⟩ = some (.slice z4 f.args.length y4) ∧ w'.cell? ⟨b', off' + k * 3 + 2, none⟩ = some (.slice z5 f.body.len y5))) ∧ Below wr.heap.size wr w')
        (first | assumption | exact ⟨⟨⟨d0, d1, d2⟩, ⟨e0, e1, e2⟩⟩, (Below.refl _ _).drew⟩ | exact keep6s (by assumption) (by assumption))
        ((go_at_call 114; refine (sameFunc_arm (f := f) HBr.out M1.out M2.out M1'.out M2'.out (by assumption)).mono ?_; rintro e w'' ⟨rfl, hk⟩))
      rename_i hH
      have K5 := Lib.hid (K.out.trans (hH.2.mono K.out.size))
      clear hH d0 d1 d2 e0 e1 e2
      go_wp2_with fail
      go_roundg (l.length - (k + 1))
      case measure => have := HLT.out; omega
      case rel => exact ⟨k + 1, HLT.out, rfl, by go_num, K5.out⟩
    · obtain rfl : k = l.length := by omega
      clear hlt hk hb
      go_wp2_with fail
      go_ret
      exact ⟨rfl, K.out⟩

set_option maxRecDepth 100000 in
set_option maxHeartbeats 4000000 in
theorem sameProg_t {w : World} {B : Nat} {v1 v2 u1 u2 : Value} {p : Pr} (hB : B ≤ w.heap.size) (h1 : FuncsIn w (· < B) false v1 p.funcs) (h2 : Nodes w (· < B) false v2 p.body) (k1 : FuncsIn w (· < B) false u1 p.funcs) (k2 : Nodes w (· < B) false u2 p.body) :
    Calls Tryz.prog 12 #[.agg #[v1, v2], .agg #[u1, u2]] w fun e w' => e = .returned (.bool true) ∧ Below w.heap.size w w' := by
  obtain ⟨a1, c1, rfl⟩ := h1.form
  obtain ⟨a2, c2, rfl⟩ := h2.form
  obtain ⟨b1, d1, rfl⟩ := k1.form
  obtain ⟨b2, d2, rfl⟩ := k2.form
  obtain ⟨hA1, hn1, hz1⟩ := Put.new w #[.slice a1 p.funcs.length c1, .slice a2 p.body.len c2] 47
  obtain ⟨bx, hbx⟩ : ∃ bx, bx = w.heap.size := ⟨_, rfl⟩
  obtain ⟨w1, hw1⟩ : ∃ w1, w1 = w.alloc (.cells #[.slice a1 p.funcs.length c1, .slice a2 p.body.len c2] 47) := ⟨_, rfl⟩
  rw [← hw1] at hA1 hn1 hz1
  obtain ⟨hA2, hn2, hz2⟩ := Put.new w1 #[.slice b1 p.funcs.length d1, .slice b2 p.body.len d2] 47
  obtain ⟨w0, hw0⟩ : ∃ w0, w0 = w1.alloc (.cells #[.slice b1 p.funcs.length d1, .slice b2 p.body.len d2] 47) := ⟨_, rfl⟩
  rw [← hw0] at hA2 hn2 hz2
  have hr0 : w0.heap[bx]? = some (.cells #[.slice a1 p.funcs.length c1, .slice a2 p.body.len c2] 47 (0, 0)) := by rw [hbx]; exact (hA2.block _ (by omega)).trans hn1
  have hr1 : w0.heap[bx + 1]? = some (.cells #[.slice b1 p.funcs.length d1, .slice b2 p.body.len d2] 47 (0, 0)) := by rw [hbx, ← hz1]; exact hn2
  have hA : Below w.heap.size w w0 := hA1.trans (hA2.mono hA1.size)
  have HX := Lib.hid (fun (w1 : World) (hb : Below w0.heap.size w0 w1) => (show (w1.cell? ⟨bx, 0, none⟩ = some (.slice a1 p.funcs.length c1) ∧ w1.cell? ⟨bx, 1, none⟩ = some (.slice a2 p.body.len c2)) ∧ (w1.cell? ⟨bx + 1, 0, none⟩ = some (.slice b1 p.funcs.length d1) ∧ w1.cell? ⟨bx + 1, 1, none⟩ = some (.slice b2 p.body.len d2)) from by
    have q0 := (hb.block _ (Array.getElem?_eq_some_iff.1 hr0).1).trans hr0
    have q1 := (hb.block _ (Array.getElem?_eq_some_iff.1 hr1).1).trans hr1
    exact ⟨⟨cell_of_row w1 bx 0 _ _ _ q0, cell_of_row w1 bx 1 _ _ _ q0⟩, ⟨cell_of_row w1 (bx + 1) 0 _ _ _ q1, cell_of_row w1 (bx + 1) 1 _ _ _ q1⟩⟩))
  have Y := Lib.hid (And.intro hA (And.intro (Nat.le_trans hB hA.size) (And.intro (h1.below (hA.mono hB)) (And.intro (k1.below (hA.mono hB)) (And.intro (h2.below (hA.mono hB)) (k2.below (hA.mono hB)))))))
  rw [hw1] at hw0
  clear hA1 hn1 hz1 hA2 hn2 hz2 hr0 hr1 hA h1 h2 k1 k2 hB hw1
  go_enter Tryz.func12, Tryz.ntmps12
  go_upto_region 1 with fail
  rw [← hbx, ← hw0]
  clear hbx hw0
  obtain ⟨⟨p0, p1⟩, q0, q1⟩ := HX.out w0 (Below.refl _ _)
  go_wp2_with fail
  refine (sameFuncs_t Y.out.2.1 Y.out.2.2.1 Y.out.2.2.2.1).mono ?_
  rintro e w2 ⟨rfl, hb⟩
  have K := Lib.hid hb
  clear hb p0 p1 q0 q1
  obtain ⟨⟨p0, p1⟩, q0, q1⟩ := HX.out w2 K.out
  go_wp2_with fail
  refine (same_nodes p.body p.body w2 B _ _ (Nat.le_trans Y.out.2.1 K.out.size) (Y.out.2.2.2.2.1.below (K.out.mono Y.out.2.1)) (Y.out.2.2.2.2.2.below (K.out.mono Y.out.2.1))).mono ?_
  rintro e w3 ⟨rfl, hb⟩
  rw [show decide (p.body = p.body) = true from decide_eq_true rfl]
  have K3 := Lib.hid (K.out.trans (hb.mono K.out.size))
  clear hb p0 p1 q0 q1
  go_wp2_with fail
  go_ret
  exact ⟨rfl, Y.out.1.trans (K3.out.mono Y.out.1.size)⟩
end Go.Proofs.YtcldcigopkfmmaaGreatDoor
