/- Trees: how deep nodes are. -/
import Derived.Test.YtiefpffccmdcoaaDoorRows
import Derived.Test.YtiefpffccmdcoaaDoorTrB2
import Derived.IntWalk
namespace Go.My
open Go.Nd
theorem NodeAt.frame {w w' : World} {S : Nat → Prop} {tw : Bool} {b off : Nat} {x : Nd} {v1 v2 v3 : Value} (h : NodeAt w S tw b off x v1 v2 v3) (hS : S b) (hs : ∀ b, S b → b < w.heap.size → w'.heap[b]? = w.heap[b]?) : NodeAt w' S tw b off x v1 v2 v3 := by
  have hlt := World.block_lt_of_cell? w _ h.d0
  have e : ∀ o, w'.cell? ⟨b, o, none⟩ = w.cell? ⟨b, o, none⟩ := fun o => World.cell?_of_block (hs b hS hlt)
  exact ⟨h.kind, h.text, (e _).trans h.d0, (e _).trans h.d1, (e _).trans h.d2, (e _).trans h.d3, (e _).trans h.d4, h.l.frame hs, h.body.frame hs, h.els.frame hs⟩
theorem items_cons_drop (xs : Ns) (i : Nat) (hi : i < xs.items.length) : xs.items.drop i = xs.items[i] :: xs.items.drop (i + 1) := List.drop_eq_getElem_cons hi

/-- How deep a list of nodes is, from a place on. -/
def deepL (wrap : Int → Int) : List Nd → Int
  | [] => 0
  | x :: r => max (wrap (1 + max (max (deep wrap x.l) (deep wrap x.body)) (deep wrap x.els))) (deepL wrap r)
theorem deep_items (wrap : Int → Int) (xs : Ns) : deep wrap xs = deepL wrap xs.items := by
  induction xs with
  | nil => rfl
  | cons k t l b e r _ _ _ ihr => rw [Ns.items_cons, deepL, ← ihr]; rfl
end Go.My
namespace Go.Proofs.YtiefpffccmdcoaaDoor
open Go.RowKit Go.My Go.Nd

def wrapI : Int → Int := IntKind.i64.wrap

def DeepAt (w : World) (xs : Ns) (gk : Nat) (v2 v7 : Value) (wr : World) : Prop :=
  ∃ (i : Nat) (n : Int), i ≤ xs.items.length ∧ gk = xs.items.length - i ∧ v7 = .int .i64 (i : Int) ∧ v2 = .int .i64 n ∧ 0 ≤ n ∧ max n (deepL wrapI (xs.items.drop i)) = deepL wrapI xs.items ∧ Below w.heap.size w wr

theorem ite_max (a b : Int) : (if a < b then b else a) = max a b := by split <;> omega
theorem max_assoc3 (a b c : Int) : max a (max b c) = max (max a b) c := by omega
theorem max_step {n W R D : Int} (h : max n (max W R) = D) : max (max n W) R = D := by omega

/-- What the loop asks of the lists in a node. -/
def DeepSaid (tw : Bool) (x : Ns) : Prop := ∀ (w : World) (B : Nat) (v : Value), B ≤ w.heap.size → Nodes w (· < B) tw v x → Calls Tryd.prog 52 #[v] w fun e w' => e = .returned (.int .i64 (deep wrapI x)) ∧ Below w.heap.size w w'

theorem deep_arm {tw : Bool} {x : Ns} (hI : DeepSaid tw x) {w4 w' : World} {B : Nat} {v : Value} (hB : B ≤ w4.heap.size) (hN : Nodes w4 (· < B) tw v x) {X : Prop} (hS : X ∧ Below w4.heap.size w4 w') :
    Calls Tryd.prog 52 #[v] w' fun e w'' => e = .returned (.int .i64 (deep wrapI x)) ∧ Below w'.heap.size w' w'' :=
  hI w' B v (Nat.le_trans hB hS.2.size) (hN.below (hS.2.mono hB))

theorem keep3 {w4 w' w'' : World} {bx : Nat} {v1 v2 v3 : Value} (hlt : bx < w4.heap.size) (hS : (w'.cell? ⟨bx, 2, none⟩ = some v1 ∧ w'.cell? ⟨bx, 3, none⟩ = some v2 ∧ w'.cell? ⟨bx, 4, none⟩ = some v3) ∧ Below w4.heap.size w4 w') (hk : Below w'.heap.size w' w'') :
    (w''.cell? ⟨bx, 2, none⟩ = some v1 ∧ w''.cell? ⟨bx, 3, none⟩ = some v2 ∧ w''.cell? ⟨bx, 4, none⟩ = some v3) ∧ Below w4.heap.size w4 w'' := by
  obtain ⟨⟨h2, h3, h4⟩, hb⟩ := hS
  have e : ∀ o, w''.cell? ⟨bx, o, none⟩ = w'.cell? ⟨bx, o, none⟩ := fun o => World.cell?_of_block (hk.block bx (Nat.lt_of_lt_of_le hlt hb.size))
  exact ⟨⟨(e _).trans h2, (e _).trans h3, (e _).trans h4⟩, hb.trans (hk.mono hb.size)⟩

set_option maxHeartbeats 4000000 in
theorem deep_said (tw : Bool) : ∀ xs, DeepSaid tw xs := by
  refine Ns.each fun xs ih w B v hB hv => ?_
  obtain ⟨a, c, rfl, hr, hc⟩ := hv.open_
  have HI := Lib.hid ih
  have HV := Lib.hid hv
  have HC := Lib.hid hc
  have l0 : (0 : Int) ≤ (xs.items.length : Int) := by omega
  have l1 : (xs.items.length : Int) ≤ 140737488351232 := by have := hr.2.2.1; omega
  clear ih hv hc hr
  go_enter Tryd.func52, Tryd.ntmps52
  go_wp2_with fail
  go_loopg [2, 7] xs.items.length (fun gk v2 v7 wr => DeepAt w xs gk v2 v7 wr)
  case atStart => exact ⟨0, 0, Nat.zero_le _, rfl, rfl, rfl, Int.le_refl _, by rw [List.drop_zero, ← deep_items]; have := deep_nonneg wrapI xs; omega, Below.refl _ _⟩
  case round =>
    obtain ⟨i, n, hi, rfl, rfl, rfl, hn, hd, hb⟩ := hrel
    have i0 : (0 : Int) ≤ (i : Int) := by omega
    by_cases hlt : i < xs.items.length
    · have i1 : (i : Int) < (xs.items.length : Int) := by omega
      obtain ⟨b, off, v1, v2, v3, rfl, hS, hN⟩ := HC.out i hlt
      have hN' := hN.frame hS fun k hk _ => hb.block k (Nat.lt_of_lt_of_le hk hB)
      obtain ⟨x, hx⟩ : ∃ x, x = xs.items[i] := ⟨_, rfl⟩
      rw [← hx] at hN'
      obtain ⟨kd, tt, xl, xb, xe⟩ := x
      have d0 := hN'.d0
      have d1 := hN'.d1
      have d2 := hN'.d2
      have d3 := hN'.d3
      have d4 := hN'.d4
      obtain ⟨a1, c1, rfl, s1, m1⟩ := hN'.l
      obtain ⟨a2, c2, rfl, s2, m2⟩ := hN'.body
      obtain ⟨a3, c3, rfl, s3, m3⟩ := hN'.els
      simp only at d0 d1 d2 d3 d4
      have n1 : Nodes wr (· < B) tw (.slice a1 xl.len c1) xl := ⟨a1, c1, rfl, s1, m1⟩
      have n2 : Nodes wr (· < B) tw (.slice a2 xb.len c2) xb := ⟨a2, c2, rfl, s2, m2⟩
      have n3 : Nodes wr (· < B) tw (.slice a3 xe.len c3) xe := ⟨a3, c3, rfl, s3, m3⟩
      have hBr : B ≤ wr.heap.size := Nat.le_trans hB hb.size
      have hA := Below.alloc (Below.refl wr.heap.size wr) (Nat.le_refl _) (.cells #[.int .u8 (kd : Int), .string (tx tt), .slice a1 xl.len c1, .slice a2 xb.len c2, .slice a3 xe.len c3] 49)
      have hI := HI.out _ (List.getElem_mem hlt)
      rw [← hx] at hI
      have hdr := items_cons_drop xs i hlt
      have Y := Lib.hid (And.intro hb (And.intro hd (And.intro hx (And.intro hdr (And.intro (n1.below (hA.mono hBr)) (And.intro (n2.below (hA.mono hBr)) (And.intro (n3.below (hA.mono hBr)) (And.intro hA (And.intro hBr hI)))))))))
      clear hN hN' s1 s2 s3 m1 m2 m3 n1 n2 n3 hb hd hx hdr hA hBr hI hS
      go_upto_region 4 with fail
      obtain ⟨bx, hbx⟩ : ∃ bx, bx = wr.heap.size := ⟨_, rfl⟩
      obtain ⟨w4, hw4⟩ : ∃ w4, w4 = wr.alloc (.cells #[.int .u8 (kd : Int), .string (tx tt), .slice a1 xl.len c1, .slice a2 xb.len c2, .slice a3 xe.len c3] 49) := ⟨_, rfl⟩
      have hnew : w4.heap[bx]? = some (.cells #[.int .u8 (kd : Int), .string (tx tt), .slice a1 xl.len c1, .slice a2 xb.len c2, .slice a3 xe.len c3] 49 (0, 0)) := by rw [hw4, hbx]; exact heap_alloc_new wr _
      have hlt4 : bx < w4.heap.size := (Array.getElem?_eq_some_iff.1 hnew).1
      have e2 : w4.cell? ⟨bx, 2, none⟩ = some (.slice a1 xl.len c1) := cell_of_row w4 bx 2 _ _ _ hnew
      have e3 : w4.cell? ⟨bx, 3, none⟩ = some (.slice a2 xb.len c2) := cell_of_row w4 bx 3 _ _ _ hnew
      have e4 : w4.cell? ⟨bx, 4, none⟩ = some (.slice a3 xe.len c3) := cell_of_row w4 bx 4 _ _ _ hnew
      rw [← hbx, ← hw4]
      rw [← hw4] at Y
      have HX := Lib.hid hbx
      clear hw4 hnew d0 d1 d2 d3 d4 hbx
      go_region_held3 (fun w' => (w'.cell? ⟨bx, 2, none⟩ = some (.slice a1 xl.len c1) ∧ w'.cell? ⟨bx, 3, none⟩ = some (.slice a2 xb.len c2) ∧ w'.cell? ⟨bx, 4, none⟩ = some (.slice a3 xe.len c3)) ∧ Below w4.heap.size w4 w')
        (first | assumption | exact ⟨⟨e2, e3, e4⟩, (Below.refl _ _).drew⟩ | exact keep3 hlt4 (by assumption) (by assumption))
        (first
          | (go_at_call_of 52 (Value.slice a1 xl.len c1); refine (deep_arm Y.out.2.2.2.2.2.2.2.2.2.1 (Nat.le_trans Y.out.2.2.2.2.2.2.2.2.1 Y.out.2.2.2.2.2.2.2.1.size) Y.out.2.2.2.2.1 (by assumption)).mono ?_; rintro e w'' ⟨rfl, hk⟩)
          | (go_at_call_of 52 (Value.slice a2 xb.len c2); refine (deep_arm Y.out.2.2.2.2.2.2.2.2.2.2.1 (Nat.le_trans Y.out.2.2.2.2.2.2.2.2.1 Y.out.2.2.2.2.2.2.2.1.size) Y.out.2.2.2.2.2.1 (by assumption)).mono ?_; rintro e w'' ⟨rfl, hk⟩)
          | (go_at_call_of 52 (Value.slice a3 xe.len c3); refine (deep_arm Y.out.2.2.2.2.2.2.2.2.2.2.2 (Nat.le_trans Y.out.2.2.2.2.2.2.2.2.1 Y.out.2.2.2.2.2.2.2.1.size) Y.out.2.2.2.2.2.2.1 (by assumption)).mono ?_; rintro e w'' ⟨rfl, hk⟩))
      rename_i hH
      have Z := Lib.hid hH.2
      clear hH
      try simp only [ite_max]
      obtain ⟨z, hz⟩ : ∃ z, z = max n (IntKind.i64.wrap (1 + max (max (deep wrapI xl) (deep wrapI xb)) (deep wrapI xe))) := ⟨_, rfl⟩
      rw [← hz]
      have HZ := Lib.hid hz
      clear hz
      generalize max (max (deep wrapI xl) (deep wrapI xb)) (deep wrapI xe) = m3
      generalize IntKind.i64.wrap (1 + m3) = m4
      go_wp2_with fail
      go_roundg (xs.items.length - (i + 1))
      case measure => omega
      case rel =>
        refine ⟨i + 1, _, hlt, rfl, by go_num, rfl, ?_, ?_, ?_⟩
        · have := HZ.out; omega
        · rw [HZ.out]
          have hd := Y.out.2.1
          have hx := Y.out.2.2.1
          rw [Y.out.2.2.2.1, ← hx] at hd
          simp only [deepL] at hd
          exact max_step hd
        · exact (Y.out.1.trans (Y.out.2.2.2.2.2.2.2.1.mono Y.out.1.size)).trans (Z.out.mono (Nat.le_trans Y.out.1.size Y.out.2.2.2.2.2.2.2.1.size))
    · obtain rfl : i = xs.items.length := by omega
      clear hlt
      go_wp2_with fail
      go_ret
      exact ⟨by rw [deep_items, ← hd, List.drop_length]; simp [deepL]; omega, hb⟩

/-- The document's one. -/
def RDeepSaid (tw : Bool) (x : Ns) : Prop := ∀ (w : World) (B : Nat) (v : Value), B ≤ w.heap.size → Nodes w (· < B) tw v x → Calls Tryd.prog 56 #[v] w fun e w' => e = .returned (.int .i64 (deep wrapI x)) ∧ Below w.heap.size w w'

theorem rdeep_arm {tw : Bool} {x : Ns} (hI : RDeepSaid tw x) {w4 w' : World} {B : Nat} {v : Value} (hB : B ≤ w4.heap.size) (hN : Nodes w4 (· < B) tw v x) {X : Prop} (hS : X ∧ Below w4.heap.size w4 w') :
    Calls Tryd.prog 56 #[v] w' fun e w'' => e = .returned (.int .i64 (deep wrapI x)) ∧ Below w'.heap.size w' w'' :=
  hI w' B v (Nat.le_trans hB hS.2.size) (hN.below (hS.2.mono hB))

theorem keepAt {w4 w' w'' : World} {bx o2 o3 o4 : Nat} {v1 v2 v3 : Value} (hlt : bx < w4.heap.size) (hS : (w'.cell? ⟨bx, o2, none⟩ = some v1 ∧ w'.cell? ⟨bx, o3, none⟩ = some v2 ∧ w'.cell? ⟨bx, o4, none⟩ = some v3) ∧ Below w4.heap.size w4 w') (hk : Below w'.heap.size w' w'') :
    (w''.cell? ⟨bx, o2, none⟩ = some v1 ∧ w''.cell? ⟨bx, o3, none⟩ = some v2 ∧ w''.cell? ⟨bx, o4, none⟩ = some v3) ∧ Below w4.heap.size w4 w'' := by
  obtain ⟨⟨h2, h3, h4⟩, hb⟩ := hS
  have e : ∀ o, w''.cell? ⟨bx, o, none⟩ = w'.cell? ⟨bx, o, none⟩ := fun o => World.cell?_of_block (hk.block bx (Nat.lt_of_lt_of_le hlt hb.size))
  exact ⟨⟨(e _).trans h2, (e _).trans h3, (e _).trans h4⟩, hb.trans (hk.mono hb.size)⟩

set_option maxHeartbeats 4000000 in
theorem rdeep_said (tw : Bool) : ∀ xs, RDeepSaid tw xs := by
  refine Ns.each fun xs ih w B v hB hv => ?_
  obtain ⟨a, c, rfl, hr, hc⟩ := hv.open_
  have HI := Lib.hid ih
  have HC := Lib.hid hc
  have l0 : (0 : Int) ≤ (xs.items.length : Int) := by omega
  have l1 : (xs.items.length : Int) ≤ 140737488351232 := by have := hr.2.2.1; omega
  clear ih hv hc hr
  go_enter Tryd.func56, Tryd.ntmps56
  go_wp2_with fail
  go_loopg [3, 4] xs.items.length (fun gk v2 v7 wr => DeepAt w xs gk v2 v7 wr)
  case atStart => exact ⟨0, 0, Nat.zero_le _, rfl, rfl, rfl, Int.le_refl _, by rw [List.drop_zero, ← deep_items]; have := deep_nonneg wrapI xs; omega, Below.refl _ _⟩
  case round =>
    obtain ⟨i, n, hi, rfl, rfl, rfl, hn, hd, hb⟩ := hrel
    have i0 : (0 : Int) ≤ (i : Int) := by omega
    by_cases hlt : i < xs.items.length
    · have i1 : (i : Int) < (xs.items.length : Int) := by omega
      obtain ⟨b, off, v1, v2, v3, rfl, hS, hN⟩ := HC.out i hlt
      have hN' := hN.frame hS fun k hk _ => hb.block k (Nat.lt_of_lt_of_le hk hB)
      obtain ⟨x, hx⟩ : ∃ x, x = xs.items[i] := ⟨_, rfl⟩
      rw [← hx] at hN'
      obtain ⟨kd, tt, xl, xb, xe⟩ := x
      have d2 := hN'.d2
      have d3 := hN'.d3
      have d4 := hN'.d4
      obtain ⟨a1, c1, rfl, s1, m1⟩ := hN'.l
      obtain ⟨a2, c2, rfl, s2, m2⟩ := hN'.body
      obtain ⟨a3, c3, rfl, s3, m3⟩ := hN'.els
      simp only at d2 d3 d4
      have n1 : Nodes wr (· < B) tw (.slice a1 xl.len c1) xl := ⟨a1, c1, rfl, s1, m1⟩
      have n2 : Nodes wr (· < B) tw (.slice a2 xb.len c2) xb := ⟨a2, c2, rfl, s2, m2⟩
      have n3 : Nodes wr (· < B) tw (.slice a3 xe.len c3) xe := ⟨a3, c3, rfl, s3, m3⟩
      have hBr : B ≤ wr.heap.size := Nat.le_trans hB hb.size
      have hbx : b < wr.heap.size := Nat.lt_of_lt_of_le hS hBr
      have hI := HI.out _ (List.getElem_mem hlt)
      rw [← hx] at hI
      have hdr := items_cons_drop xs i hlt
      have Y := Lib.hid (And.intro hb (And.intro hd (And.intro hx (And.intro hdr (And.intro n1 (And.intro n2 (And.intro n3 (And.intro hBr hI))))))))
      clear hN hN' s1 s2 s3 m1 m2 m3 n1 n2 n3 hb hd hx hdr hBr hI hS
      go_upto_region 5 with fail
      go_region_held3 (fun w' => (w'.cell? ⟨b, off + i * 5 + 2, none⟩ = some (.slice a1 xl.len c1) ∧ w'.cell? ⟨b, off + i * 5 + 3, none⟩ = some (.slice a2 xb.len c2) ∧ w'.cell? ⟨b, off + i * 5 + 4, none⟩ = some (.slice a3 xe.len c3)) ∧ Below wr.heap.size wr w')
        (first | assumption | exact ⟨⟨d2, d3, d4⟩, (Below.refl _ _).drew⟩ | exact keepAt hbx (by assumption) (by assumption))
        (first
          | (go_at_call_of 56 (Value.slice a1 xl.len c1); refine (rdeep_arm Y.out.2.2.2.2.2.2.2.2.1 Y.out.2.2.2.2.2.2.2.1 Y.out.2.2.2.2.1 (by assumption)).mono ?_; rintro e w'' ⟨rfl, hk⟩)
          | (go_at_call_of 56 (Value.slice a2 xb.len c2); refine (rdeep_arm Y.out.2.2.2.2.2.2.2.2.2.1 Y.out.2.2.2.2.2.2.2.1 Y.out.2.2.2.2.2.1 (by assumption)).mono ?_; rintro e w'' ⟨rfl, hk⟩)
          | (go_at_call_of 56 (Value.slice a3 xe.len c3); refine (rdeep_arm Y.out.2.2.2.2.2.2.2.2.2.2 Y.out.2.2.2.2.2.2.2.1 Y.out.2.2.2.2.2.2.1 (by assumption)).mono ?_; rintro e w'' ⟨rfl, hk⟩))
      rename_i hH
      have Z := Lib.hid hH.2
      clear hH
      try simp only [ite_max]
      obtain ⟨z, hz⟩ : ∃ z, z = max n (IntKind.i64.wrap (1 + max (deep wrapI xl) (max (deep wrapI xb) (deep wrapI xe)))) := ⟨_, rfl⟩
      rw [← hz]
      have HZ := Lib.hid hz
      clear hz
      generalize max (deep wrapI xl) (max (deep wrapI xb) (deep wrapI xe)) = m3
      generalize IntKind.i64.wrap (1 + m3) = m4
      go_wp2_with fail
      go_roundg (xs.items.length - (i + 1))
      case measure => omega
      case rel =>
        refine ⟨i + 1, _, hlt, rfl, by go_num, rfl, ?_, ?_, ?_⟩
        · have := HZ.out; omega
        · rw [HZ.out, max_assoc3]
          have hd := Y.out.2.1
          have hx := Y.out.2.2.1
          rw [Y.out.2.2.2.1, ← hx] at hd
          simp only [deepL] at hd
          exact max_step hd
        · exact Y.out.1.trans (Z.out.mono Y.out.1.size)
    · obtain rfl : i = xs.items.length := by omega
      clear hlt
      go_wp2_with fail
      go_ret
      exact ⟨by rw [deep_items, ← hd, List.drop_length]; simp [deepL]; omega, hb⟩
end Go.Proofs.YtiefpffccmdcoaaDoor
