/- Trees: the reader: an expression. -/
import Derived.Test.YtobpnjnfpgcpaaaGreatDoorPxResT
namespace Go.Proofs.YtobpnjnfpgcpaaaGreatDoor
open Go.RowKit Go.My Go.Nd

set_option maxRecDepth 100000 in
theorem row_t {w : World} {rb : Nat} {fn : FuncId} {first cap : Array Value} {most : Nat} {sg : List Tx} {sb : Nat} (hs : SignsAt w sb sg) (hrb : rb < w.heap.size) (hne : sb ≠ rb) {Q : Ending → World → Prop}
    (hQ : ∀ k0 k1 k2 k3 w', Below w.heap.size w w' → RowCap w' rb (.func (.func fn) first cap) most sg k0 k1 k2 k3 sb → Q (.returned (.func (.func 146) #[] #[.pointer (some ⟨k0, 0, none⟩), .pointer (some ⟨k1, 0, none⟩), .pointer (some ⟨k2, 0, none⟩), .pointer (some ⟨k3, 0, none⟩)])) w') :
    Calls Tryz.prog 136 #[.pointer (some ⟨rb, 0, none⟩), .int .i64 (most : Int), .slice (some ⟨sb, 0, none⟩) sg.length sg.length, .func (.func fn) first cap] w Q := by
  obtain ⟨a1, n1, z1⟩ := Put.new w #[.pointer (some ⟨rb, 0, none⟩)] 64
  have H := Lib.hid hQ
  have HS := Lib.hid (And.intro hs (And.intro hrb hne))
  clear hQ hs a1 n1 z1
  go_enter Tryz.func136, Tryz.ntmps136
  go_wp2_with fail
  obtain ⟨a1, n1, z1⟩ := Put.new w #[.pointer (some ⟨rb, 0, none⟩)] 64
  generalize w.alloc (.cells #[.pointer (some ⟨rb, 0, none⟩)] 64) = w1 at *
  obtain ⟨a2, n2, z2⟩ := Put.new w1 #[.int .i64 (most : Int)] 3
  generalize w1.alloc (.cells #[.int .i64 (most : Int)] 3) = w2 at *
  obtain ⟨a3, n3, z3⟩ := Put.new w2 #[.slice (some ⟨sb, 0, none⟩) sg.length sg.length] 48
  generalize w2.alloc (.cells #[.slice (some ⟨sb, 0, none⟩) sg.length sg.length] 48) = w3 at *
  obtain ⟨a4, n4, z4⟩ := Put.new w3 #[.func (.func fn) first cap] 95
  generalize w3.alloc (.cells #[.func (.func fn) first cap] 95) = w4 at *
  have hb : Below w.heap.size w w4 := ((a1.trans (a2.mono a1.size)).trans (a3.mono (by omega))).trans (a4.mono (by omega))
  have e1 : w4.heap[w.heap.size]? = _ := (a4.block _ (by omega)).trans ((a3.block _ (by omega)).trans ((a2.block _ (by omega)).trans n1))
  have e2 := (a4.block w1.heap.size (by omega)).trans ((a3.block _ (by omega)).trans n2)
  have e3 := (a4.block w2.heap.size (by omega)).trans n3
  have e4 := n4
  rw [z3, z2, z1] at e4
  rw [z2, z1] at e3
  rw [z1] at e2
  have hlt := HS.out.2.1
  exact H.out _ _ _ _ w4 hb ⟨e4, e2, e3, e1, ⟨(hb.block _ (heap_lt HS.out.1.1)).trans HS.out.1.1, HS.out.1.2⟩, by omega, by omega, by omega, by omega, HS.out.2.2⟩

set_option maxRecDepth 100000 in
set_option maxHeartbeats 2000000 in
theorem expr_r {rb : Nat} {tv : Value} {xs : List To.T} {inn : Bool} {n : Nat} (hr : Reads 137 #[.pointer (some ⟨rb, 0, none⟩)] rb tv xs inn (fun _ => True) n sg) :
    Reads 131 #[.pointer (some ⟨rb, 0, none⟩)] rb tv xs inn (fun _ => True) n expr := by
  intro w ts hn _ h
  have hle := h.le
  rw [Nd.expr_is xs.length ts hle]
  obtain ⟨K, hK⟩ : ∃ K, K = xs.length := ⟨_, rfl⟩
  have HKK := Lib.hid hK
  have hKl : K ≤ 65536 := by have := h.len; omega
  have R0 := RA.start h.lt
  have h0 := h.later (Put.new w #[.int .u8 0, .string ⟨#[]⟩, .slice none 0 0, .slice none 0 0, .slice none 0 0] TN).1
  obtain ⟨c, hc⟩ : ∃ c, c = w.heap.size := ⟨_, rfl⟩
  obtain ⟨wA, hwA⟩ : ∃ wA, wA = w.alloc (.cells #[.int .u8 0, .string ⟨#[]⟩, .slice none 0 0, .slice none 0 0, .slice none 0 0] TN) := ⟨_, rfl⟩
  rw [← hwA] at R0 h0
  rw [← hc] at R0
  obtain ⟨ao, cap, hv, _, _, _⟩ := h.toks
  subst hv
  rw [← hK] at h0 ⊢
  have c0 := h0.cell.1
  have H := Lib.hid (And.intro R0 (And.intro h0 (And.intro hn hKl)))
  have HR := Lib.hid hr
  clear hr h R0 h0 hle hn
  go_enter Tryz.func131, Tryz.ntmps131
  go_upto_region 1 with fail
  rw [← hwA, ← hc]
  clear hwA hc hK
  go_wp2_with fail
  have S1 : SignsAt (wA.alloc (.cells #[.string ⟨#[42]⟩, .string ⟨#[47]⟩] 9)) wA.heap.size muls := ⟨(Put.new wA _ _).2.1, by decide⟩
  refine row_t (most := K) (sg := muls) S1 (by have := H.out.2.1.lt; have := (Put.new wA #[.string ⟨#[42]⟩, .string ⟨#[47]⟩] 9).2.2; omega) (Nat.ne_of_gt H.out.2.1.lt) ?_
  intro k0 k1 k2 k3 w1 hb1 C1
  have B1 := (Put.new wA #[.string ⟨#[42]⟩, .string ⟨#[47]⟩] 9).1.trans (hb1.mono (Put.new wA #[.string ⟨#[42]⟩, .string ⟨#[47]⟩] 9).1.size)
  have X1 := Lib.hid (And.intro B1 C1)
  clear S1 hb1 C1 B1
  go_wp2_with fail
  have S2 : SignsAt (w1.alloc (.cells #[.string ⟨#[43]⟩, .string ⟨#[45]⟩] 9)) w1.heap.size adds := ⟨(Put.new w1 _ _).2.1, by decide⟩
  have q1 := X1.out.1.size
  refine row_t (most := K) (sg := adds) S2 (by have := H.out.2.1.lt; have := (Put.new w1 #[.string ⟨#[43]⟩, .string ⟨#[45]⟩] 9).2.2; omega) (by have := H.out.2.1.lt; omega) ?_
  intro j0 j1 j2 j3 w2 hb2 C2
  have B2 := (Put.new w1 #[.string ⟨#[43]⟩, .string ⟨#[45]⟩] 9).1.trans (hb2.mono (Put.new w1 #[.string ⟨#[43]⟩, .string ⟨#[45]⟩] 9).1.size)
  have X2 := Lib.hid (And.intro B2 (And.intro C2 q1))
  clear S2 hb2 C2 B2 q1
  go_wp2_with fail
  have S3 : SignsAt (w2.alloc (.cells #[.string ⟨#[61, 61]⟩, .string ⟨#[33, 61]⟩, .string ⟨#[60]⟩, .string ⟨#[60, 61]⟩] 9)) w2.heap.size cmps := ⟨(Put.new w2 _ _).2.1, by decide⟩
  have q2 := X2.out.1.size
  refine row_t (most := 1) (sg := cmps) S3 (by have := H.out.2.1.lt; have := X2.out.2.2; have := (Put.new w2 #[.string ⟨#[61, 61]⟩, .string ⟨#[33, 61]⟩, .string ⟨#[60]⟩, .string ⟨#[60, 61]⟩] 9).2.2; omega) (by have := H.out.2.1.lt; have := X2.out.2.2; omega) ?_
  intro i0 i1 i2 i3 w3 hb3 C3
  have B3 := (Put.new w2 #[.string ⟨#[61, 61]⟩, .string ⟨#[33, 61]⟩, .string ⟨#[60]⟩, .string ⟨#[60, 61]⟩] 9).1.trans (hb3.mono (Put.new w2 #[.string ⟨#[61, 61]⟩, .string ⟨#[33, 61]⟩, .string ⟨#[60]⟩, .string ⟨#[60, 61]⟩] 9).1.size)
  have C1' := (X1.out.2.later X2.out.1).later B3
  have C2' := X2.out.2.1.later B3
  have R1 := row1_t (fn := 137) (first := #[.pointer (some ⟨rb, 0, none⟩)]) (cap := #[]) (K := fun _ => True) (most := K) (sg := muls) (fun _ => rfl) (fun _ _ _ _ => trivial) (by rw [Array.append_empty]; exact HR.out) sg_down H.out.2.2.2 (by decide) (by decide) (k0 := k0) (k1 := k1) (k2 := k2) (k3 := k3) (sb := wA.heap.size)
  have R2 := row1_t (fn := 146) (first := #[]) (cap := #[.pointer (some ⟨k0, 0, none⟩), .pointer (some ⟨k1, 0, none⟩), .pointer (some ⟨k2, 0, none⟩), .pointer (some ⟨k3, 0, none⟩)]) (K := fun w => True ∧ RowCap w rb (.func (.func 137) #[.pointer (some ⟨rb, 0, none⟩)] #[]) K muls k0 k1 k2 k3 wA.heap.size) (read := prodOf K sg) (most := K) (sg := adds) (fun _ => rfl) (fun _ _ h hs => ⟨trivial, h.2.step hs⟩) (by rw [Array.empty_append]; exact R1) (prodOf_down sg_down K) H.out.2.2.2 (by decide) (by decide) (k0 := j0) (k1 := j1) (k2 := j2) (k3 := j3) (sb := w1.heap.size)
  have R3 := row1_t (fn := 146) (first := #[]) (cap := #[.pointer (some ⟨j0, 0, none⟩), .pointer (some ⟨j1, 0, none⟩), .pointer (some ⟨j2, 0, none⟩), .pointer (some ⟨j3, 0, none⟩)]) (K := fun w => (True ∧ RowCap w rb (.func (.func 137) #[.pointer (some ⟨rb, 0, none⟩)] #[]) K muls k0 k1 k2 k3 wA.heap.size) ∧ RowCap w rb (.func (.func 146) #[] #[.pointer (some ⟨k0, 0, none⟩), .pointer (some ⟨k1, 0, none⟩), .pointer (some ⟨k2, 0, none⟩), .pointer (some ⟨k3, 0, none⟩)]) K adds j0 j1 j2 j3 w1.heap.size) (read := sumOf K sg) (most := 1) (sg := cmps) (fun _ => rfl) (fun _ _ h hs => ⟨⟨trivial, h.1.2.step hs⟩, h.2.step hs⟩) (by rw [Array.empty_append]; exact R2) (sumOf_down sg_down K) (by decide) (by decide) (by decide) (k0 := i0) (k1 := i1) (k2 := i2) (k3 := i3) (sb := w2.heap.size)
  rw [← HKK.out] at R3
  have BB := (X1.out.1.trans (X2.out.1.mono X1.out.1.size)).trans (B3.mono (Nat.le_trans X1.out.1.size X2.out.1.size))
  have X3 := Lib.hid (R3 w3 ts H.out.2.2.1 ⟨⟨⟨trivial, C1'⟩, C2'⟩, C3⟩ (H.out.2.1.later BB))
  have XB := Lib.hid (H.out.1.below BB)
  clear R1 R2 R3 C1' C2' B3 S3 hb3 C3 BB q2
  go_wp2_with fail
  refine X3.out.mono ?_
  rintro e w4 ⟨hs4, h4, hres⟩
  have hcm : row 1 cmps (sumOf K sg) ts = cmpOf K sg ts := rfl
  have XR := XB.out.step hs4
  cases hrd : cmpOf K sg ts with
  | bad r =>
    rw [hcm, hrd] at hres h4
    subst hres
    go_wp2_with fail
    exact ⟨rfl, XR.bad h4⟩
  | ok x r =>
    rw [hcm, hrd] at hres h4
    have HD := Lib.hid hrd
    obtain ⟨v, rfl, hN⟩ := hres
    obtain ⟨a1, d1, a2, d2, a3, d3, rfl⟩ := hN.form
    have hN' := NR.past XB.out hN
    obtain ⟨x0, x1, x2, x3, x4, g0, g1, g2, g3, g4⟩ := row5 XR.row
    have XE := Lib.hid (And.intro XR (And.intro h4 hN'))
    clear XR h4 hN hN' hs4 hrd hcm
    go_wp2_with fail
    have hp := put5 XE.out.1.row (.int .u8 (x.kind : Int)) (.string (tx x.text)) (.slice a1 x.l.len d1) (.slice a2 x.body.len d2) (.slice a3 x.els.len d3)
    exact bodyPost_ret (results_cell1 rfl _ _ _ rfl (nodeVar _ c _ _ _ _ _ hp.row)) rfl (by rw [HD.out]; exact XE.out.1.fin XE.out.2.1 XE.out.2.2 (fun _ h => h) hp)
