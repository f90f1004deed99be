/- Trees: the reader: one, and then, so often at most, a sign and one more. -/
import Derived.Test.YtobpnjnfpgcpaaaGreatDoorPxNodeT
import Derived.Deep.RegionHeld3
import Derived.Deep.RegionLaw
import Derived.Deep.RegionWith
namespace Go.Proofs.YtobpnjnfpgcpaaaGreatDoor
open Go.RowKit Go.My Go.Nd

/-- Signs in a block of their own. -/
def SignsAt (w : World) (sb : Nat) (sg : List Tx) : Prop := w.heap[sb]? = some (.cells (sg.map fun s => Value.string (bs s)).toArray 9 (0, 0)) ∧ sg.length ≤ 9223372036854775807

theorem has_sign {w : World} {sb : Nat} {sg : List Tx} (h : SignsAt w sb sg) (s : Tx) {Q : Ending → World → Prop} (hQ : Q (.returned (.bool (sg.contains s))) w) :
    Calls Tryz.prog 69 #[.slice (some ⟨sb, 0, none⟩) sg.length sg.length, .string (bs s)] w Q := by
  refine Calls.mono (Tryz.slices_Contains_string sb 0 sg.length sg.length (sg.map bs) (bs s) w (by simp) h.2 (fun j hj => ?_)) ?_
  · rw [Nat.zero_add, cell_of_row _ _ _ _ _ _ h.1]
    have hj' : j < sg.length := by simpa using hj
    simp [List.getElem?_map, List.getElem?_eq_getElem hj', List.getD_eq_getElem?_getD]
  · rintro e w' ⟨rfl, rfl⟩
    have : Lib.containsS ((sg.map bs).take sg.length) (bs s) = sg.contains s := by
      rw [List.take_of_length_le (by simp), Bool.eq_iff_iff, Lib.containsS_iff]
      simp only [List.mem_map, List.contains_iff_mem]
      constructor
      · rintro ⟨x, hx, he⟩
        have := congrArg (fun s : ByteArray => s.data.toList) he
        simp only [bs_list] at this
        rw [← this]; exact hx
      · intro h; exact ⟨s, h, rfl⟩
    rw [this]; exact hQ

/-- What a row's function holds on to. -/
structure RowCap (w : World) (rb : Nat) (fv : Value) (most : Nat) (sg : List Tx) (k0 k1 k2 k3 sb : Nat) : Prop where
  read : w.heap[k0]? = some (.cells #[fv] 95 (0, 0))
  most : w.heap[k1]? = some (.cells #[.int .i64 (most : Int)] 3 (0, 0))
  signs : w.heap[k2]? = some (.cells #[.slice (some ⟨sb, 0, none⟩) sg.length sg.length] 48 (0, 0))
  rd : w.heap[k3]? = some (.cells #[.pointer (some ⟨rb, 0, none⟩)] 64 (0, 0))
  list : SignsAt w sb sg
  n0 : k0 ≠ rb
  n1 : k1 ≠ rb
  n2 : k2 ≠ rb
  n3 : k3 ≠ rb
  nb : sb ≠ rb

theorem heap_lt {w : World} {b : Nat} {o : Obj} (h : w.heap[b]? = some o) : b < w.heap.size := (Array.getElem?_eq_some_iff.1 h).1

theorem RowCap.step {w w' : World} {rb : Nat} {fv : Value} {most : Nat} {sg : List Tx} {k0 k1 k2 k3 sb : Nat} (h : RowCap w rb fv most sg k0 k1 k2 k3 sb) (hs : Step w w' (some rb)) : RowCap w' rb fv most sg k0 k1 k2 k3 sb :=
  ⟨(hs.kept (heap_lt h.read) h.n0).trans h.read, (hs.kept (heap_lt h.most) h.n1).trans h.most, (hs.kept (heap_lt h.signs) h.n2).trans h.signs, (hs.kept (heap_lt h.rd) h.n3).trans h.rd, ⟨(hs.kept (heap_lt h.list.1) h.nb).trans h.list.1, h.list.2⟩, h.n0, h.n1, h.n2, h.n3, h.nb⟩

/-- A function value that reads a node, as often as it is called, while K holds and so many tokens are left at most. -/
def Reads (fn : FuncId) (args : Array Value) (rb : Nat) (tv : Value) (xs : List To.T) (inn : Bool) (K : World → Prop) (n : Nat) (read : List Tx → R Nd) : Prop :=
  ∀ (w : World) (ts : List Tx), ts.length ≤ n → K w → Rd w rb tv xs ts inn → Calls Tryz.prog fn args w (Got w rb tv xs inn (read ts))

/-- At the head of a round. -/
structure RowSt (w : World) (rb : Nat) (tv : Value) (xs : List To.T) (inn : Bool) (K : World → Prop) (n : Nat) (fv : Value) (most : Nat) (sg : List Tx) (k0 k1 k2 k3 sb c b5 : Nat) (tot : R Nd) (read : List Tx → R Nd) (i : Nat) (x : Nd) (ts : List Tx) (v : Value) (wr : World) : Prop where
  left : i ≤ most
  plain : more sg read (most - i) x ts = tot
  len : ts.length ≤ n
  step : Step w wr (some rb)
  rd : Rd wr rb tv xs ts inn
  keep : K wr
  cap : RowCap wr rb fv most sg k0 k1 k2 k3 sb
  res : wr.heap[c]? = some (.cells #[.int .u8 0, .string ⟨#[]⟩, .slice none 0 0, .slice none 0 0, .slice none 0 0] TN (0, 0))
  box : ∃ cs, v = .agg cs ∧ wr.heap[b5]? = some (.cells cs TN (0, 0))
  node : NS wr TN (fun b => c < b ∧ b ≠ b5) v x
  hc : c = w.heap.size
  hrb : rb < c
  hb5 : c < b5
def RowAt (w : World) (rb : Nat) (tv : Value) (xs : List To.T) (inn : Bool) (K : World → Prop) (n : Nat) (fv : Value) (most : Nat) (sg : List Tx) (k0 k1 k2 k3 sb c b5 : Nat) (tot : R Nd) (read : List Tx → R Nd) (gk : Nat) (v6 : Value) (wr : World) : Prop :=
  ∃ i x ts v, gk = most - i ∧ v6 = .int .i64 (i : Int) ∧ RowSt w rb tv xs inn K n fv most sg k0 k1 k2 k3 sb c b5 tot read i x ts v wr

theorem RowCap.later {w w' : World} {rb : Nat} {fv : Value} {most : Nat} {sg : List Tx} {k0 k1 k2 k3 sb : Nat} (h : RowCap w rb fv most sg k0 k1 k2 k3 sb) (hb : Below w.heap.size w w') : RowCap w' rb fv most sg k0 k1 k2 k3 sb := h.step (Step.of_below hb)

def RowS (wr : World) (rb most : Nat) (sv : Value) (k1 k2 k3 : Nat) (w' : World) : Prop :=
  (w'.cell? ⟨k1, 0, none⟩ = some (.int .i64 (most : Int)) ∧ w'.cell? ⟨k2, 0, none⟩ = some sv ∧ w'.cell? ⟨k3, 0, none⟩ = some (.pointer (some ⟨rb, 0, none⟩))) ∧ Below wr.heap.size wr w'
theorem rowKeep {wr w' w'' : World} {rb most : Nat} {sv : Value} {k1 k2 k3 : Nat} (hS : (w'.cell? ⟨k1, 0, none⟩ = some (.int .i64 (most : Int)) ∧ w'.cell? ⟨k2, 0, none⟩ = some sv ∧ w'.cell? ⟨k3, 0, none⟩ = some (.pointer (some ⟨rb, 0, none⟩))) ∧ Below wr.heap.size wr w') (hk : Below w'.heap.size w' w'') :
    (w''.cell? ⟨k1, 0, none⟩ = some (.int .i64 (most : Int)) ∧ w''.cell? ⟨k2, 0, none⟩ = some sv ∧ w''.cell? ⟨k3, 0, none⟩ = some (.pointer (some ⟨rb, 0, none⟩))) ∧ Below wr.heap.size wr w'' := by
  obtain ⟨⟨h1, h2, h3⟩, hb⟩ := hS
  exact ⟨⟨(World.cell?_of_block (hk.block _ (World.block_lt_of_cell? _ _ h1))).trans h1, (World.cell?_of_block (hk.block _ (World.block_lt_of_cell? _ _ h2))).trans h2, (World.cell?_of_block (hk.block _ (World.block_lt_of_cell? _ _ h3))).trans h3⟩, hb.trans (hk.mono hb.size)⟩
theorem look_arm {wr w' : World} {rb : Nat} {tv : Value} {xs : List To.T} {ts : List Tx} {inn : Bool} (h : Rd wr rb tv xs ts inn) (k : Nat) (hk : k ≤ 1) {X : Prop} (hS : X ∧ Below wr.heap.size wr w') :
    Calls Tryz.prog 91 #[.pointer (some ⟨rb, 0, none⟩), .int .i64 (k : Int)] w' fun e w'' => ∃ i j, e = .returned (.agg #[.int .u8 i, .string (bs (ts.getD k [])), .int .i64 j]) ∧ Below w'.heap.size w' w'' :=
  look_t (h.later hS.2) k hk fun i j _ hb => ⟨i, j, rfl, hb⟩
theorem sign_arm {wr w' : World} {sb : Nat} {sg : List Tx} (h : SignsAt wr sb sg) (s : Tx) {cn : Bool} (hcn : cn = sg.contains s) {X : Prop} (hS : X ∧ Below wr.heap.size wr w') :
    Calls Tryz.prog 69 #[.slice (some ⟨sb, 0, none⟩) sg.length sg.length, .string (bs s)] w' fun e w'' => e = .returned (.bool cn) ∧ Below w'.heap.size w' w'' :=
  hcn ▸ has_sign ⟨(hS.2.block _ (heap_lt h.1)).trans h.1, h.2⟩ s ⟨rfl, Below.refl _ _⟩

theorem more_stop {sg : List Tx} {read : List Tx → R Nd} (k : Nat) (x : Nd) (ts : List Tx) (h : k = 0 ∨ sg.contains (ts.getD 0 []) = false) : more sg read k x ts = .ok x ts := by
  cases k with
  | zero => rfl
  | succ k =>
    cases ts with
    | nil => rfl
    | cons s r =>
      have hs : sg.contains s = false := by rcases h with h | h; · cases h
                                            · exact h
      unfold more
      rw [if_neg (by rw [hs]; decide)]
theorem row_bad {sg : List Tx} {read : List Tx → R Nd} {most i : Nat} {x : Nd} {s : Tx} {r q : List Tx} (_ : i ≤ most) (hlt : i < most) (hs : true = sg.contains s) (hr : read r = .bad q) : more sg read (most - i) x (s :: r) = .bad q := by
  obtain ⟨k, hk⟩ : ∃ k, most - i = k + 1 := ⟨most - i - 1, by omega⟩
  rw [hk]; unfold more; rw [if_pos hs.symm, hr]; rfl
theorem row_ok {sg : List Tx} {read : List Tx → R Nd} {most i : Nat} {x y : Nd} {s : Tx} {r q : List Tx} (hlt : i < most) (hs : true = sg.contains s) (hr : read r = .ok y q) : more sg read (most - i) x (s :: r) = more sg read (most - (i + 1)) (bin s x y) q := by
  obtain ⟨k, hk⟩ : ∃ k, most - i = k + 1 := ⟨most - i - 1, by omega⟩
  rw [hk, show most - (i + 1) = k by omega]; conv => lhs; unfold more
  rw [if_pos hs.symm, hr]; rfl
theorem RowSt.rows {w : World} {rb : Nat} {tv : Value} {xs : List To.T} {inn : Bool} {K : World → Prop} {n : Nat} {fv : Value} {most : Nat} {sg : List Tx} {k0 k1 k2 k3 sb c b5 : Nat} {tot : R Nd} {read : List Tx → R Nd} {i : Nat} {x : Nd} {ts : List Tx} {v : Value} {wr w2 : World}
    (h : RowSt w rb tv xs inn K n fv most sg k0 k1 k2 k3 sb c b5 tot read i x ts v wr) (hb : Below wr.heap.size wr w2) {cs : Array Value} (hx : wr.heap[b5]? = some (.cells cs TN (0, 0))) : w2.heap[b5]? = some (.cells cs TN (0, 0)) ∧ w2.heap[c]? = some (.cells #[.int .u8 0, .string ⟨#[]⟩, .slice none 0 0, .slice none 0 0, .slice none 0 0] TN (0, 0)) :=
  ⟨(hb.block _ (heap_lt hx)).trans hx, (hb.block _ (heap_lt h.res)).trans h.res⟩
theorem RowSt.done {w : World} {rb : Nat} {tv : Value} {xs : List To.T} {inn : Bool} {K : World → Prop} {n : Nat} {fv : Value} {most : Nat} {sg : List Tx} {k0 k1 k2 k3 sb c b5 : Nat} {tot : R Nd} {read : List Tx → R Nd} {i : Nat} {x : Nd} {ts : List Tx} {v : Value} {wr w2 w3 : World}
    (h : RowSt w rb tv xs inn K n fv most sg k0 k1 k2 k3 sb c b5 tot read i x ts v wr) (hb : Below wr.heap.size wr w2) (hm : most - i = 0 ∨ sg.contains (ts.getD 0 []) = false) {cs : Array Value} (hp : Put w2 w3 c cs TN) (hv : v = .agg cs) : Got w rb tv xs inn tot (.returned (.agg cs)) w3 := by
  subst hv
  rw [← h.plain, more_stop _ _ _ hm]
  have hc := h.hc
  refine ⟨(h.step.trans (Step.of_below hb)).put hp (by omega), (h.rd.later hb).put hp h.hrb, _, rfl, ?_⟩
  exact (NS.frame (h.node.later hb) fun b hb' _ => hp.oth b (by omega)).nr fun b hb' => by omega

theorem NS.over {w w' : World} {rb : Nat} {S : Nat → Prop} {v : Value} {x : Nd} (h : NS w TN S v x) (hs : Step w w' (some rb)) (hS : ∀ b, S b → b ≠ rb) : NS w' TN (fun b => S b ∧ b < w.heap.size) v x :=
  NS.frame (NS.mono h fun _ h1 h2 => ⟨h1, h2⟩) fun b hb hlt => hs.kept hlt (hS b hb.1)
theorem RowSt.next {w : World} {rb : Nat} {tv : Value} {xs : List To.T} {inn : Bool} {K : World → Prop} {n : Nat} {fv : Value} {most : Nat} {sg : List Tx} {k0 k1 k2 k3 sb c b5 : Nat} {tot : R Nd} {read : List Tx → R Nd} {i : Nat} {x y : Nd} {s : Tx} {r1 q : List Tx} {v : Value} {wr w3 w4 w5 w6 : World} {ds : Array Value}
    (h : RowSt w rb tv xs inn K n fv most sg k0 k1 k2 k3 sb c b5 tot read i x (s :: r1) v wr) (hlt : i < most) (hsg : true = sg.contains s) (hKw : K w) (hC : RowCap w rb fv most sg k0 k1 k2 k3 sb) (hK : ∀ w w', K w → Step w w' (some rb) → K w') (hd : ∀ ts, (read ts).Down ts)
    (s3 : Step wr w3 (some rb)) (s4 : Step w3.drew w4 (some rb)) (hrd : read r1 = .ok y q) (h4 : Rd w4 rb tv xs q inn) {U : Nat → Prop} (hb5 : Below w4.heap.size w4 w5) (hN5 : NS w5 TN U (.agg ds) (bin s x y)) (hU : ∀ b, U b → c < b ∧ b ≠ b5)
    (hp : Put w5 w6 b5 ds TN) : RowSt w rb tv xs inn K n fv most sg k0 k1 k2 k3 sb c b5 tot read (i + 1) (bin s x y) q (.agg ds) w6 := by
  have hbox := h.box
  have hcb := h.hb5
  have hrc := h.hrb
  have hc := h.hc
  obtain ⟨cs, rfl, hbx⟩ := hbox
  have s45 : Step wr w5 (some rb) := ((s3.trans (Step.of_below (Below.refl _ w3).drew)).trans s4).trans (Step.of_below hb5)
  have hbw : w.heap.size ≤ wr.heap.size := h.step.size
  have st6 : Step w w6 (some rb) := (h.step.trans s45).put hp (by omega)
  have hlen := h.len
  have hq := (hd r1).lt hrd
  rw [List.length_cons] at hlen
  have hdif : ∀ k o, wr.heap[k]? = some o → k ≠ rb → k ≠ b5 → w6.heap[k]? = some o := fun k o hk h1 h2 => (hp.oth k h2).trans ((s45.kept (heap_lt hk) h1).trans hk)
  exact ⟨hlt, (row_ok hlt hsg hrd).symm.trans h.plain, by omega, st6, (h4.later hb5).put hp (by omega), hK _ _ hKw st6, hC.step st6, hdif c _ h.res (by omega) (by omega), ⟨ds, rfl, hp.row⟩,
    NS.mono (NS.frame hN5 fun b hb _ => hp.oth b (hU b hb).2) fun b hb _ => hU b hb, hc, hrc, hcb⟩
set_option maxRecDepth 100000 in
set_option maxHeartbeats 4000000 in
theorem row1_t {fn : FuncId} {first cap : Array Value} {rb : Nat} {tv : Value} {xs : List To.T} {inn : Bool} {K : World → Prop} {n : Nat} {read : List Tx → R Nd} (hcf : ∀ (wx : World), (callFunc fn (first ++ cap)).run Tryz.prog wx = .ok (.enter fn (first ++ cap)) wx)
    (hK : ∀ w w', K w → Step w w' (some rb) → K w') (hread : Reads fn (first ++ cap) rb tv xs inn K n read) (hd : ∀ ts, (read ts).Down ts) {most : Nat} {sg : List Tx} {k0 k1 k2 k3 sb : Nat} (hmost : most ≤ 65536) (hsg : sg.contains [] = false) (hsl : ∀ s ∈ sg, s.length ≤ 65536) :
    Reads 146 #[.pointer (some ⟨k0, 0, none⟩), .pointer (some ⟨k1, 0, none⟩), .pointer (some ⟨k2, 0, none⟩), .pointer (some ⟨k3, 0, none⟩)] rb tv xs inn (fun w => K w ∧ RowCap w rb (.func (.func fn) first cap) most sg k0 k1 k2 k3 sb) n (row most sg read) := by
  intro w ts hn hKC h
  obtain ⟨hKw, hC⟩ := hKC
  obtain ⟨hA, hnew, hz⟩ := Put.new w #[.int .u8 0, .string ⟨#[]⟩, .slice none 0 0, .slice none 0 0, .slice none 0 0] 39
  obtain ⟨c, hc⟩ : ∃ c, c = w.heap.size := ⟨_, rfl⟩
  obtain ⟨wA, hwA⟩ : ∃ wA, wA = w.alloc (.cells #[.int .u8 0, .string ⟨#[]⟩, .slice none 0 0, .slice none 0 0, .slice none 0 0] 39) := ⟨_, rfl⟩
  rw [← hwA] at hA hnew hz
  have hrb := h.lt
  have hst := Step.of_below (row := some rb) hA
  have HX := Lib.hid (And.intro hst (And.intro (h.later hA) (And.intro (hK _ _ hKw hst) (And.intro (hC.step hst) (And.intro (hc ▸ hnew) (And.intro hc hz))))))
  have HKW := Lib.hid (And.intro hKw hC)
  have HR := Lib.hid hread
  have HK := Lib.hid hK
  have HDN := Lib.hid hd
  have HSL := Lib.hid hsl
  have e0 := cell_of_row wA k0 0 _ _ _ HX.out.2.2.2.1.read
  simp at e0
  clear hA hnew hz hst h hKw hC hread hK hsl
  go_enter Tryz.func146, Tryz.ntmps146
  go_upto_region 1 with fail
  rw [← hwA, ← hc]
  clear hwA hc
  go_wp2_with fail
  refine (HR.out wA ts hn HX.out.2.2.1 HX.out.2.1).mono ?_
  rintro e w1 ⟨hs1, h1, hres⟩
  cases hrd : read ts with
  | bad r =>
    rw [hrd] at hres h1
    subst hres
    go_wp2_with fail
    refine ⟨rfl, ?_⟩
    rw [show row most sg read ts = .bad r by unfold row; rw [hrd]; rfl]
    exact ⟨HX.out.1.trans hs1, h1, rfl⟩
  | ok x r =>
    rw [hrd] at hres h1
    obtain ⟨v, rfl, hN⟩ := hres
    obtain ⟨u1, m1, u2, m2, u3, m3, rfl⟩ := hN.form
    obtain ⟨b5, hb5⟩ : ∃ b5, b5 = w1.heap.size := ⟨_, rfl⟩
    obtain ⟨w2, hw2⟩ : ∃ w2, w2 = w1.alloc (.cells #[.int .u8 (x.kind : Int), .string (tx x.text), .slice u1 x.l.len m1, .slice u2 x.body.len m2, .slice u3 x.els.len m3] 39) := ⟨_, rfl⟩
    obtain ⟨hA2, hn2, hz2⟩ := Put.new w1 #[.int .u8 (x.kind : Int), .string (tx x.text), .slice u1 x.l.len m1, .slice u2 x.body.len m2, .slice u3 x.els.len m3] 39
    have hdn := (hd ts).lt hrd
    have hcA : c < wA.heap.size := by have := HX.out.2.2.2.2.2; omega
    have hrbc : rb < c := by have := HX.out.2.2.2.2.2.1; omega
    rw [← hw2] at hA2 hn2 hz2
    have hst : RowSt w rb tv xs inn K n (.func (.func fn) first cap) most sg k0 k1 k2 k3 sb c b5 (row most sg read ts) read 0 x r (.agg #[.int .u8 (x.kind : Int), .string (tx x.text), .slice u1 x.l.len m1, .slice u2 x.body.len m2, .slice u3 x.els.len m3]) w2 :=
      ⟨Nat.zero_le _, by unfold row; rw [hrd]; rfl, by omega, (HX.out.1.trans hs1).trans (Step.of_below hA2), h1.later hA2, HK.out _ _ (HK.out _ _ HX.out.2.2.1 hs1) (Step.of_below hA2), (HX.out.2.2.2.1.step hs1).later hA2,
        (hA2.block c (Nat.lt_of_lt_of_le hcA hs1.size)).trans ((hs1.kept hcA (Nat.ne_of_gt hrbc)).trans HX.out.2.2.2.2.1), ⟨_, rfl, hb5 ▸ hn2⟩, (hN.ns (S := fun b => c < b ∧ b ≠ b5) fun b q1 q2 => ⟨by omega, by omega⟩).later hA2, HX.out.2.2.2.2.2.1, hrbc, by have := hs1.size; omega⟩
    have HS := Lib.hid hst
    clear hs1 h1 hN hA2 hn2 hz2 hcA hrbc hst hrd hdn e0
    go_upto_region 2 with fail
    rw [← hb5, ← hw2]
    clear hb5 hw2
    go_wp2_with fail
    go_loopg [6, 7] most (fun gk v6 v7 wr => RowAt w rb tv xs inn K n (.func (.func fn) first cap) most sg k0 k1 k2 k3 sb c b5 (row most sg read ts) read gk v6 wr)
    case atStart => exact ⟨0, x, r, _, rfl, rfl, HS.out⟩
    case round =>
      obtain ⟨i, x, ts1, v, rfl, rfl, hst⟩ := hrel
      obtain ⟨cs, rfl, hbox⟩ := hst.box
      obtain ⟨a1, d1, a2, d2, a3, d3, e⟩ := hst.node.form
      cases e
      have HT := Lib.hid (And.intro hst hbox)
      have p1 := cell_of_row wr k1 0 _ _ _ hst.cap.most
      have p2 := cell_of_row wr k2 0 _ _ _ hst.cap.signs
      have p3 := cell_of_row wr k3 0 _ _ _ hst.cap.rd
      simp at p1 p2 p3
      have i0 : (0 : Int) ≤ (i : Int) := by omega
      have i1 : (i : Int) ≤ 65536 := by have := hst.left; omega
      clear hst hbox HS
      have tT := tokText
      by_cases hlt : i < most
      · have hlti : (i : Int) < (most : Int) := by omega
        obtain ⟨s, hs⟩ : ∃ s, s = ts1.getD 0 [] := ⟨_, rfl⟩
        have hlook := fun (w' : World) (X : Prop) (hS : X ∧ Below wr.heap.size wr w') => look_arm HT.out.1.rd 0 (by decide) hS
        rw [← hs] at hlook
        have HLK := Lib.hid hlook
        have HLT := Lib.hid hlt
        have HSS := Lib.hid hs
        obtain ⟨cn, hcn⟩ : ∃ cn, cn = sg.contains s := ⟨_, rfl⟩
        have HCN := Lib.hid hcn
        clear hlook hlt hs hcn
        go_upto_region 3 with fail
        go_region_held3 (fun w' => (w'.cell? ⟨k1, 0, none⟩ = some (.int .i64 (most : Int)) ∧ w'.cell? ⟨k2, 0, none⟩ = some (.slice (some ⟨sb, 0, none⟩) sg.length sg.length) ∧ w'.cell? ⟨k3, 0, none⟩ = some (.pointer (some ⟨rb, 0, none⟩))) ∧ Below wr.heap.size wr w')
          (first | assumption | exact ⟨⟨p1, p2, p3⟩, (Below.refl _ _).drew⟩ | exact rowKeep (by assumption) (by assumption))
          (first
            | (go_at_call 91; refine (HLK.out _ _ (by assumption)).mono ?_; rintro e w'' ⟨ii, jj, rfl, hk⟩)
            | (go_at_call 69; refine (sign_arm HT.out.1.cap.list s HCN.out (by assumption)).mono ?_; rintro e w'' ⟨rfl, hk⟩))
        rename_i hH
        have HB := Lib.hid hH.2
        clear hH p1 p2 p3
        cases cn with
        | true =>
          obtain ⟨r1, hr1⟩ : ∃ r1, ts1 = s :: r1 := by
            cases ts1 with
            | nil => have := HCN.out; rw [HSS.out] at this; rw [show ([] : List Tx).getD 0 [] = [] from rfl, hsg] at this; cases this
            | cons a b => exact ⟨b, by rw [HSS.out]; rfl⟩
          subst hr1
          have g3 := cell_of_row _ k3 0 _ _ _ (HT.out.1.cap.later HB.out).rd
          simp at g3
          go_wp2_with fail
          refine next_yes (HT.out.1.rd.later HB.out) fun w3 hs3 h3 => ?_
          obtain ⟨hbx, hrs⟩ := HT.out.1.rows HB.out HT.out.2
          have hb5 := HT.out.1.hb5
          have hrbc := HT.out.1.hrb
          have hs03 := (Step.of_below (row := some rb) HB.out).trans hs3
          have hbx3 := (hs3.kept (heap_lt hbx) (by omega)).trans hbx
          have hrs3 := (hs3.kept (heap_lt hrs) (by omega)).trans hrs
          have hc3 := HT.out.1.cap.step hs03
          have hK3 := HK.out _ _ HT.out.1.keep hs03
          obtain ⟨x0, x1, x2, x3, x4, g0, g1, g2, g3, g4⟩ := row5 hbx3
          have y0 := cell_of_row _ k0 0 _ _ _ hc3.read
          simp at y0
          have hn3 := HT.out.1.node.frame (w' := w3) fun b hb hlt => ((hs3.kept (Nat.lt_of_lt_of_le hlt HB.out.size) (by omega)).trans (HB.out.block b hlt))
          have hlr : r1.length ≤ n := by have := HT.out.1.len; simp at this; omega
          have hs6 : s.length ≤ 65536 := HSL.out s (by have := HCN.out; simpa using this.symm)
          have H3 := Lib.hid (And.intro hs03 (And.intro h3 (And.intro hbx3 (And.intro hrs3 (And.intro hc3 (And.intro hK3 (And.intro hn3 (And.intro hlr hs6))))))))
          clear hs3 h3 hbx hrs hs03 hbx3 hrs3 hc3 hK3 hn3 hb5 hrbc hlr hs6
          go_upto_region 6 with fail
          have hbad : ∀ q w4, read r1 = .bad q → Step w3.drew w4 (some rb) → Rd w4 rb tv xs q inn → Got w rb tv xs inn (row most sg read ts) (.panicked wrongChain) w4 := fun q w4 hrd hs4 h4 => by
            rw [← HT.out.1.plain, row_bad HT.out.1.left HLT.out HCN.out hrd]
            exact ⟨HT.out.1.step.trans ((H3.out.1.trans (Step.of_below (Below.refl _ w3).drew)).trans hs4), h4, rfl⟩
          have HBAD := Lib.hid hbad
          have HAFT := Lib.hid (fun (w4 : World) (hs4 : Step w3.drew w4 (some rb)) => ((hs4.kept (c := b5) (heap_lt H3.out.2.2.1) (by have := HT.out.1.hb5; have := HT.out.1.hrb; omega)).trans H3.out.2.2.1))
          clear hbad
          go_region_law (first
            | (go_simp; go_at_call 147; (refine bin_t X4.out.2.2.1 X4.out.2.2.2.1 X4.out.2.2.2.2.1 H3.out.2.2.2.2.2.2.2.2 ?_); intro v5 w5 hb5' hN5; obtain ⟨p1, q1, p2, q2, p3, q3, rfl⟩ := hN5.form; have hrow5 := (hb5'.block b5 (heap_lt X4.out.2.2.2.2.2)).trans X4.out.2.2.2.2.2; obtain ⟨x0'', x1'', x2'', x3'', x4'', g0'', g1'', g2'', g3'', g4''⟩ := row5 hrow5; have X5 := Lib.hid (And.intro hb5' (And.intro hN5 hrow5)); clear hb5' hN5 hrow5)
            | (go_simp; refine (HR.out _ r1 H3.out.2.2.2.2.2.2.2.1 (HK.out _ _ H3.out.2.2.2.2.2.1 (Step.of_below (Below.refl _ w3).drew)) (H3.out.2.1.later (Below.refl _ w3).drew)).mono ?_; rintro e w4 ⟨hs4, h4, hres⟩; cases hrd : read r1; rotate_left 1; (rename_i q; rw [hrd] at hres h4; subst hres; exact ⟨rfl, HBAD.out _ _ hrd hs4 h4⟩); rename_i y q; rw [hrd] at hres h4; obtain ⟨v4, rfl, hN4⟩ := hres; obtain ⟨o1, e1, o2, e2, o3, e3, rfl⟩ := hN4.form; have hrow4 := HAFT.out w4 hs4; obtain ⟨x0', x1', x2', x3', x4', g0', g1', g2', g3', g4'⟩ := row5 hrow4; have X4 := Lib.hid (show Step w3.drew w4 (some rb) ∧ (read r1 = .ok y q ∧ Rd w4 rb tv xs q inn) ∧ NS w4 TN (fun b => (c < b ∧ b ≠ b5) ∧ b < w3.drew.heap.size) (.agg #[.int .u8 (x.kind : Int), .string (tx x.text), .slice a1 x.l.len d1, .slice a2 x.body.len d2, .slice a3 x.els.len d3]) x ∧ NS w4 TN (fun b => w3.drew.heap.size ≤ b) (.agg #[.int .u8 (y.kind : Int), .string (tx y.text), .slice o1 y.l.len e1, .slice o2 y.body.len e2, .slice o3 y.els.len e3]) y ∧ (∀ b, ((c < b ∧ b ≠ b5) ∧ b < w3.drew.heap.size) → w3.drew.heap.size ≤ b → False) ∧ w4.heap[b5]? = some (.cells #[.int .u8 (x.kind : Int), .string (tx x.text), .slice a1 x.l.len d1, .slice a2 x.body.len d2, .slice a3 x.els.len d3] TN (0, 0)) from ⟨hs4, ⟨hrd, h4⟩, NS.over (NS.later H3.out.2.2.2.2.2.2.1 (Below.refl _ w3).drew) hs4 (fun b hb => by have := HT.out.1.hrb; omega), hN4.ns (fun b h1 _ => h1), fun b h1 h2 => by omega, hrow4⟩); clear hs4 h4 hN4 hrd hrow4))
          all_goals
            have hp := put5 X5.out.2.2 (.int .u8 ((bin s x y).kind : Int)) (.string (tx (bin s x y).text)) (.slice p1 (bin s x y).l.len q1) (.slice p2 (bin s x y).body.len q2) (.slice p3 (bin s x y).els.len q3)
            have HP := Lib.hid hp
            clear hp
            go_wp2_with fail
            go_roundg (most - (i + 1))
            case measure => have := HLT.out; omega
            case rel => exact ⟨i + 1, bin s x y, q, _, rfl, by go_num, RowSt.next HT.out.1 HLT.out HCN.out HKW.out.1 HKW.out.2 HK.out HDN.out H3.out.1 X4.out.1 X4.out.2.1.1 X4.out.2.1.2 X5.out.1 X5.out.2.1 (fun b hb => by
              have b1 : b5 < w3.drew.heap.size := heap_lt H3.out.2.2.1
              have b2 := X4.out.1.size
              have b3 := HT.out.1.hb5
              rcases hb with h | h | h
              · exact h.1
              · exact ⟨by omega, by omega⟩
              · exact ⟨by omega, by omega⟩) HP.out⟩
        | false =>
          obtain ⟨hbx, hrs⟩ := HT.out.1.rows HB.out HT.out.2
          obtain ⟨x0, x1, x2, x3, x4, _, _, _, _, _⟩ := row5 hbx
          obtain ⟨y0, y1, y2, y3, y4, g0, g1, g2, g3, g4⟩ := row5 hrs
          have HQ := Lib.hid hrs
          clear hbx hrs
          go_wp2_with fail
          have hp := put5 HQ.out (.int .u8 (x.kind : Int)) (.string (tx x.text)) (.slice a1 x.l.len d1) (.slice a2 x.body.len d2) (.slice a3 x.els.len d3)
          exact bodyPost_ret (results_cell1 rfl _ _ _ rfl (nodeVar _ c _ _ _ _ _ hp.row)) rfl (HT.out.1.done HB.out (.inr (by rw [← HSS.out, ← HCN.out])) hp rfl)
      · have hlti : (most : Int) ≤ (i : Int) := by omega
        have HM0 := Lib.hid (show most - i = 0 by omega)
        have hdec : decide (i < most) = false := by simpa using hlt
        clear hlt
        go_upto_region 3 with fail
        go_region
        have HB := Lib.hid (Below.refl wr.heap.size wr).drew
        clear p1 p2 p3
        obtain ⟨hbx, hrs⟩ := HT.out.1.rows HB.out HT.out.2
        obtain ⟨x0, x1, x2, x3, x4, _, _, _, _, _⟩ := row5 hbx
        obtain ⟨y0, y1, y2, y3, y4, g0, g1, g2, g3, g4⟩ := row5 hrs
        have HQ := Lib.hid hrs
        clear hbx hrs
        have u := row5 HT.out.1.res
        obtain ⟨z0, z1, z2, z3, z4, t0, t1, t2, t3, t4⟩ := u
        go_wp2_with fail
        have hp := put5 HQ.out (.int .u8 (x.kind : Int)) (.string (tx x.text)) (.slice a1 x.l.len d1) (.slice a2 x.body.len d2) (.slice a3 x.els.len d3)
        exact bodyPost_ret (results_cell1 rfl _ _ _ rfl (nodeVar _ c _ _ _ _ _ hp.row)) rfl (HT.out.1.done HB.out (.inl HM0.out) hp rfl)
end Go.Proofs.YtobpnjnfpgcpaaaGreatDoor
