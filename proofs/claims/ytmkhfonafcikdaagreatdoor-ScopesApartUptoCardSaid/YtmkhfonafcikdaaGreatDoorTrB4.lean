/- Texts put together: PxRow, PxRes, PxExpr, PxSev, PxAtom, PxSigned, PxEnds, PxBlock, PxBranch, PxStmt, PxStmt2, PxStm, PxText, PxFunc, PxCatch, PxProg, BkMem, PxZero. -/
import Derived.Test.YtmkhfonafcikdaaGreatDoorTrB3
import Derived.Deep.RegionHeld3
import Derived.Deep.RegionLaw
import Derived.Deep.RegionWith
import Derived.Test.YtmkhfonafcikdaaGreatDoorTrB2
import Derived.Defers
import Derived.Recover

/- Trees: the reader: one, and then, so often at most, a sign and one more. -/
namespace Go.Proofs.YtmkhfonafcikdaaGreatDoor
open Go.RowKit Go.My Go.Nd

/-- Signs in a block of their own. -/
def SignsAt (w : World) (sb : Nat) (sg : List Tx) : Prop := w.heap[sb]? = some (.cells (sg.map fun s => Value.string (bs s)).toArray 9 (0, 0)) ∧ sg.length ≤ 9223372036854775807

theorem has_sign {w : World} {sb : Nat} {sg : List Tx} (h : SignsAt w sb sg) (s : Tx) {Q : Ending → World → Prop} (hQ : Q (.returned (.bool (sg.contains s))) w) :
    Calls Tryz.prog 32 #[.slice (some ⟨sb, 0, none⟩) sg.length sg.length, .string (bs s)] w Q := by
  refine Calls.mono (Tryz.slices_Contains_string sb 0 sg.length sg.length (sg.map bs) (bs s) w (by simp) h.2 (fun j hj => ?_)) ?_
  · rw [Nat.zero_add, cell_of_row _ _ _ _ _ _ h.1]
    have hj' : j < sg.length := by simpa using hj
    simp [List.getElem?_map, List.getElem?_eq_getElem hj', List.getD_eq_getElem?_getD]
  · rintro e w' ⟨rfl, rfl⟩
    have : Lib.containsS ((sg.map bs).take sg.length) (bs s) = sg.contains s := by
      rw [List.take_of_length_le (by simp), Bool.eq_iff_iff, Lib.containsS_iff]
      simp only [List.mem_map, List.contains_iff_mem]
      constructor
      · rintro ⟨x, hx, he⟩
        have := congrArg (fun s : ByteArray => s.data.toList) he
        simp only [bs_list] at this
        rw [← this]; exact hx
      · intro h; exact ⟨s, h, rfl⟩
    rw [this]; exact hQ

/-- What a row's function holds on to. -/
structure RowCap (w : World) (rb : Nat) (fv : Value) (most : Nat) (sg : List Tx) (k0 k1 k2 k3 sb : Nat) : Prop where
  read : w.heap[k0]? = some (.cells #[fv] 208 (0, 0))
  most : w.heap[k1]? = some (.cells #[.int .i64 (most : Int)] 3 (0, 0))
  signs : w.heap[k2]? = some (.cells #[.slice (some ⟨sb, 0, none⟩) sg.length sg.length] 32 (0, 0))
  rd : w.heap[k3]? = some (.cells #[.pointer (some ⟨rb, 0, none⟩)] 186 (0, 0))
  list : SignsAt w sb sg
  n0 : k0 ≠ rb
  n1 : k1 ≠ rb
  n2 : k2 ≠ rb
  n3 : k3 ≠ rb
  nb : sb ≠ rb

theorem heap_lt {w : World} {b : Nat} {o : Obj} (h : w.heap[b]? = some o) : b < w.heap.size := (Array.getElem?_eq_some_iff.1 h).1

theorem RowCap.step {w w' : World} {rb : Nat} {fv : Value} {most : Nat} {sg : List Tx} {k0 k1 k2 k3 sb : Nat} (h : RowCap w rb fv most sg k0 k1 k2 k3 sb) (hs : Step w w' (some rb)) : RowCap w' rb fv most sg k0 k1 k2 k3 sb :=
  ⟨(hs.kept (heap_lt h.read) h.n0).trans h.read, (hs.kept (heap_lt h.most) h.n1).trans h.most, (hs.kept (heap_lt h.signs) h.n2).trans h.signs, (hs.kept (heap_lt h.rd) h.n3).trans h.rd, ⟨(hs.kept (heap_lt h.list.1) h.nb).trans h.list.1, h.list.2⟩, h.n0, h.n1, h.n2, h.n3, h.nb⟩

/-- A function value that reads a node, as often as it is called, while K holds and so many tokens are left at most. -/
def Reads (fn : FuncId) (args : Array Value) (rb : Nat) (tv : Value) (xs : List To.T) (inn : Bool) (K : World → Prop) (n : Nat) (read : List Tx → R Nd) : Prop :=
  ∀ (w : World) (ts : List Tx), ts.length ≤ n → K w → Rd w rb tv xs ts inn → Calls Tryz.prog fn args w (Got w rb tv xs inn (read ts))

/-- At the head of a round. -/
structure RowSt (w : World) (rb : Nat) (tv : Value) (xs : List To.T) (inn : Bool) (K : World → Prop) (n : Nat) (fv : Value) (most : Nat) (sg : List Tx) (k0 k1 k2 k3 sb c b5 : Nat) (tot : R Nd) (read : List Tx → R Nd) (i : Nat) (x : Nd) (ts : List Tx) (v : Value) (wr : World) : Prop where
  left : i ≤ most
  plain : more sg read (most - i) x ts = tot
  len : ts.length ≤ n
  step : Step w wr (some rb)
  rd : Rd wr rb tv xs ts inn
  keep : K wr
  cap : RowCap wr rb fv most sg k0 k1 k2 k3 sb
  res : wr.heap[c]? = some (.cells #[.int .u8 0, .string ⟨#[]⟩, .slice none 0 0, .slice none 0 0, .slice none 0 0] TN (0, 0))
  box : ∃ cs, v = .agg cs ∧ wr.heap[b5]? = some (.cells cs TN (0, 0))
  node : NS wr TN (fun b => c < b ∧ b ≠ b5) v x
  hc : c = w.heap.size
  hrb : rb < c
  hb5 : c < b5
def RowAt (w : World) (rb : Nat) (tv : Value) (xs : List To.T) (inn : Bool) (K : World → Prop) (n : Nat) (fv : Value) (most : Nat) (sg : List Tx) (k0 k1 k2 k3 sb c b5 : Nat) (tot : R Nd) (read : List Tx → R Nd) (gk : Nat) (v6 : Value) (wr : World) : Prop :=
  ∃ i x ts v, gk = most - i ∧ v6 = .int .i64 (i : Int) ∧ RowSt w rb tv xs inn K n fv most sg k0 k1 k2 k3 sb c b5 tot read i x ts v wr

theorem RowCap.later {w w' : World} {rb : Nat} {fv : Value} {most : Nat} {sg : List Tx} {k0 k1 k2 k3 sb : Nat} (h : RowCap w rb fv most sg k0 k1 k2 k3 sb) (hb : Below w.heap.size w w') : RowCap w' rb fv most sg k0 k1 k2 k3 sb := h.step (Step.of_below hb)

def RowS (wr : World) (rb most : Nat) (sv : Value) (k1 k2 k3 : Nat) (w' : World) : Prop :=
  (w'.cell? ⟨k1, 0, none⟩ = some (.int .i64 (most : Int)) ∧ w'.cell? ⟨k2, 0, none⟩ = some sv ∧ w'.cell? ⟨k3, 0, none⟩ = some (.pointer (some ⟨rb, 0, none⟩))) ∧ Below wr.heap.size wr w'
theorem rowKeep {wr w' w'' : World} {rb most : Nat} {sv : Value} {k1 k2 k3 : Nat} (hS : (w'.cell? ⟨k1, 0, none⟩ = some (.int .i64 (most : Int)) ∧ w'.cell? ⟨k2, 0, none⟩ = some sv ∧ w'.cell? ⟨k3, 0, none⟩ = some (.pointer (some ⟨rb, 0, none⟩))) ∧ Below wr.heap.size wr w') (hk : Below w'.heap.size w' w'') :
    (w''.cell? ⟨k1, 0, none⟩ = some (.int .i64 (most : Int)) ∧ w''.cell? ⟨k2, 0, none⟩ = some sv ∧ w''.cell? ⟨k3, 0, none⟩ = some (.pointer (some ⟨rb, 0, none⟩))) ∧ Below wr.heap.size wr w'' := by
  obtain ⟨⟨h1, h2, h3⟩, hb⟩ := hS
  exact ⟨⟨(World.cell?_of_block (hk.block _ (World.block_lt_of_cell? _ _ h1))).trans h1, (World.cell?_of_block (hk.block _ (World.block_lt_of_cell? _ _ h2))).trans h2, (World.cell?_of_block (hk.block _ (World.block_lt_of_cell? _ _ h3))).trans h3⟩, hb.trans (hk.mono hb.size)⟩
theorem look_arm {wr w' : World} {rb : Nat} {tv : Value} {xs : List To.T} {ts : List Tx} {inn : Bool} (h : Rd wr rb tv xs ts inn) (k : Nat) (hk : k ≤ 1) {X : Prop} (hS : X ∧ Below wr.heap.size wr w') :
    Calls Tryz.prog 178 #[.pointer (some ⟨rb, 0, none⟩), .int .i64 (k : Int)] w' fun e w'' => ∃ i j, e = .returned (.agg #[.int .u8 i, .string (bs (ts.getD k [])), .int .i64 j]) ∧ Below w'.heap.size w' w'' :=
  look_t (h.later hS.2) k hk fun i j _ hb => ⟨i, j, rfl, hb⟩
theorem sign_arm {wr w' : World} {sb : Nat} {sg : List Tx} (h : SignsAt wr sb sg) (s : Tx) {cn : Bool} (hcn : cn = sg.contains s) {X : Prop} (hS : X ∧ Below wr.heap.size wr w') :
    Calls Tryz.prog 32 #[.slice (some ⟨sb, 0, none⟩) sg.length sg.length, .string (bs s)] w' fun e w'' => e = .returned (.bool cn) ∧ Below w'.heap.size w' w'' :=
  hcn ▸ has_sign ⟨(hS.2.block _ (heap_lt h.1)).trans h.1, h.2⟩ s ⟨rfl, Below.refl _ _⟩

theorem more_stop {sg : List Tx} {read : List Tx → R Nd} (k : Nat) (x : Nd) (ts : List Tx) (h : k = 0 ∨ sg.contains (ts.getD 0 []) = false) : more sg read k x ts = .ok x ts := by
  cases k with
  | zero => rfl
  | succ k =>
    cases ts with
    | nil => rfl
    | cons s r =>
      have hs : sg.contains s = false := by rcases h with h | h; · cases h
                                            · exact h
      unfold more
      rw [if_neg (by rw [hs]; decide)]
theorem row_bad {sg : List Tx} {read : List Tx → R Nd} {most i : Nat} {x : Nd} {s : Tx} {r q : List Tx} (_ : i ≤ most) (hlt : i < most) (hs : true = sg.contains s) (hr : read r = .bad q) : more sg read (most - i) x (s :: r) = .bad q := by
  obtain ⟨k, hk⟩ : ∃ k, most - i = k + 1 := ⟨most - i - 1, by omega⟩
  rw [hk]; unfold more; rw [if_pos hs.symm, hr]; rfl
theorem row_ok {sg : List Tx} {read : List Tx → R Nd} {most i : Nat} {x y : Nd} {s : Tx} {r q : List Tx} (hlt : i < most) (hs : true = sg.contains s) (hr : read r = .ok y q) : more sg read (most - i) x (s :: r) = more sg read (most - (i + 1)) (bin s x y) q := by
  obtain ⟨k, hk⟩ : ∃ k, most - i = k + 1 := ⟨most - i - 1, by omega⟩
  rw [hk, show most - (i + 1) = k by omega]; conv => lhs; unfold more
  rw [if_pos hs.symm, hr]; rfl
theorem RowSt.rows {w : World} {rb : Nat} {tv : Value} {xs : List To.T} {inn : Bool} {K : World → Prop} {n : Nat} {fv : Value} {most : Nat} {sg : List Tx} {k0 k1 k2 k3 sb c b5 : Nat} {tot : R Nd} {read : List Tx → R Nd} {i : Nat} {x : Nd} {ts : List Tx} {v : Value} {wr w2 : World}
    (h : RowSt w rb tv xs inn K n fv most sg k0 k1 k2 k3 sb c b5 tot read i x ts v wr) (hb : Below wr.heap.size wr w2) {cs : Array Value} (hx : wr.heap[b5]? = some (.cells cs TN (0, 0))) : w2.heap[b5]? = some (.cells cs TN (0, 0)) ∧ w2.heap[c]? = some (.cells #[.int .u8 0, .string ⟨#[]⟩, .slice none 0 0, .slice none 0 0, .slice none 0 0] TN (0, 0)) :=
  ⟨(hb.block _ (heap_lt hx)).trans hx, (hb.block _ (heap_lt h.res)).trans h.res⟩
theorem RowSt.done {w : World} {rb : Nat} {tv : Value} {xs : List To.T} {inn : Bool} {K : World → Prop} {n : Nat} {fv : Value} {most : Nat} {sg : List Tx} {k0 k1 k2 k3 sb c b5 : Nat} {tot : R Nd} {read : List Tx → R Nd} {i : Nat} {x : Nd} {ts : List Tx} {v : Value} {wr w2 w3 : World}
    (h : RowSt w rb tv xs inn K n fv most sg k0 k1 k2 k3 sb c b5 tot read i x ts v wr) (hb : Below wr.heap.size wr w2) (hm : most - i = 0 ∨ sg.contains (ts.getD 0 []) = false) {cs : Array Value} (hp : Put w2 w3 c cs TN) (hv : v = .agg cs) : Got w rb tv xs inn tot (.returned (.agg cs)) w3 := by
  subst hv
  rw [← h.plain, more_stop _ _ _ hm]
  have hc := h.hc
  refine ⟨(h.step.trans (Step.of_below hb)).put hp (by omega), (h.rd.later hb).put hp h.hrb, _, rfl, ?_⟩
  exact (NS.frame (h.node.later hb) fun b hb' _ => hp.oth b (by omega)).nr fun b hb' => by omega

theorem NS.over {w w' : World} {rb : Nat} {S : Nat → Prop} {v : Value} {x : Nd} (h : NS w TN S v x) (hs : Step w w' (some rb)) (hS : ∀ b, S b → b ≠ rb) : NS w' TN (fun b => S b ∧ b < w.heap.size) v x :=
  NS.frame (NS.mono h fun _ h1 h2 => ⟨h1, h2⟩) fun b hb hlt => hs.kept hlt (hS b hb.1)
theorem RowSt.next {w : World} {rb : Nat} {tv : Value} {xs : List To.T} {inn : Bool} {K : World → Prop} {n : Nat} {fv : Value} {most : Nat} {sg : List Tx} {k0 k1 k2 k3 sb c b5 : Nat} {tot : R Nd} {read : List Tx → R Nd} {i : Nat} {x y : Nd} {s : Tx} {r1 q : List Tx} {v : Value} {wr w3 w4 w5 w6 : World} {ds : Array Value}
    (h : RowSt w rb tv xs inn K n fv most sg k0 k1 k2 k3 sb c b5 tot read i x (s :: r1) v wr) (hlt : i < most) (hsg : true = sg.contains s) (hKw : K w) (hC : RowCap w rb fv most sg k0 k1 k2 k3 sb) (hK : ∀ w w', K w → Step w w' (some rb) → K w') (hd : ∀ ts, (read ts).Down ts)
    (s3 : Step wr w3 (some rb)) (s4 : Step w3.drew w4 (some rb)) (hrd : read r1 = .ok y q) (h4 : Rd w4 rb tv xs q inn) {U : Nat → Prop} (hb5 : Below w4.heap.size w4 w5) (hN5 : NS w5 TN U (.agg ds) (bin s x y)) (hU : ∀ b, U b → c < b ∧ b ≠ b5)
    (hp : Put w5 w6 b5 ds TN) : RowSt w rb tv xs inn K n fv most sg k0 k1 k2 k3 sb c b5 tot read (i + 1) (bin s x y) q (.agg ds) w6 := by
  have hbox := h.box
  have hcb := h.hb5
  have hrc := h.hrb
  have hc := h.hc
  obtain ⟨cs, rfl, hbx⟩ := hbox
  have s45 : Step wr w5 (some rb) := ((s3.trans (Step.of_below (Below.refl _ w3).drew)).trans s4).trans (Step.of_below hb5)
  have hbw : w.heap.size ≤ wr.heap.size := h.step.size
  have st6 : Step w w6 (some rb) := (h.step.trans s45).put hp (by omega)
  have hlen := h.len
  have hq := (hd r1).lt hrd
  rw [List.length_cons] at hlen
  have hdif : ∀ k o, wr.heap[k]? = some o → k ≠ rb → k ≠ b5 → w6.heap[k]? = some o := fun k o hk h1 h2 => (hp.oth k h2).trans ((s45.kept (heap_lt hk) h1).trans hk)
  exact ⟨hlt, (row_ok hlt hsg hrd).symm.trans h.plain, by omega, st6, (h4.later hb5).put hp (by omega), hK _ _ hKw st6, hC.step st6, hdif c _ h.res (by omega) (by omega), ⟨ds, rfl, hp.row⟩,
    NS.mono (NS.frame hN5 fun b hb _ => hp.oth b (hU b hb).2) fun b hb _ => hU b hb, hc, hrc, hcb⟩
set_option maxRecDepth 100000 in
set_option maxHeartbeats 4000000 in
theorem row1_t {fn : FuncId} {first cap : Array Value} {rb : Nat} {tv : Value} {xs : List To.T} {inn : Bool} {K : World → Prop} {n : Nat} {read : List Tx → R Nd} (hcf : ∀ (wx : World), (callFunc fn (first ++ cap)).run Tryz.prog wx = .ok (.enter fn (first ++ cap)) wx)
    (hK : ∀ w w', K w → Step w w' (some rb) → K w') (hread : Reads fn (first ++ cap) rb tv xs inn K n read) (hd : ∀ ts, (read ts).Down ts) {most : Nat} {sg : List Tx} {k0 k1 k2 k3 sb : Nat} (hmost : most ≤ 65536) (hsg : sg.contains [] = false) (hsl : ∀ s ∈ sg, s.length ≤ 65536) :
    Reads 216 #[.pointer (some ⟨k0, 0, none⟩), .pointer (some ⟨k1, 0, none⟩), .pointer (some ⟨k2, 0, none⟩), .pointer (some ⟨k3, 0, none⟩)] rb tv xs inn (fun w => K w ∧ RowCap w rb (.func (.func fn) first cap) most sg k0 k1 k2 k3 sb) n (row most sg read) := by
  intro w ts hn hKC h
  obtain ⟨hKw, hC⟩ := hKC
  obtain ⟨hA, hnew, hz⟩ := Put.new w #[.int .u8 0, .string ⟨#[]⟩, .slice none 0 0, .slice none 0 0, .slice none 0 0] 61
  obtain ⟨c, hc⟩ : ∃ c, c = w.heap.size := ⟨_, rfl⟩
  obtain ⟨wA, hwA⟩ : ∃ wA, wA = w.alloc (.cells #[.int .u8 0, .string ⟨#[]⟩, .slice none 0 0, .slice none 0 0, .slice none 0 0] 61) := ⟨_, rfl⟩
  rw [← hwA] at hA hnew hz
  have hrb := h.lt
  have hst := Step.of_below (row := some rb) hA
  have HX := Lib.hid (And.intro hst (And.intro (h.later hA) (And.intro (hK _ _ hKw hst) (And.intro (hC.step hst) (And.intro (hc ▸ hnew) (And.intro hc hz))))))
  have HKW := Lib.hid (And.intro hKw hC)
  have HR := Lib.hid hread
  have HK := Lib.hid hK
  have HDN := Lib.hid hd
  have HSL := Lib.hid hsl
  have e0 := cell_of_row wA k0 0 _ _ _ HX.out.2.2.2.1.read
  simp at e0
  clear hA hnew hz hst h hKw hC hread hK hsl
  go_enter Tryz.func216, Tryz.ntmps216
  go_upto_region 1 with fail
  rw [← hwA, ← hc]
  clear hwA hc
  go_wp2_with fail
  refine (HR.out wA ts hn HX.out.2.2.1 HX.out.2.1).mono ?_
  rintro e w1 ⟨hs1, h1, hres⟩
  cases hrd : read ts with
  | bad r =>
    rw [hrd] at hres h1
    subst hres
    go_wp2_with fail
    refine ⟨rfl, ?_⟩
    rw [show row most sg read ts = .bad r by unfold row; rw [hrd]; rfl]
    exact ⟨HX.out.1.trans hs1, h1, rfl⟩
  | ok x r =>
    rw [hrd] at hres h1
    obtain ⟨v, rfl, hN⟩ := hres
    obtain ⟨u1, m1, u2, m2, u3, m3, rfl⟩ := hN.form
    obtain ⟨b5, hb5⟩ : ∃ b5, b5 = w1.heap.size := ⟨_, rfl⟩
    obtain ⟨w2, hw2⟩ : ∃ w2, w2 = w1.alloc (.cells #[.int .u8 (x.kind : Int), .string (tx x.text), .slice u1 x.l.len m1, .slice u2 x.body.len m2, .slice u3 x.els.len m3] 61) := ⟨_, rfl⟩
    obtain ⟨hA2, hn2, hz2⟩ := Put.new w1 #[.int .u8 (x.kind : Int), .string (tx x.text), .slice u1 x.l.len m1, .slice u2 x.body.len m2, .slice u3 x.els.len m3] 61
    have hdn := (hd ts).lt hrd
    have hcA : c < wA.heap.size := by have := HX.out.2.2.2.2.2; omega
    have hrbc : rb < c := by have := HX.out.2.2.2.2.2.1; omega
    rw [← hw2] at hA2 hn2 hz2
    have hst : RowSt w rb tv xs inn K n (.func (.func fn) first cap) most sg k0 k1 k2 k3 sb c b5 (row most sg read ts) read 0 x r (.agg #[.int .u8 (x.kind : Int), .string (tx x.text), .slice u1 x.l.len m1, .slice u2 x.body.len m2, .slice u3 x.els.len m3]) w2 :=
      ⟨Nat.zero_le _, by unfold row; rw [hrd]; rfl, by omega, (HX.out.1.trans hs1).trans (Step.of_below hA2), h1.later hA2, HK.out _ _ (HK.out _ _ HX.out.2.2.1 hs1) (Step.of_below hA2), (HX.out.2.2.2.1.step hs1).later hA2,
        (hA2.block c (Nat.lt_of_lt_of_le hcA hs1.size)).trans ((hs1.kept hcA (Nat.ne_of_gt hrbc)).trans HX.out.2.2.2.2.1), ⟨_, rfl, hb5 ▸ hn2⟩, (hN.ns (S := fun b => c < b ∧ b ≠ b5) fun b q1 q2 => ⟨by omega, by omega⟩).later hA2, HX.out.2.2.2.2.2.1, hrbc, by have := hs1.size; omega⟩
    have HS := Lib.hid hst
    clear hs1 h1 hN hA2 hn2 hz2 hcA hrbc hst hrd hdn e0
    go_upto_region 2 with fail
    rw [← hb5, ← hw2]
    clear hb5 hw2
    go_wp2_with fail
    go_loopg [6, 7] most (fun gk v6 v7 wr => RowAt w rb tv xs inn K n (.func (.func fn) first cap) most sg k0 k1 k2 k3 sb c b5 (row most sg read ts) read gk v6 wr)
    case atStart => exact ⟨0, x, r, _, rfl, rfl, HS.out⟩
    case round =>
      obtain ⟨i, x, ts1, v, rfl, rfl, hst⟩ := hrel
      obtain ⟨cs, rfl, hbox⟩ := hst.box
      obtain ⟨a1, d1, a2, d2, a3, d3, e⟩ := hst.node.form
      cases e
      have HT := Lib.hid (And.intro hst hbox)
      have p1 := cell_of_row wr k1 0 _ _ _ hst.cap.most
      have p2 := cell_of_row wr k2 0 _ _ _ hst.cap.signs
      have p3 := cell_of_row wr k3 0 _ _ _ hst.cap.rd
      simp at p1 p2 p3
      have i0 : (0 : Int) ≤ (i : Int) := by omega
      have i1 : (i : Int) ≤ 65536 := by have := hst.left; omega
      clear hst hbox HS
      have tT := tokText
      by_cases hlt : i < most
      · have hlti : (i : Int) < (most : Int) := by omega
        obtain ⟨s, hs⟩ : ∃ s, s = ts1.getD 0 [] := ⟨_, rfl⟩
        have hlook := fun (w' : World) (X : Prop) (hS : X ∧ Below wr.heap.size wr w') => look_arm HT.out.1.rd 0 (by decide) hS
        rw [← hs] at hlook
        have HLK := Lib.hid hlook
        have HLT := Lib.hid hlt
        have HSS := Lib.hid hs
        obtain ⟨cn, hcn⟩ : ∃ cn, cn = sg.contains s := ⟨_, rfl⟩
        have HCN := Lib.hid hcn
        clear hlook hlt hs hcn
        go_upto_region 3 with fail
        go_region_held3 (fun w' => (w'.cell? ⟨k1, 0, none⟩ = some (.int .i64 (most : Int)) ∧ w'.cell? ⟨k2, 0, none⟩ = some (.slice (some ⟨sb, 0, none⟩) sg.length sg.length) ∧ w'.cell? ⟨k3, 0, none⟩ = some (.pointer (some ⟨rb, 0, none⟩))) ∧ Below wr.heap.size wr w')
          (first | assumption | exact ⟨⟨p1, p2, p3⟩, (Below.refl _ _).drew⟩ | exact rowKeep (by assumption) (by assumption))
          (first
            | (go_at_call 178; refine (HLK.out _ _ (by assumption)).mono ?_; rintro e w'' ⟨ii, jj, rfl, hk⟩)
            | (go_at_call 32; refine (sign_arm HT.out.1.cap.list s HCN.out (by assumption)).mono ?_; rintro e w'' ⟨rfl, hk⟩))
        rename_i hH
        have HB := Lib.hid hH.2
        clear hH p1 p2 p3
        cases cn with
        | true =>
          obtain ⟨r1, hr1⟩ : ∃ r1, ts1 = s :: r1 := by
            cases ts1 with
            | nil => have := HCN.out; rw [HSS.out] at this; rw [show ([] : List Tx).getD 0 [] = [] from rfl, hsg] at this; cases this
            | cons a b => exact ⟨b, by rw [HSS.out]; rfl⟩
          subst hr1
          have g3 := cell_of_row _ k3 0 _ _ _ (HT.out.1.cap.later HB.out).rd
          simp at g3
          go_wp2_with fail
          refine next_yes (HT.out.1.rd.later HB.out) fun w3 hs3 h3 => ?_
          obtain ⟨hbx, hrs⟩ := HT.out.1.rows HB.out HT.out.2
          have hb5 := HT.out.1.hb5
          have hrbc := HT.out.1.hrb
          have hs03 := (Step.of_below (row := some rb) HB.out).trans hs3
          have hbx3 := (hs3.kept (heap_lt hbx) (by omega)).trans hbx
          have hrs3 := (hs3.kept (heap_lt hrs) (by omega)).trans hrs
          have hc3 := HT.out.1.cap.step hs03
          have hK3 := HK.out _ _ HT.out.1.keep hs03
          obtain ⟨x0, x1, x2, x3, x4, g0, g1, g2, g3, g4⟩ := row5 hbx3
          have y0 := cell_of_row _ k0 0 _ _ _ hc3.read
          simp at y0
          have hn3 := HT.out.1.node.frame (w' := w3) fun b hb hlt => ((hs3.kept (Nat.lt_of_lt_of_le hlt HB.out.size) (by omega)).trans (HB.out.block b hlt))
          have hlr : r1.length ≤ n := by have := HT.out.1.len; simp at this; omega
          have hs6 : s.length ≤ 65536 := HSL.out s (by have := HCN.out; simpa using this.symm)
          have H3 := Lib.hid (And.intro hs03 (And.intro h3 (And.intro hbx3 (And.intro hrs3 (And.intro hc3 (And.intro hK3 (And.intro hn3 (And.intro hlr hs6))))))))
          clear hs3 h3 hbx hrs hs03 hbx3 hrs3 hc3 hK3 hn3 hb5 hrbc hlr hs6
          go_upto_region 6 with fail
          have hbad : ∀ q w4, read r1 = .bad q → Step w3.drew w4 (some rb) → Rd w4 rb tv xs q inn → Got w rb tv xs inn (row most sg read ts) (.panicked wrongChain) w4 := fun q w4 hrd hs4 h4 => by
            rw [← HT.out.1.plain, row_bad HT.out.1.left HLT.out HCN.out hrd]
            exact ⟨HT.out.1.step.trans ((H3.out.1.trans (Step.of_below (Below.refl _ w3).drew)).trans hs4), h4, rfl⟩
          have HBAD := Lib.hid hbad
          have HAFT := Lib.hid (fun (w4 : World) (hs4 : Step w3.drew w4 (some rb)) => ((hs4.kept (c := b5) (heap_lt H3.out.2.2.1) (by have := HT.out.1.hb5; have := HT.out.1.hrb; omega)).trans H3.out.2.2.1))
          clear hbad
          go_region_law (first
            | (go_simp; go_at_call 217; (refine bin_t X4.out.2.2.1 X4.out.2.2.2.1 X4.out.2.2.2.2.1 H3.out.2.2.2.2.2.2.2.2 ?_); intro v5 w5 hb5' hN5; obtain ⟨p1, q1, p2, q2, p3, q3, rfl⟩ := hN5.form; have hrow5 := (hb5'.block b5 (heap_lt X4.out.2.2.2.2.2)).trans X4.out.2.2.2.2.2; obtain ⟨x0'', x1'', x2'', x3'', x4'', g0'', g1'', g2'', g3'', g4''⟩ := row5 hrow5; have X5 := Lib.hid (And.intro hb5' (And.intro hN5 hrow5)); clear hb5' hN5 hrow5)
            | (go_simp; refine (HR.out _ r1 H3.out.2.2.2.2.2.2.2.1 (HK.out _ _ H3.out.2.2.2.2.2.1 (Step.of_below (Below.refl _ w3).drew)) (H3.out.2.1.later (Below.refl _ w3).drew)).mono ?_; rintro e w4 ⟨hs4, h4, hres⟩; cases hrd : read r1; rotate_left 1; (rename_i q; rw [hrd] at hres h4; subst hres; exact ⟨rfl, HBAD.out _ _ hrd hs4 h4⟩); rename_i y q; rw [hrd] at hres h4; obtain ⟨v4, rfl, hN4⟩ := hres; obtain ⟨o1, e1, o2, e2, o3, e3, rfl⟩ := hN4.form; have hrow4 := HAFT.out w4 hs4; obtain ⟨x0', x1', x2', x3', x4', g0', g1', g2', g3', g4'⟩ := row5 hrow4; have X4 := Lib.hid (show Step w3.drew w4 (some rb) ∧ (read r1 = .ok y q ∧ Rd w4 rb tv xs q inn) ∧ NS w4 TN (fun b => (c < b ∧ b ≠ b5) ∧ b < w3.drew.heap.size) (.agg #[.int .u8 (x.kind : Int), .string (tx x.text), .slice a1 x.l.len d1, .slice a2 x.body.len d2, .slice a3 x.els.len d3]) x ∧ NS w4 TN (fun b => w3.drew.heap.size ≤ b) (.agg #[.int .u8 (y.kind : Int), .string (tx y.text), .slice o1 y.l.len e1, .slice o2 y.body.len e2, .slice o3 y.els.len e3]) y ∧ (∀ b, ((c < b ∧ b ≠ b5) ∧ b < w3.drew.heap.size) → w3.drew.heap.size ≤ b → False) ∧ w4.heap[b5]? = some (.cells #[.int .u8 (x.kind : Int), .string (tx x.text), .slice a1 x.l.len d1, .slice a2 x.body.len d2, .slice a3 x.els.len d3] TN (0, 0)) from ⟨hs4, ⟨hrd, h4⟩, NS.over (NS.later H3.out.2.2.2.2.2.2.1 (Below.refl _ w3).drew) hs4 (fun b hb => by have := HT.out.1.hrb; omega), hN4.ns (fun b h1 _ => h1), fun b h1 h2 => by omega, hrow4⟩); clear hs4 h4 hN4 hrd hrow4))
          all_goals
            have hp := put5 X5.out.2.2 (.int .u8 ((bin s x y).kind : Int)) (.string (tx (bin s x y).text)) (.slice p1 (bin s x y).l.len q1) (.slice p2 (bin s x y).body.len q2) (.slice p3 (bin s x y).els.len q3)
            have HP := Lib.hid hp
            clear hp
            go_wp2_with fail
            go_roundg (most - (i + 1))
            case measure => have := HLT.out; omega
            case rel => exact ⟨i + 1, bin s x y, q, _, rfl, by go_num, RowSt.next HT.out.1 HLT.out HCN.out HKW.out.1 HKW.out.2 HK.out HDN.out H3.out.1 X4.out.1 X4.out.2.1.1 X4.out.2.1.2 X5.out.1 X5.out.2.1 (fun b hb => by
              have b1 : b5 < w3.drew.heap.size := heap_lt H3.out.2.2.1
              have b2 := X4.out.1.size
              have b3 := HT.out.1.hb5
              rcases hb with h | h | h
              · exact h.1
              · exact ⟨by omega, by omega⟩
              · exact ⟨by omega, by omega⟩) HP.out⟩
        | false =>
          obtain ⟨hbx, hrs⟩ := HT.out.1.rows HB.out HT.out.2
          obtain ⟨x0, x1, x2, x3, x4, _, _, _, _, _⟩ := row5 hbx
          obtain ⟨y0, y1, y2, y3, y4, g0, g1, g2, g3, g4⟩ := row5 hrs
          have HQ := Lib.hid hrs
          clear hbx hrs
          go_wp2_with fail
          have hp := put5 HQ.out (.int .u8 (x.kind : Int)) (.string (tx x.text)) (.slice a1 x.l.len d1) (.slice a2 x.body.len d2) (.slice a3 x.els.len d3)
          exact bodyPost_ret (results_cell1 rfl _ _ _ rfl (nodeVar _ c _ _ _ _ _ hp.row)) rfl (HT.out.1.done HB.out (.inr (by rw [← HSS.out, ← HCN.out])) hp rfl)
      · have hlti : (most : Int) ≤ (i : Int) := by omega
        have HM0 := Lib.hid (show most - i = 0 by omega)
        have hdec : decide (i < most) = false := by simpa using hlt
        clear hlt
        go_upto_region 3 with fail
        go_region
        have HB := Lib.hid (Below.refl wr.heap.size wr).drew
        clear p1 p2 p3
        obtain ⟨hbx, hrs⟩ := HT.out.1.rows HB.out HT.out.2
        obtain ⟨x0, x1, x2, x3, x4, _, _, _, _, _⟩ := row5 hbx
        obtain ⟨y0, y1, y2, y3, y4, g0, g1, g2, g3, g4⟩ := row5 hrs
        have HQ := Lib.hid hrs
        clear hbx hrs
        have u := row5 HT.out.1.res
        obtain ⟨z0, z1, z2, z3, z4, t0, t1, t2, t3, t4⟩ := u
        go_wp2_with fail
        have hp := put5 HQ.out (.int .u8 (x.kind : Int)) (.string (tx x.text)) (.slice a1 x.l.len d1) (.slice a2 x.body.len d2) (.slice a3 x.els.len d3)
        exact bodyPost_ret (results_cell1 rfl _ _ _ rfl (nodeVar _ c _ _ _ _ _ hp.row)) rfl (HT.out.1.done HB.out (.inl HM0.out) hp rfl)
end Go.Proofs.YtmkhfonafcikdaaGreatDoor

/- Trees: the reader: a function that gives a node: its result's cell, from its start to its end. -/
namespace Go.Proofs.YtmkhfonafcikdaaGreatDoor
open Go.RowKit Go.My Go.Nd

/-- In the middle of a function that gives a node: the result's cell c holds nothing yet. -/
structure RA (w : World) (rb c : Nat) (w1 : World) : Prop where
  hc : c = w.heap.size
  hrb : rb < c
  st : Step w w1 (some rb)
  row : w1.heap[c]? = some (.cells #[.int .u8 0, .string ⟨#[]⟩, .slice none 0 0, .slice none 0 0, .slice none 0 0] TN (0, 0))

theorem RA.start {w : World} {rb : Nat} (h : rb < w.heap.size) : RA w rb w.heap.size (w.alloc (.cells #[.int .u8 0, .string ⟨#[]⟩, .slice none 0 0, .slice none 0 0, .slice none 0 0] TN)) :=
  ⟨rfl, h, Step.of_below (Put.new w _ TN).1, (Put.new w _ TN).2.1⟩
theorem RA.lt {w : World} {rb c : Nat} {w1 : World} (h : RA w rb c w1) : c < w1.heap.size := heap_lt h.row
theorem RA.step {w : World} {rb c : Nat} {w1 w2 : World} (h : RA w rb c w1) (hs : Step w1 w2 (some rb)) : RA w rb c w2 :=
  ⟨h.hc, h.hrb, h.st.trans hs, (hs.kept h.lt (Nat.ne_of_gt h.hrb)).trans h.row⟩
theorem RA.below {w : World} {rb c : Nat} {w1 w2 : World} (h : RA w rb c w1) (hs : Below w1.heap.size w1 w2) : RA w rb c w2 := h.step (Step.of_below hs)
/-- What is written into a block that is newer than the result's. -/
theorem RA.put {w : World} {rb c : Nat} {w1 w2 : World} {b : Nat} {cs : Array Value} {T : TypeId} (h : RA w rb c w1) (hp : Put w1 w2 b cs T) (hb : c < b) : RA w rb c w2 :=
  ⟨h.hc, h.hrb, h.st.put hp (by have := h.hc; omega), (hp.oth c (by omega)).trans h.row⟩
theorem RA.bad {w : World} {rb c : Nat} {w1 : World} {tv : Value} {xs : List To.T} {inn : Bool} {r : List Tx} (h : RA w rb c w1) (h1 : Rd w1 rb tv xs r inn) : Got w rb tv xs inn (.bad r) (.panicked wrongChain) w1 := ⟨h.st, h1, rfl⟩
theorem RA.fin {w : World} {rb c : Nat} {w1 w2 : World} {tv : Value} {xs : List To.T} {inn : Bool} {r : List Tx} {x : Nd} {cs : Array Value} {S : Nat → Prop} (h : RA w rb c w1) (h1 : Rd w1 rb tv xs r inn) (hN : NS w1 TN S (.agg cs) x) (hS : ∀ b, S b → c < b) (hp : Put w1 w2 c cs TN) :
    Got w rb tv xs inn (.ok x r) (.returned (.agg cs)) w2 := by
  have hc := h.hc
  refine ⟨h.st.put hp (by omega), h1.put hp h.hrb, _, rfl, ?_⟩
  exact (NS.frame hN fun b hb' _ => hp.oth b (by have := hS b hb'; omega)).nr fun b hb' => by have := hS b hb'; omega
/-- The node that a call gives, whatever was new at its start. -/
theorem NR.past {w w1 w2 : World} {rb c : Nat} {v : Value} {x : Nd} (h : RA w rb c w1) (hN : NR w2 TN w1.heap.size w2.heap.size v x) : NS w2 TN (fun b => c < b) v x :=
  hN.ns fun b h1 _ => by have := h.lt; omega
end Go.Proofs.YtmkhfonafcikdaaGreatDoor

/- Trees: the reader: an expression. -/
namespace Go.Proofs.YtmkhfonafcikdaaGreatDoor
open Go.RowKit Go.My Go.Nd

set_option maxRecDepth 100000 in
theorem row_t {w : World} {rb : Nat} {fn : FuncId} {first cap : Array Value} {most : Nat} {sg : List Tx} {sb : Nat} (hs : SignsAt w sb sg) (hrb : rb < w.heap.size) (hne : sb ≠ rb) {Q : Ending → World → Prop}
    (hQ : ∀ k0 k1 k2 k3 w', Below w.heap.size w w' → RowCap w' rb (.func (.func fn) first cap) most sg k0 k1 k2 k3 sb → Q (.returned (.func (.func 216) #[] #[.pointer (some ⟨k0, 0, none⟩), .pointer (some ⟨k1, 0, none⟩), .pointer (some ⟨k2, 0, none⟩), .pointer (some ⟨k3, 0, none⟩)])) w') :
    Calls Tryz.prog 206 #[.pointer (some ⟨rb, 0, none⟩), .int .i64 (most : Int), .slice (some ⟨sb, 0, none⟩) sg.length sg.length, .func (.func fn) first cap] w Q := by
  obtain ⟨a1, n1, z1⟩ := Put.new w #[.pointer (some ⟨rb, 0, none⟩)] 186
  have H := Lib.hid hQ
  have HS := Lib.hid (And.intro hs (And.intro hrb hne))
  clear hQ hs a1 n1 z1
  go_enter Tryz.func206, Tryz.ntmps206
  go_wp2_with fail
  obtain ⟨a1, n1, z1⟩ := Put.new w #[.pointer (some ⟨rb, 0, none⟩)] 186
  generalize w.alloc (.cells #[.pointer (some ⟨rb, 0, none⟩)] 186) = w1 at *
  obtain ⟨a2, n2, z2⟩ := Put.new w1 #[.int .i64 (most : Int)] 3
  generalize w1.alloc (.cells #[.int .i64 (most : Int)] 3) = w2 at *
  obtain ⟨a3, n3, z3⟩ := Put.new w2 #[.slice (some ⟨sb, 0, none⟩) sg.length sg.length] 32
  generalize w2.alloc (.cells #[.slice (some ⟨sb, 0, none⟩) sg.length sg.length] 32) = w3 at *
  obtain ⟨a4, n4, z4⟩ := Put.new w3 #[.func (.func fn) first cap] 208
  generalize w3.alloc (.cells #[.func (.func fn) first cap] 208) = w4 at *
  have hb : Below w.heap.size w w4 := ((a1.trans (a2.mono a1.size)).trans (a3.mono (by omega))).trans (a4.mono (by omega))
  have e1 : w4.heap[w.heap.size]? = _ := (a4.block _ (by omega)).trans ((a3.block _ (by omega)).trans ((a2.block _ (by omega)).trans n1))
  have e2 := (a4.block w1.heap.size (by omega)).trans ((a3.block _ (by omega)).trans n2)
  have e3 := (a4.block w2.heap.size (by omega)).trans n3
  have e4 := n4
  rw [z3, z2, z1] at e4
  rw [z2, z1] at e3
  rw [z1] at e2
  have hlt := HS.out.2.1
  exact H.out _ _ _ _ w4 hb ⟨e4, e2, e3, e1, ⟨(hb.block _ (heap_lt HS.out.1.1)).trans HS.out.1.1, HS.out.1.2⟩, by omega, by omega, by omega, by omega, HS.out.2.2⟩

set_option maxRecDepth 100000 in
set_option maxHeartbeats 2000000 in
theorem expr_r {rb : Nat} {tv : Value} {xs : List To.T} {inn : Bool} {n : Nat} (hr : Reads 207 #[.pointer (some ⟨rb, 0, none⟩)] rb tv xs inn (fun _ => True) n sg) :
    Reads 196 #[.pointer (some ⟨rb, 0, none⟩)] rb tv xs inn (fun _ => True) n expr := by
  intro w ts hn _ h
  have hle := h.le
  rw [Nd.expr_is xs.length ts hle]
  obtain ⟨K, hK⟩ : ∃ K, K = xs.length := ⟨_, rfl⟩
  have HKK := Lib.hid hK
  have hKl : K ≤ 65536 := by have := h.len; omega
  have R0 := RA.start h.lt
  have h0 := h.later (Put.new w #[.int .u8 0, .string ⟨#[]⟩, .slice none 0 0, .slice none 0 0, .slice none 0 0] TN).1
  obtain ⟨c, hc⟩ : ∃ c, c = w.heap.size := ⟨_, rfl⟩
  obtain ⟨wA, hwA⟩ : ∃ wA, wA = w.alloc (.cells #[.int .u8 0, .string ⟨#[]⟩, .slice none 0 0, .slice none 0 0, .slice none 0 0] TN) := ⟨_, rfl⟩
  rw [← hwA] at R0 h0
  rw [← hc] at R0
  obtain ⟨ao, cap, hv, _, _, _⟩ := h.toks
  subst hv
  rw [← hK] at h0 ⊢
  have c0 := h0.cell.1
  have H := Lib.hid (And.intro R0 (And.intro h0 (And.intro hn hKl)))
  have HR := Lib.hid hr
  clear hr h R0 h0 hle hn
  go_enter Tryz.func196, Tryz.ntmps196
  go_upto_region 1 with fail
  rw [← hwA, ← hc]
  clear hwA hc hK
  go_wp2_with fail
  have S1 : SignsAt (wA.alloc (.cells #[.string ⟨#[42]⟩, .string ⟨#[47]⟩] 9)) wA.heap.size muls := ⟨(Put.new wA _ _).2.1, by decide⟩
  refine row_t (most := K) (sg := muls) S1 (by have := H.out.2.1.lt; have := (Put.new wA #[.string ⟨#[42]⟩, .string ⟨#[47]⟩] 9).2.2; omega) (Nat.ne_of_gt H.out.2.1.lt) ?_
  intro k0 k1 k2 k3 w1 hb1 C1
  have B1 := (Put.new wA #[.string ⟨#[42]⟩, .string ⟨#[47]⟩] 9).1.trans (hb1.mono (Put.new wA #[.string ⟨#[42]⟩, .string ⟨#[47]⟩] 9).1.size)
  have X1 := Lib.hid (And.intro B1 C1)
  clear S1 hb1 C1 B1
  go_wp2_with fail
  have S2 : SignsAt (w1.alloc (.cells #[.string ⟨#[43]⟩, .string ⟨#[45]⟩] 9)) w1.heap.size adds := ⟨(Put.new w1 _ _).2.1, by decide⟩
  have q1 := X1.out.1.size
  refine row_t (most := K) (sg := adds) S2 (by have := H.out.2.1.lt; have := (Put.new w1 #[.string ⟨#[43]⟩, .string ⟨#[45]⟩] 9).2.2; omega) (by have := H.out.2.1.lt; omega) ?_
  intro j0 j1 j2 j3 w2 hb2 C2
  have B2 := (Put.new w1 #[.string ⟨#[43]⟩, .string ⟨#[45]⟩] 9).1.trans (hb2.mono (Put.new w1 #[.string ⟨#[43]⟩, .string ⟨#[45]⟩] 9).1.size)
  have X2 := Lib.hid (And.intro B2 (And.intro C2 q1))
  clear S2 hb2 C2 B2 q1
  go_wp2_with fail
  have S3 : SignsAt (w2.alloc (.cells #[.string ⟨#[61, 61]⟩, .string ⟨#[33, 61]⟩, .string ⟨#[60]⟩, .string ⟨#[60, 61]⟩] 9)) w2.heap.size cmps := ⟨(Put.new w2 _ _).2.1, by decide⟩
  have q2 := X2.out.1.size
  refine row_t (most := 1) (sg := cmps) S3 (by have := H.out.2.1.lt; have := X2.out.2.2; have := (Put.new w2 #[.string ⟨#[61, 61]⟩, .string ⟨#[33, 61]⟩, .string ⟨#[60]⟩, .string ⟨#[60, 61]⟩] 9).2.2; omega) (by have := H.out.2.1.lt; have := X2.out.2.2; omega) ?_
  intro i0 i1 i2 i3 w3 hb3 C3
  have B3 := (Put.new w2 #[.string ⟨#[61, 61]⟩, .string ⟨#[33, 61]⟩, .string ⟨#[60]⟩, .string ⟨#[60, 61]⟩] 9).1.trans (hb3.mono (Put.new w2 #[.string ⟨#[61, 61]⟩, .string ⟨#[33, 61]⟩, .string ⟨#[60]⟩, .string ⟨#[60, 61]⟩] 9).1.size)
  have C1' := (X1.out.2.later X2.out.1).later B3
  have C2' := X2.out.2.1.later B3
  have R1 := row1_t (fn := 207) (first := #[.pointer (some ⟨rb, 0, none⟩)]) (cap := #[]) (K := fun _ => True) (most := K) (sg := muls) (fun _ => rfl) (fun _ _ _ _ => trivial) (by rw [Array.append_empty]; exact HR.out) sg_down H.out.2.2.2 (by decide) (by decide) (k0 := k0) (k1 := k1) (k2 := k2) (k3 := k3) (sb := wA.heap.size)
  have R2 := row1_t (fn := 216) (first := #[]) (cap := #[.pointer (some ⟨k0, 0, none⟩), .pointer (some ⟨k1, 0, none⟩), .pointer (some ⟨k2, 0, none⟩), .pointer (some ⟨k3, 0, none⟩)]) (K := fun w => True ∧ RowCap w rb (.func (.func 207) #[.pointer (some ⟨rb, 0, none⟩)] #[]) K muls k0 k1 k2 k3 wA.heap.size) (read := prodOf K sg) (most := K) (sg := adds) (fun _ => rfl) (fun _ _ h hs => ⟨trivial, h.2.step hs⟩) (by rw [Array.empty_append]; exact R1) (prodOf_down sg_down K) H.out.2.2.2 (by decide) (by decide) (k0 := j0) (k1 := j1) (k2 := j2) (k3 := j3) (sb := w1.heap.size)
  have R3 := row1_t (fn := 216) (first := #[]) (cap := #[.pointer (some ⟨j0, 0, none⟩), .pointer (some ⟨j1, 0, none⟩), .pointer (some ⟨j2, 0, none⟩), .pointer (some ⟨j3, 0, none⟩)]) (K := fun w => (True ∧ RowCap w rb (.func (.func 207) #[.pointer (some ⟨rb, 0, none⟩)] #[]) K muls k0 k1 k2 k3 wA.heap.size) ∧ RowCap w rb (.func (.func 216) #[] #[.pointer (some ⟨k0, 0, none⟩), .pointer (some ⟨k1, 0, none⟩), .pointer (some ⟨k2, 0, none⟩), .pointer (some ⟨k3, 0, none⟩)]) K adds j0 j1 j2 j3 w1.heap.size) (read := sumOf K sg) (most := 1) (sg := cmps) (fun _ => rfl) (fun _ _ h hs => ⟨⟨trivial, h.1.2.step hs⟩, h.2.step hs⟩) (by rw [Array.empty_append]; exact R2) (sumOf_down sg_down K) (by decide) (by decide) (by decide) (k0 := i0) (k1 := i1) (k2 := i2) (k3 := i3) (sb := w2.heap.size)
  rw [← HKK.out] at R3
  have BB := (X1.out.1.trans (X2.out.1.mono X1.out.1.size)).trans (B3.mono (Nat.le_trans X1.out.1.size X2.out.1.size))
  have X3 := Lib.hid (R3 w3 ts H.out.2.2.1 ⟨⟨⟨trivial, C1'⟩, C2'⟩, C3⟩ (H.out.2.1.later BB))
  have XB := Lib.hid (H.out.1.below BB)
  clear R1 R2 R3 C1' C2' B3 S3 hb3 C3 BB q2
  go_wp2_with fail
  refine X3.out.mono ?_
  rintro e w4 ⟨hs4, h4, hres⟩
  have hcm : row 1 cmps (sumOf K sg) ts = cmpOf K sg ts := rfl
  have XR := XB.out.step hs4
  cases hrd : cmpOf K sg ts with
  | bad r =>
    rw [hcm, hrd] at hres h4
    subst hres
    go_wp2_with fail
    exact ⟨rfl, XR.bad h4⟩
  | ok x r =>
    rw [hcm, hrd] at hres h4
    have HD := Lib.hid hrd
    obtain ⟨v, rfl, hN⟩ := hres
    obtain ⟨a1, d1, a2, d2, a3, d3, rfl⟩ := hN.form
    have hN' := NR.past XB.out hN
    obtain ⟨x0, x1, x2, x3, x4, g0, g1, g2, g3, g4⟩ := row5 XR.row
    have XE := Lib.hid (And.intro XR (And.intro h4 hN'))
    clear XR h4 hN hN' hs4 hrd hcm
    go_wp2_with fail
    have hp := put5 XE.out.1.row (.int .u8 (x.kind : Int)) (.string (tx x.text)) (.slice a1 x.l.len d1) (.slice a2 x.body.len d2) (.slice a3 x.els.len d3)
    exact bodyPost_ret (results_cell1 rfl _ _ _ rfl (nodeVar _ c _ _ _ _ _ hp.row)) rfl (by rw [HD.out]; exact XE.out.1.fin XE.out.2.1 XE.out.2.2 (fun _ h => h) hp)
end Go.Proofs.YtmkhfonafcikdaaGreatDoor

/- Trees: the reader: several nodes, between commas. -/
namespace Go.Proofs.YtmkhfonafcikdaaGreatDoor
open Go.RowKit Go.My Go.Nd

theorem nodeEl : Elem Tryz.prog 23 61 5 96 (.agg #[.int .u8 0, .string ⟨#[]⟩, .slice none 0 0, .slice none 0 0, .slice none 0 0]) := Elem.mk' Tryz.underlying23 (by kernel_rfl) rfl (by decide)

/-- What a call that reads nodes does. -/
def GotL (w : World) (rb : Nat) (tv : Value) (xs : List To.T) (inn : Bool) (r : R (List Nd)) (e : Ending) (w' : World) : Prop :=
  Step w w' (some rb) ∧ Rd w' rb tv xs r.rest inn ∧ match r with | .ok l _ => ∃ v, e = .returned v ∧ LR w' TN w.heap.size w'.heap.size v (Ns.of l) | .bad _ => e = .panicked wrongChain

structure SevSt (w : World) (rb : Nat) (tv : Value) (xs : List To.T) (inn : Bool) (n m : Nat) (fin : Tx) (read : List Tx → R Nd) (tot : R (List Nd)) (l : List Nd) (ts : List Tx) (v : Value) (wr : World) : Prop where
  plain : (sevTail fin read ts).map (l ++ ·) = tot
  len : ts.length ≤ n
  many : l.length + ts.length ≤ m
  step : Step w wr (some rb)
  rd : Rd wr rb tv xs ts inn
  list : LR wr TN w.heap.size wr.heap.size v (Ns.of l)
def SevAt (w : World) (rb : Nat) (tv : Value) (xs : List To.T) (inn : Bool) (n m : Nat) (fin : Tx) (read : List Tx → R Nd) (tot : R (List Nd)) (gk : Nat) (v : Value) (wr : World) : Prop :=
  ∃ l ts, gk = ts.length ∧ SevSt w rb tv xs inn n m fin read tot l ts v wr

theorem LR.stepped {w0 w w' : World} {rb hi : Nat} {v : Value} {l : Ns} (h : LR w TN w0.heap.size hi v l) (hs : Step w w' (some rb)) (hrb : rb < w0.heap.size) (hh : hi ≤ w.heap.size) : LR w' TN w0.heap.size hi v l :=
  LR.frame h fun b h1 h2 => hs.kept (by omega) (by omega)
theorem sevTail_bad {α : Type} {fin : Tx} {read : List Tx → R α} (ts : List Tx) (h1 : ts.head? ≠ some fin) (h2 : ts.head? ≠ some [44]) : sevTail fin read ts = .bad ts := by
  cases ts with
  | nil => rfl
  | cons s r => unfold sevTail; simp only; rw [if_neg (by intro e; subst e; exact h1 rfl), if_neg (by intro e; subst e; exact h2 rfl)]
theorem head_form {s : Tx} {ts : List Tx} (h : ts.head? = some s) : ∃ r, ts = s :: r := by
  cases ts with
  | nil => cases h
  | cons a r => simp at h; subst h; exact ⟨r, rfl⟩

/-- A node appended to a list of the call's own. -/
theorem SevSt.more {w : World} {rb : Nat} {tv : Value} {xs : List To.T} {inn : Bool} {n m : Nat} {fin : Tx} {read : List Tx → R Nd} {tot : R (List Nd)} {l : List Nd} {r q : List Tx} {x : Nd} {v v' : Value} {wr w4 w6 : World} (h : SevSt w rb tv xs inn n m fin read tot l ([44] :: r) v wr) (hd : ∀ ts, (read ts).Down ts) (hf : fin ≠ [44])
    (s4 : Step wr w4 (some rb)) (hrd : read r = .ok x q) (h4 : Rd w4 rb tv xs q inn) (hrb : rb < w.heap.size) (hb : Below w.heap.size w4 w6) (hL : LR w6 TN w.heap.size w6.heap.size v' (Ns.of (l ++ [x]))) : SevSt w rb tv xs inn n m fin read tot (l ++ [x]) q v' w6 := by
  have hq := (hd r).lt hrd
  have h1 := h.len
  have h2 := h.many
  rw [List.length_cons] at h1 h2
  have st6 : Step w w6 (some rb) := ⟨hb.os.trans (s4.os.trans h.step.os), hb.tape.trans (s4.tape.trans h.step.tape), hb.output.trans (s4.output.trans h.step.output), Nat.le_trans h.step.size (Nat.le_trans s4.size hb.size), fun k hk hk' => (hb.block k hk).trans ((s4.block k (Nat.lt_of_lt_of_le hk h.step.size) hk').trans (h.step.block k hk hk'))⟩
  refine ⟨?_, by omega, by rw [List.length_append, List.length_singleton]; omega, st6, h4.keep hb.size fun k hk => hb.block k (by omega), hL⟩
  rw [← h.plain, sevTail_comma hd hf, hrd]
  show _ = R.map _ (R.map _ _)
  rw [R.map_map]
  congr 1
  funext a
  simp

set_option maxRecDepth 100000 in
set_option maxHeartbeats 4000000 in
theorem sevn_t {fn : FuncId} {first cap : Array Value} {rb : Nat} {tv : Value} {xs : List To.T} {inn : Bool} {n : Nat} {read : List Tx → R Nd} (hcf : ∀ (wx : World), (callFunc fn (first ++ cap)).run Tryz.prog wx = .ok (.enter fn (first ++ cap)) wx)
    (hread : Reads fn (first ++ cap) rb tv xs inn (fun _ => True) n read) (hd : ∀ ts, (read ts).Down ts) (fin : Tx) (hfin : fin ≠ []) (hf : fin ≠ [44]) {w : World} {ts : List Tx} (hn : ts.length ≤ n) (h : Rd w rb tv xs ts inn) :
    Calls Tryz.prog 228 #[.pointer (some ⟨rb, 0, none⟩), .string (bs fin), .func (.func fn) first cap] w (GotL w rb tv xs inn (several fin read ts)) := by
  have hrb := h.lt
  have hle := h.le
  have hlen := h.len
  have H := Lib.hid (And.intro h (And.intro hn (And.intro hrb (And.intro hle hlen))))
  have HR := Lib.hid (And.intro hread hd)
  have HF := Lib.hid (And.intro hfin hf)
  clear h hn hread hd hrb hle hlen hfin hf
  go_enter Tryz.func228, Tryz.ntmps228
  go_wp2_with fail
  by_cases hh : ts.head? = some fin
  · obtain ⟨r, rfl⟩ := head_form hh
    refine takes_yes H.out.1 HF.out.1 fun w1 hs1 h1 => ?_
    have X1 := Lib.hid (And.intro hs1 h1)
    clear hs1 h1 hh
    go_wp2_with fail
    go_ret
    rw [several_none]
    exact ⟨X1.out.1, X1.out.2, _, rfl, LR.nil _ _ _ _⟩
  · refine takes_no H.out.1 fin HF.out.1 hh fun w1 hb1 => ?_
    have HH := Lib.hid hh
    have X1 := Lib.hid hb1
    clear hh hb1
    go_wp2_with fail
    refine (HR.out.1 w1 ts H.out.2.1 trivial (H.out.1.later X1.out)).mono ?_
    rintro e w2 ⟨hs2, h2, hres⟩
    cases hrd : read ts with
    | bad r =>
      rw [hrd] at hres h2
      subst hres
      go_wp2_with fail
      refine ⟨rfl, ?_⟩
      rw [several_first HR.out.2 ts HH.out, hrd]
      exact ⟨(Step.of_below X1.out).trans hs2, h2, rfl⟩
    | ok x r =>
      rw [hrd] at hres h2
      obtain ⟨v, rfl, hN⟩ := hres
      obtain ⟨a1, d1, a2, d2, a3, d3, rfl⟩ := hN.form
      have X2 := Lib.hid (And.intro hs2 (And.intro h2 (And.intro hN hrd)))
      clear hs2 h2 hN hrd
      have hA := (Put.new w2 #[.int .u8 (x.kind : Int), .string (tx x.text), .slice a1 x.l.len d1, .slice a2 x.body.len d2, .slice a3 x.els.len d3] TN)
      have hN4 := X2.out.2.2.1.later hA.1 (Nat.le_refl _)
      have HN4 := Lib.hid (And.intro hN4 hA)
      clear hN4 hA
      go_wp2_with (at_builtin; refine wpList_node _ rfl (.tmp 10) (.tmp 13) rfl nodeEl (v := .slice none 0 0) (l := []) (lo := w.heap.size) (hi := w1.heap.size) (hi2 := w2.heap.size) rfl (LR.nil _ _ _ _) HN4.out.1 (y := .slice (some ⟨w2.heap.size, 0, none⟩) 1 1) rfl (Src.lit #[.int .u8 (x.kind : Int), .string (tx x.text), .slice a1 x.l.len d1, .slice a2 x.body.len d2, .slice a3 x.els.len d3] TN rfl rfl) X1.out.size X2.out.1.size (by rw [HN4.out.2.2.2]; omega) (by decide) ?_; intro ao cp w3 hL hB; have X3 := Lib.hid (And.intro hL hB); clear hL hB)
      have hst : SevSt w rb tv xs inn n ts.length fin read (several fin read ts) [x] r (.slice ao 1 cp) w3 := by
        have hq := (HR.out.2 ts).lt X2.out.2.2.2
        have z1 := X1.out.size
        have z2 := X2.out.1.size
        have hrb := H.out.2.2.1
        have hB' := X3.out.2
        have zA := HN4.out.2.2.2
        refine ⟨?_, by have := H.out.2.1; omega, by simp; omega, ?_, ((X2.out.2.1.later HN4.out.2.1).keep hB'.size fun k hk => hB'.block k (by omega)), X3.out.1⟩
        · rw [several_first HR.out.2 ts HH.out, X2.out.2.2.2]; rfl
        · have s2 := ((Step.of_below (row := some rb) X1.out).trans X2.out.1).trans (Step.of_below HN4.out.2.1)
          exact ⟨hB'.os.trans s2.os, hB'.tape.trans s2.tape, hB'.output.trans s2.output, Nat.le_trans s2.size hB'.size, fun k hk hk' => (hB'.block k hk).trans (s2.block k hk hk')⟩
      have HS := Lib.hid hst
      clear hst X3 HN4 X2 X1 HH
      go_loopg [6] r.length (fun gk v6 wr => SevAt w rb tv xs inn n ts.length fin read (several fin read ts) gk v6 wr)
      case atStart => exact ⟨[x], r, rfl, HS.out⟩
      case round =>
        obtain ⟨l, ts1, rfl, hst⟩ := hrel
        obtain ⟨lo1, lc1, rfl⟩ := hst.list.form
        have HT := Lib.hid hst
        clear hst HS
        go_wp2_with fail
        by_cases hh : ts1.head? = some fin
        · obtain ⟨r1, rfl⟩ := head_form hh
          refine takes_yes HT.out.rd HF.out.1 fun w4 hs4 h4 => ?_
          have X4 := Lib.hid (And.intro hs4 h4)
          clear hs4 h4 hh
          go_wp2_with fail
          go_ret
          have hpl := HT.out.plain
          rw [show sevTail fin read (fin :: r1) = .ok [] r1 by unfold sevTail; simp only; rw [if_pos trivial]] at hpl
          rw [← hpl]
          show GotL w rb tv xs inn (.ok (l ++ []) r1) _ _
          rw [List.append_nil]
          exact ⟨HT.out.step.trans X4.out.1, X4.out.2, _, rfl, LR.mono (LR.stepped HT.out.list X4.out.1 H.out.2.2.1 (Nat.le_refl _)) (Nat.le_refl _) X4.out.1.size⟩
        · refine takes_no HT.out.rd fin HF.out.1 hh fun w4 hb4 => ?_
          have HH := Lib.hid hh
          have X4 := Lib.hid hb4
          clear hh hb4
          go_wp2_with fail
          by_cases hc : ts1.head? = some [44]
          · obtain ⟨r1, rfl⟩ := head_form hc
            refine takes_yes (HT.out.rd.later X4.out) (by decide) fun w5 hs5 h5 => ?_
            have X5 := Lib.hid (And.intro hs5 h5)
            clear hs5 h5 hc
            go_wp2_with (refine must_yes ?_)
            have hn1 : r1.length ≤ n := by have := HT.out.len; rw [List.length_cons] at this; omega
            refine (HR.out.1 w5 r1 hn1 trivial X5.out.2).mono ?_
            rintro e w6 ⟨hs6, h6, hres⟩
            have st6 := ((Step.of_below (row := some rb) X4.out).trans X5.out.1).trans hs6
            cases hrd : read r1 with
            | bad q =>
              rw [hrd] at hres h6
              subst hres
              have X6 := Lib.hid (And.intro st6 (And.intro h6 hrd))
              clear st6 h6 hs6 hrd hn1
              go_wp2_with fail
              refine ⟨rfl, ?_⟩
              rw [← HT.out.plain, sevTail_comma HR.out.2 HF.out.2, X6.out.2.2]
              exact ⟨HT.out.step.trans X6.out.1, X6.out.2.1, rfl⟩
            | ok y q =>
              rw [hrd] at hres h6
              obtain ⟨vy, rfl, hN⟩ := hres
              obtain ⟨o1, e1, o2, e2, o3, e3, rfl⟩ := hN.form
              have hA := (Put.new w6 #[.int .u8 (y.kind : Int), .string (tx y.text), .slice o1 y.l.len e1, .slice o2 y.body.len e2, .slice o3 y.els.len e3] TN)
              have hN7 := hN.later hA.1 (Nat.le_refl _)
              have hL7 := (LR.stepped HT.out.list st6 H.out.2.2.1 (Nat.le_refl _)).later hA.1 st6.size
              have hz6 : wr.heap.size ≤ w5.heap.size := Nat.le_trans X4.out.size X5.out.1.size
              have X6 := Lib.hid (And.intro st6 (And.intro h6 (And.intro hrd (And.intro hA (And.intro hN7 (And.intro hL7 (And.intro hz6 hs6)))))))
              have hm : (l.length + 1) * 96 ≤ 140737488351232 := by have := HT.out.many; have := H.out.2.2.2.1; have := H.out.2.2.2.2; rw [List.length_cons] at *; omega
              have HM := Lib.hid hm
              rw [Ns.len_of]
              clear st6 h6 hs6 hrd hn1 hN hA hN7 hL7 hz6 hm
              go_wp2_with (at_builtin; refine wpList_node _ rfl (.tmp 19) (.tmp 22) rfl nodeEl (v := .slice lo1 l.length lc1) (l := l) (lo := w.heap.size) (hi := wr.heap.size) (hi2 := w6.heap.size) rfl (by have := X6.out.2.2.2.2.2.1; rw [Ns.len_of] at this; exact this) (X6.out.2.2.2.2.1.mono X6.out.2.2.2.2.2.2.1 (Nat.le_refl _)) (y := .slice (some ⟨w6.heap.size, 0, none⟩) 1 1) rfl (Src.lit #[.int .u8 (y.kind : Int), .string (tx y.text), .slice o1 y.l.len e1, .slice o2 y.body.len e2, .slice o3 y.els.len e3] TN rfl rfl) HT.out.step.size X6.out.1.size (by rw [X6.out.2.2.2.1.2.2]; omega) HM.out ?_; intro ao cp w7 hL hB; have X7 := Lib.hid (And.intro hL hB); clear hL hB)
              go_roundg q.length
              case measure => have := (HR.out.2 r1).lt X6.out.2.2.1; rw [List.length_cons]; omega
              case rel => exact ⟨l ++ [y], q, rfl, HT.out.more HR.out.2 HF.out.2 X6.out.1 X6.out.2.2.1 X6.out.2.1 H.out.2.2.1 ((X6.out.2.2.2.1.1.mono (Nat.le_trans HT.out.step.size X6.out.1.size)).trans X7.out.2) X7.out.1⟩
          · refine takes_no (HT.out.rd.later X4.out) [44] (by decide) hc fun w5 hb5 => ?_
            have X5 := Lib.hid (And.intro hc hb5)
            clear hc hb5
            go_wp2_with (refine must_no ?_)
            refine ⟨rfl, ?_⟩
            rw [← HT.out.plain, sevTail_bad ts1 HH.out X5.out.1]
            exact ⟨HT.out.step.trans (Step.of_below (X4.out.trans (X5.out.2.mono X4.out.size))), (HT.out.rd.later X4.out).later X5.out.2, rfl⟩
end Go.Proofs.YtmkhfonafcikdaaGreatDoor

/- Trees: the reader: an atom. -/
namespace Go.Proofs.YtmkhfonafcikdaaGreatDoor
open Go.RowKit Go.My Go.Nd

/-- A node in a block of its own, behind a new one. -/
theorem RA.box {w : World} {rb c : Nat} {w1 : World} (h : RA w rb c w1) (cs : Array Value) : RA w rb c (w1.alloc (.cells cs TN)) ∧ (w1.alloc (.cells cs TN)).heap[w1.heap.size]? = some (.cells cs TN (0, 0)) ∧ Below w1.heap.size w1 (w1.alloc (.cells cs TN)) :=
  ⟨h.below (Put.new w1 cs TN).1, (Put.new w1 cs TN).2.1, (Put.new w1 cs TN).1⟩

set_option maxRecDepth 100000 in
set_option maxHeartbeats 2000000 in
theorem atom_paren {rb : Nat} {tv : Value} {xs : List To.T} {inn : Bool} {n : Nat} (hex : Reads 196 #[.pointer (some ⟨rb, 0, none⟩)] rb tv xs inn (fun _ => True) n expr) {w : World} {r : List Tx} (hn : r.length ≤ n) (h : Rd w rb tv xs ([40] :: r) inn) :
    Calls Tryz.prog 218 #[.pointer (some ⟨rb, 0, none⟩)] w (Got w rb tv xs inn ((expr r).then_ fun x r' => must [41] x r')) := by
  have R0 := RA.start h.lt
  have h0 := h.later (Put.new w #[.int .u8 0, .string ⟨#[]⟩, .slice none 0 0, .slice none 0 0, .slice none 0 0] TN).1
  obtain ⟨c, hc⟩ : ∃ c, c = w.heap.size := ⟨_, rfl⟩
  obtain ⟨wA, hwA⟩ : ∃ wA, wA = w.alloc (.cells #[.int .u8 0, .string ⟨#[]⟩, .slice none 0 0, .slice none 0 0, .slice none 0 0] TN) := ⟨_, rfl⟩
  rw [← hwA] at R0 h0
  rw [← hc] at R0
  have X0 := Lib.hid (And.intro R0 h0)
  clear h R0 h0
  have HE := Lib.hid (And.intro hex hn)
  clear hex hn
  go_enter Tryz.func218, Tryz.ntmps218
  go_upto_region 1 with fail
  rw [← hwA, ← hc]
  clear hwA hc
  go_wp2_with fail
  refine takes_yes X0.out.2 (by decide) fun w1 hs1 h1 => ?_
  have X1 := Lib.hid (And.intro (X0.out.1.step hs1) h1)
  clear hs1 h1
  go_wp2_with fail
  refine (HE.out.1 w1 r HE.out.2 trivial X1.out.2).mono ?_
  rintro e w2 ⟨hs2, h2, hres⟩
  cases hrd : expr r with
  | bad q =>
    rw [hrd] at hres h2
    subst hres
    have X2 := Lib.hid (And.intro (X1.out.1.step hs2) (And.intro h2 hrd))
    clear hs2 h2 hrd
    go_wp2_with fail
    refine ⟨rfl, ?_⟩
    rw [X2.out.2.2]
    exact X2.out.1.bad X2.out.2.1
  | ok x q =>
    rw [hrd] at hres h2
    obtain ⟨v, rfl, hN⟩ := hres
    obtain ⟨a1, d1, a2, d2, a3, d3, rfl⟩ := hN.form
    have hb := (X1.out.1.step hs2).box #[.int .u8 (x.kind : Int), .string (tx x.text), .slice a1 x.l.len d1, .slice a2 x.body.len d2, .slice a3 x.els.len d3]
    obtain ⟨b3, hb3⟩ : ∃ b3, b3 = w2.heap.size := ⟨_, rfl⟩
    obtain ⟨w3, hw3⟩ : ∃ w3, w3 = w2.alloc (.cells #[.int .u8 (x.kind : Int), .string (tx x.text), .slice a1 x.l.len d1, .slice a2 x.body.len d2, .slice a3 x.els.len d3] TN) := ⟨_, rfl⟩
    rw [← hw3] at hb
    have X2 := Lib.hid (And.intro hb.1 (And.intro (hb3 ▸ hb.2.1) (And.intro (h2.later hb.2.2) (And.intro (NS.later (NR.past X1.out.1 hN) hb.2.2) (And.intro hrd (show rb < b3 by have := X1.out.1.hrb; have := X1.out.1.lt; have := hs2.size; omega))))))
    clear hb hs2 h2 hN hrd
    go_upto_region 3 with fail
    rw [← hw3, ← hb3]
    clear hw3 hb3
    go_wp2_with fail
    by_cases hh : q.head? = some [41]
    · obtain ⟨q', rfl⟩ := head_form hh
      refine takes_yes X2.out.2.2.1 (by decide) fun w4 hs4 h4 => ?_
      have R4 := X2.out.1.step hs4
      have row4 := (hs4.kept (heap_lt X2.out.2.1) (Nat.ne_of_gt X2.out.2.2.2.2.2)).trans X2.out.2.1
      have N4 := NS.over X2.out.2.2.2.1 hs4 (fun b hb => by have := X2.out.1.hrb; omega)
      obtain ⟨x0, x1, x2, x3, x4, _, _, _, _, _⟩ := row5 row4
      obtain ⟨y0, y1, y2, y3, y4, g0, g1, g2, g3, g4⟩ := row5 R4.row
      have X4 := Lib.hid (And.intro R4 (And.intro h4 N4))
      clear hs4 h4 R4 row4 N4 hh
      go_wp2_with (refine must_yes ?_)
      have hp := put5 X4.out.1.row (.int .u8 (x.kind : Int)) (.string (tx x.text)) (.slice a1 x.l.len d1) (.slice a2 x.body.len d2) (.slice a3 x.els.len d3)
      refine bodyPost_ret (results_cell1 rfl _ _ _ rfl (nodeVar _ c _ _ _ _ _ hp.row)) rfl ?_
      rw [X2.out.2.2.2.2.1]
      show Got w rb tv xs inn (must [41] x ([41] :: q')) _ _
      rw [show must [41] x ([41] :: q') = .ok x q' by unfold must; simp only; rw [if_pos trivial]]
      exact X4.out.1.fin X4.out.2.1 X4.out.2.2 (fun _ h => h.1) hp
    · refine takes_no X2.out.2.2.1 [41] (by decide) hh fun w4 hb4 => ?_
      have X4 := Lib.hid (And.intro hh hb4)
      clear hh hb4
      go_wp2_with (refine must_no ?_)
      refine ⟨rfl, ?_⟩
      rw [X2.out.2.2.2.2.1]
      show Got w rb tv xs inn (must [41] x q) _ _
      rw [show must [41] x q = .bad q by
        cases q with
        | nil => rfl
        | cons s q' => unfold must; simp only; rw [if_neg (by intro e; subst e; exact X4.out.1 rfl)]]
      exact (X2.out.1.below X4.out.2).bad (X2.out.2.2.1.later X4.out.2)

set_option maxRecDepth 100000 in
set_option maxHeartbeats 2000000 in
theorem atom_list {rb : Nat} {tv : Value} {xs : List To.T} {inn : Bool} {n : Nat} (hex : Reads 196 #[.pointer (some ⟨rb, 0, none⟩)] rb tv xs inn (fun _ => True) n expr) {w : World} {r : List Tx} (hn : r.length ≤ n) (h : Rd w rb tv xs ([91] :: r) inn) :
    Calls Tryz.prog 218 #[.pointer (some ⟨rb, 0, none⟩)] w (Got w rb tv xs inn ((several [93] expr r).map fun l => ⟨3, [], Ns.of l, .nil, .nil⟩)) := by
  have R0 := RA.start h.lt
  have h0 := h.later (Put.new w #[.int .u8 0, .string ⟨#[]⟩, .slice none 0 0, .slice none 0 0, .slice none 0 0] TN).1
  obtain ⟨c, hc⟩ : ∃ c, c = w.heap.size := ⟨_, rfl⟩
  obtain ⟨wA, hwA⟩ : ∃ wA, wA = w.alloc (.cells #[.int .u8 0, .string ⟨#[]⟩, .slice none 0 0, .slice none 0 0, .slice none 0 0] TN) := ⟨_, rfl⟩
  rw [← hwA] at R0 h0
  rw [← hc] at R0
  have X0 := Lib.hid (And.intro R0 h0)
  clear h R0 h0
  have HE := Lib.hid (And.intro hex hn)
  clear hex hn
  go_enter Tryz.func218, Tryz.ntmps218
  go_upto_region 1 with fail
  rw [← hwA, ← hc]
  clear hwA hc
  go_wp2_with fail
  refine takes_no X0.out.2 [40] (by decide) (by simp) fun w1 hb1 => ?_
  have X1 := Lib.hid (And.intro (X0.out.1.below hb1) (X0.out.2.later hb1))
  clear hb1
  go_wp2_with fail
  refine takes_yes X1.out.2 (by decide) fun w2 hs2 h2 => ?_
  have X2 := Lib.hid (And.intro (X1.out.1.step hs2) h2)
  clear hs2 h2
  go_wp2_with fail
  refine (sevn_t (first := #[.pointer (some ⟨rb, 0, none⟩)]) (cap := #[]) (fun _ => rfl) (by rw [Array.append_empty]; exact HE.out.1) expr_down [93] (by decide) (by decide) HE.out.2 X2.out.2).mono ?_
  rintro e w3 ⟨hs3, h3, hres⟩
  cases hrd : several [93] expr r with
  | bad q =>
    rw [hrd] at hres h3
    subst hres
    have X3 := Lib.hid (And.intro (X2.out.1.step hs3) (And.intro h3 hrd))
    clear hs3 h3 hrd
    go_wp2_with fail
    refine ⟨rfl, ?_⟩
    rw [X3.out.2.2]
    exact X3.out.1.bad X3.out.2.1
  | ok l q =>
    rw [hrd] at hres h3
    obtain ⟨v, rfl, hL⟩ := hres
    obtain ⟨a1, d1, rfl⟩ := hL.form
    have R3 := X2.out.1.step hs3
    obtain ⟨y0, y1, y2, y3, y4, g0, g1, g2, g3, g4⟩ := row5 R3.row
    have X3 := Lib.hid (And.intro R3 (And.intro h3 (And.intro hL hrd)))
    have HZ := Lib.hid hs3.size
    clear hs3 h3 hrd R3 hL
    go_wp2_with fail
    have hp := put5 X3.out.1.row (.int .u8 3) (.string ⟨#[]⟩) (.slice a1 (Ns.of l).len d1) (.slice none 0 0) (.slice none 0 0)
    refine bodyPost_ret (results_cell1 rfl _ _ _ rfl (nodeVar _ c _ _ _ _ _ hp.row)) rfl ?_
    rw [X3.out.2.2.2]
    have hN : NR w3 TN w2.heap.size w3.heap.size (.agg #[.int .u8 ((3 : Nat) : Int), .string (tx []), .slice a1 (Ns.of l).len d1, .slice none 0 0, .slice none 0 0]) ⟨3, [], Ns.of l, .nil, .nil⟩ := NR.mk (by decide) (by decide) X3.out.2.2.1 (LR.nil _ _ _ _) (LR.nil _ _ _ _) HZ.out (Nat.le_refl _) (Nat.le_refl _)
    exact X3.out.1.fin (x := ⟨3, [], Ns.of l, .nil, .nil⟩) X3.out.2.1 (NR.past X2.out.1 hN) (fun _ h => h) hp

/-- A name, and what it is called with. -/
def atomName (s : Tx) (r : List Tx) : R Nd := match r with
  | [] => .ok (leaf 2 s) []
  | p :: r' => if p = [40] then (several [41] expr r').map fun l => ⟨4, s, Ns.of l, .nil, .nil⟩ else .ok (leaf 2 s) (p :: r')
theorem atomName_call (s : Tx) (r : List Tx) : atomName s ([40] :: r) = (several [41] expr r).map fun l => ⟨4, s, Ns.of l, .nil, .nil⟩ := by unfold atomName; simp only; rw [if_pos trivial]
theorem atomName_no (s : Tx) (r : List Tx) (h : r.head? ≠ some [40]) : atomName s r = .ok (leaf 2 s) r := by
  cases r with
  | nil => rfl
  | cons p r' => unfold atomName; simp only; rw [if_neg (by intro e; subst e; exact h rfl)]
theorem name_not {s : Tx} (h : To.name s = true) (u : Tx) (hu : To.name u = false) : s ≠ u := fun e => by subst e; rw [hu] at h; cases h

set_option maxRecDepth 100000 in
set_option maxHeartbeats 2000000 in
theorem atom_name {rb : Nat} {tv : Value} {xs : List To.T} {inn : Bool} {n : Nat} (hex : Reads 196 #[.pointer (some ⟨rb, 0, none⟩)] rb tv xs inn (fun _ => True) n expr) {w : World} {s : Tx} {r : List Tx} (hs : To.name s = true) (hn : r.length ≤ n) (h : Rd w rb tv xs (s :: r) inn) :
    Calls Tryz.prog 218 #[.pointer (some ⟨rb, 0, none⟩)] w (Got w rb tv xs inn (atomName s r)) := by
  have hsl : s.length ≤ 65536 := by obtain ⟨_, _, _, _, _, _, _, _, _, _, _, _, hs⟩ := h.token 0 (by simp); simpa using hs
  have n1 := name_not hs [40] (by decide)
  have n2 := name_not hs [91] (by decide)
  have R0 := RA.start h.lt
  have h0 := h.later (Put.new w #[.int .u8 0, .string ⟨#[]⟩, .slice none 0 0, .slice none 0 0, .slice none 0 0] TN).1
  obtain ⟨c, hc⟩ : ∃ c, c = w.heap.size := ⟨_, rfl⟩
  obtain ⟨wA, hwA⟩ : ∃ wA, wA = w.alloc (.cells #[.int .u8 0, .string ⟨#[]⟩, .slice none 0 0, .slice none 0 0, .slice none 0 0] TN) := ⟨_, rfl⟩
  rw [← hwA] at R0 h0
  rw [← hc] at R0
  have X0 := Lib.hid (And.intro R0 h0)
  clear h R0 h0
  have HE := Lib.hid (And.intro hex (And.intro hn (And.intro hs (And.intro n1 (And.intro n2 hsl)))))
  clear hex hn hs n1 n2 hsl
  go_enter Tryz.func218, Tryz.ntmps218
  go_upto_region 1 with fail
  rw [← hwA, ← hc]
  clear hwA hc
  go_wp2_with fail
  refine takes_no X0.out.2 [40] (by decide) (by have := HE.out.2.2.2.1; simpa using this) fun w1 hb1 => ?_
  have X1 := Lib.hid (And.intro (X0.out.1.below hb1) (X0.out.2.later hb1))
  clear hb1
  go_wp2_with fail
  refine takes_no X1.out.2 [91] (by decide) (by have := HE.out.2.2.2.2.1; simpa using this) fun w2 hb2 => ?_
  have X2 := Lib.hid (And.intro (X1.out.1.below hb2) (X1.out.2.later hb2))
  clear hb2
  go_wp2_with fail
  refine named_t X2.out.2 fun w3 hb3 => ?_
  rw [show To.name ((s :: r).getD 0 []) = true from HE.out.2.2.1]
  have X3 := Lib.hid (And.intro (X2.out.1.below hb3) (X2.out.2.later hb3))
  clear hb3
  go_wp2_with fail
  refine next_yes X3.out.2 fun w4 hs4 h4 => ?_
  have X4 := Lib.hid (And.intro (X3.out.1.step hs4) h4)
  clear hs4 h4
  have hb := X4.out.1.box #[.int .u8 2, .string (bs s), .slice none 0 0, .slice none 0 0, .slice none 0 0]
  obtain ⟨b4, hb4⟩ : ∃ b4, b4 = w4.heap.size := ⟨_, rfl⟩
  obtain ⟨w5, hw5⟩ : ∃ w5, w5 = w4.alloc (.cells #[.int .u8 2, .string (bs s), .slice none 0 0, .slice none 0 0, .slice none 0 0] TN) := ⟨_, rfl⟩
  rw [← hw5] at hb
  have X5 := Lib.hid (And.intro hb.1 (And.intro (hb4 ▸ hb.2.1) (And.intro (X4.out.2.later hb.2.2) (And.intro (show c < b4 by have := X4.out.1.lt; omega) (show rb < b4 by have := X4.out.1.hrb; have := X4.out.1.lt; omega)))))
  clear hb
  go_upto_region 9 with fail
  rw [← hw5, ← hb4]
  clear hw5 hb4
  go_wp2_with fail
  by_cases hh : r.head? = some [40]
  · obtain ⟨r', rfl⟩ := head_form hh
    refine takes_yes X5.out.2.2.1 (by decide) fun w6 hs6 h6 => ?_
    have X6 := Lib.hid (And.intro (X5.out.1.step hs6) (And.intro h6 ((hs6.kept (heap_lt X5.out.2.1) (Nat.ne_of_gt X5.out.2.2.2.2)).trans X5.out.2.1)))
    clear hs6 h6 hh
    go_wp2_with fail
    have hn' : r'.length ≤ n := by have := HE.out.2.1; rw [List.length_cons] at this; omega
    refine (sevn_t (first := #[.pointer (some ⟨rb, 0, none⟩)]) (cap := #[]) (fun _ => rfl) (by rw [Array.append_empty]; exact HE.out.1) expr_down [41] (by decide) (by decide) hn' X6.out.2.1).mono ?_
    rintro e w7 ⟨hs7, h7, hres⟩
    cases hrd : several [41] expr r' with
    | bad q =>
      rw [hrd] at hres h7
      subst hres
      have X7 := Lib.hid (And.intro (X6.out.1.step hs7) (And.intro h7 hrd))
      clear hs7 h7 hrd hn'
      go_wp2_with fail
      refine ⟨rfl, ?_⟩
      rw [atomName_call, X7.out.2.2]
      exact X7.out.1.bad X7.out.2.1
    | ok l q =>
      rw [hrd] at hres h7
      obtain ⟨v, rfl, hL⟩ := hres
      obtain ⟨a1, d1, rfl⟩ := hL.form
      have R7 := X6.out.1.step hs7
      have row7 := (hs7.kept (heap_lt X6.out.2.2) (Nat.ne_of_gt X5.out.2.2.2.2)).trans X6.out.2.2
      obtain ⟨x0, x1, x2, x3, x4, f0, f1, f2, f3, f4⟩ := row5 row7
      have hp1 := (Put.one row7 0 (.int .u8 4)).trans (Put.one (Put.one row7 0 (.int .u8 4)).row 2 (.slice a1 (Ns.of l).len d1))
      have hp1' : Put w7 ((w7.setCell ⟨b4, 0, none⟩ (.int .u8 4)).setCell ⟨b4, 2, none⟩ (.slice a1 (Ns.of l).len d1)) b4 #[.int .u8 4, .string (bs s), .slice a1 (Ns.of l).len d1, .slice none 0 0, .slice none 0 0] TN := hp1
      obtain ⟨w8, hw8⟩ : ∃ w8, w8 = (w7.setCell ⟨b4, 0, none⟩ (.int .u8 4)).setCell ⟨b4, 2, none⟩ (.slice a1 (Ns.of l).len d1) := ⟨_, rfl⟩
      rw [← hw8] at hp1'
      have R8 := R7.put hp1' X5.out.2.2.2.1
      have h8 := h7.put hp1' X5.out.2.2.2.2
      have hL8 : LR w8 TN w6.heap.size w7.heap.size (.slice a1 (Ns.of l).len d1) (Ns.of l) := LR.frame hL fun b q1 _ => hp1'.oth b (by have := heap_lt X6.out.2.2; omega)
      have hN : NR w8 TN w6.heap.size w8.heap.size (.agg #[.int .u8 ((4 : Nat) : Int), .string (tx s), .slice a1 (Ns.of l).len d1, .slice none 0 0, .slice none 0 0]) ⟨4, s, Ns.of l, .nil, .nil⟩ := NR.mk (by decide) (by have := HE.out.2.2.2.2.2; omega) hL8 (LR.nil _ _ _ _) (LR.nil _ _ _ _) hs7.size (by have := hp1'.size; omega) (Nat.le_refl _)
      have hN8 : NS w8 TN (fun b => c < b) (.agg #[.int .u8 ((4 : Nat) : Int), .string (tx s), .slice a1 (Ns.of l).len d1, .slice none 0 0, .slice none 0 0]) ⟨4, s, Ns.of l, .nil, .nil⟩ := hN.ns fun b q1 _ => by have := heap_lt X6.out.1.row; omega
      obtain ⟨z0, z1, z2, z3, z4, _, _, _, _, _⟩ := row5 hp1'.row
      obtain ⟨y0, y1, y2, y3, y4, g0, g1, g2, g3, g4⟩ := row5 R8.row
      have X7 := Lib.hid (And.intro R8 (And.intro h8 (And.intro hN8 hrd)))
      clear hs7 h7 hrd R7 hL row7 hp1 R8 h8 hL8 hN hN8 hn' hp1'
      go_upto_region 11 with fail
      rw [← hw8]
      clear hw8 x0 x1 x2 x3 x4 f0 f1 f2 f3 f4
      go_wp2_with fail
      have hp := put5 X7.out.1.row (.int .u8 4) (.string (bs s)) (.slice a1 (Ns.of l).len d1) (.slice none 0 0) (.slice none 0 0)
      refine bodyPost_ret (results_cell1 rfl _ _ _ rfl (nodeVar _ c _ _ _ _ _ hp.row)) rfl ?_
      rw [atomName_call, X7.out.2.2.2]
      exact X7.out.1.fin (x := ⟨4, s, Ns.of l, .nil, .nil⟩) X7.out.2.1 X7.out.2.2.1 (fun _ h => h) hp
  · refine takes_no X5.out.2.2.1 [40] (by decide) hh fun w6 hb6 => ?_
    have R6 := X5.out.1.below hb6
    have row6 := (hb6.block _ (heap_lt X5.out.2.1)).trans X5.out.2.1
    obtain ⟨x0, x1, x2, x3, x4, _, _, _, _, _⟩ := row5 row6
    obtain ⟨y0, y1, y2, y3, y4, g0, g1, g2, g3, g4⟩ := row5 R6.row
    have X6 := Lib.hid (And.intro R6 (And.intro (X5.out.2.2.1.later hb6) hh))
    clear hb6 R6 row6 hh
    go_wp2_with fail
    have hp := put5 X6.out.1.row (.int .u8 2) (.string (bs s)) (.slice none 0 0) (.slice none 0 0) (.slice none 0 0)
    refine bodyPost_ret (results_cell1 rfl _ _ _ rfl (nodeVar _ c _ _ _ _ _ hp.row)) rfl ?_
    have hN : NR w6 TN w6.heap.size w6.heap.size (.agg #[.int .u8 ((2 : Nat) : Int), .string (tx s), .slice none 0 0, .slice none 0 0, .slice none 0 0]) (leaf 2 s) := NR.mk (by decide) (by have := HE.out.2.2.2.2.2; omega) (LR.nil _ _ _ _) (LR.nil _ _ _ _) (LR.nil _ _ _ _) (Nat.le_refl _) (Nat.le_refl _) (Nat.le_refl _)
    rw [atomName_no s r X6.out.2.2]
    exact X6.out.1.fin (x := leaf 2 s) X6.out.2.1 (NR.past X6.out.1 hN) (fun _ h => h) hp

set_option maxRecDepth 100000 in
set_option maxHeartbeats 2000000 in
theorem atom_num {rb : Nat} {tv : Value} {xs : List To.T} {inn : Bool} {w : World} {ts : List Tx} (k1 : ts.head? ≠ some [40]) (k2 : ts.head? ≠ some [91]) (hs : To.name (ts.getD 0 []) = false) (h : Rd w rb tv xs ts inn) :
    Calls Tryz.prog 218 #[.pointer (some ⟨rb, 0, none⟩)] w (Got w rb tv xs inn (number ts)) := by
  have R0 := RA.start h.lt
  have h0 := h.later (Put.new w #[.int .u8 0, .string ⟨#[]⟩, .slice none 0 0, .slice none 0 0, .slice none 0 0] TN).1
  obtain ⟨c, hc⟩ : ∃ c, c = w.heap.size := ⟨_, rfl⟩
  obtain ⟨wA, hwA⟩ : ∃ wA, wA = w.alloc (.cells #[.int .u8 0, .string ⟨#[]⟩, .slice none 0 0, .slice none 0 0, .slice none 0 0] TN) := ⟨_, rfl⟩
  rw [← hwA] at R0 h0
  rw [← hc] at R0
  have X0 := Lib.hid (And.intro R0 h0)
  clear h R0 h0
  have HE := Lib.hid (And.intro hs (And.intro k1 k2))
  clear hs k1 k2
  go_enter Tryz.func218, Tryz.ntmps218
  go_upto_region 1 with fail
  rw [← hwA, ← hc]
  clear hwA hc
  go_wp2_with fail
  refine takes_no X0.out.2 [40] (by decide) HE.out.2.1 fun w1 hb1 => ?_
  have X1 := Lib.hid (And.intro (X0.out.1.below hb1) (X0.out.2.later hb1))
  clear hb1
  go_wp2_with fail
  refine takes_no X1.out.2 [91] (by decide) HE.out.2.2 fun w2 hb2 => ?_
  have X2 := Lib.hid (And.intro (X1.out.1.below hb2) (X1.out.2.later hb2))
  clear hb2
  go_wp2_with fail
  refine named_t X2.out.2 fun w3 hb3 => ?_
  rw [HE.out.1]
  have X3 := Lib.hid (And.intro (X2.out.1.below hb3) (X2.out.2.later hb3))
  clear hb3
  go_wp2_with fail
  refine (rnum_t X3.out.2).mono ?_
  rintro e w4 ⟨hs4, h4, hres⟩
  have R4 := X3.out.1.step hs4
  cases hrd : number ts with
  | bad q =>
    rw [hrd] at hres h4
    subst hres
    have X4 := Lib.hid (And.intro R4 (And.intro h4 hrd))
    clear hs4 h4 hrd R4
    go_wp2_with fail
    refine ⟨rfl, ?_⟩
    exact X4.out.1.bad X4.out.2.1
  | ok x q =>
    rw [hrd] at hres h4
    obtain ⟨v, rfl, hN⟩ := hres
    obtain ⟨a1, d1, a2, d2, a3, d3, rfl⟩ := hN.form
    obtain ⟨y0, y1, y2, y3, y4, g0, g1, g2, g3, g4⟩ := row5 R4.row
    have X4 := Lib.hid (And.intro R4 (And.intro h4 (And.intro hrd (NR.past X3.out.1 hN))))
    clear hs4 h4 hrd R4 hN
    go_wp2_with fail
    have hp := put5 X4.out.1.row (.int .u8 (x.kind : Int)) (.string (tx x.text)) (.slice a1 x.l.len d1) (.slice a2 x.body.len d2) (.slice a3 x.els.len d3)
    refine bodyPost_ret (results_cell1 rfl _ _ _ rfl (nodeVar _ c _ _ _ _ _ hp.row)) rfl ?_
    first | rw [X4.out.2.2.1] | skip
    exact X4.out.1.fin X4.out.2.1 X4.out.2.2.2 (fun _ h => h) hp

/-- An atom. -/
theorem atom_r {rb : Nat} {tv : Value} {xs : List To.T} {inn : Bool} {n : Nat} (hex : Reads 196 #[.pointer (some ⟨rb, 0, none⟩)] rb tv xs inn (fun _ => True) n expr) :
    Reads 218 #[.pointer (some ⟨rb, 0, none⟩)] rb tv xs inn (fun _ => True) (n + 1) (atom expr) := by
  intro w ts hn _ h
  cases ts with
  | nil => exact atom_num (by simp) (by simp) (by decide) h
  | cons s r =>
    rw [List.length_cons] at hn
    by_cases h1 : s = [40]
    · subst h1; exact atom_paren hex (by omega) h
    · by_cases h2 : s = [91]
      · subst h2; exact atom_list hex (by omega) h
      · cases h3 : To.name s with
        | true =>
          have := atom_name hex h3 (by omega) h
          unfold atom
          simp only
          rw [if_neg h1, if_neg h2, if_pos h3]
          exact this
        | false =>
          have := atom_num (ts := s :: r) (by simpa using h1) (by simpa using h2) h3 h
          unfold atom
          simp only
          rw [if_neg h1, if_neg h2, if_neg (by rw [h3]; decide)]
          exact this
end Go.Proofs.YtmkhfonafcikdaaGreatDoor

/- Trees: the reader: what has signs ahead; so expressions as a whole. -/
namespace Go.Proofs.YtmkhfonafcikdaaGreatDoor
open Go.RowKit Go.My Go.Nd

set_option maxRecDepth 100000 in
set_option maxHeartbeats 2000000 in
theorem signed_neg {rb : Nat} {tv : Value} {xs : List To.T} {inn : Bool} {n : Nat} (hsg : Reads 207 #[.pointer (some ⟨rb, 0, none⟩)] rb tv xs inn (fun _ => True) n sg) {w : World} {r : List Tx} (hn : r.length ≤ n) (h : Rd w rb tv xs ([45] :: r) inn) :
    Calls Tryz.prog 207 #[.pointer (some ⟨rb, 0, none⟩)] w (Got w rb tv xs inn ((sg r).map fun x => ⟨6, [], Ns.of [x], .nil, .nil⟩)) := by
  have R0 := RA.start h.lt
  have h0 := h.later (Put.new w #[.int .u8 0, .string ⟨#[]⟩, .slice none 0 0, .slice none 0 0, .slice none 0 0] TN).1
  obtain ⟨c, hc⟩ : ∃ c, c = w.heap.size := ⟨_, rfl⟩
  obtain ⟨wA, hwA⟩ : ∃ wA, wA = w.alloc (.cells #[.int .u8 0, .string ⟨#[]⟩, .slice none 0 0, .slice none 0 0, .slice none 0 0] TN) := ⟨_, rfl⟩
  rw [← hwA] at R0 h0
  rw [← hc] at R0
  have X0 := Lib.hid (And.intro R0 h0)
  clear h R0 h0
  have HE := Lib.hid (And.intro hsg hn)
  clear hsg hn
  go_enter Tryz.func207, Tryz.ntmps207
  go_upto_region 1 with fail
  rw [← hwA, ← hc]
  clear hwA hc
  go_wp2_with fail
  have X1 := Lib.hid X0.out
  refine takes_yes X1.out.2 (by decide) fun w2 hs2 h2 => ?_
  have X2 := Lib.hid (And.intro (X1.out.1.step hs2) h2)
  clear hs2 h2
  go_wp2_with fail
  refine (HE.out.1 w2 r HE.out.2 trivial X2.out.2).mono ?_
  rintro e w3 ⟨hs3, h3, hres⟩
  cases hrd : sg r with
  | bad q =>
    rw [hrd] at hres h3
    subst hres
    have X3 := Lib.hid (And.intro (X2.out.1.step hs3) (And.intro h3 hrd))
    clear hs3 h3 hrd
    go_wp2_with fail
    refine ⟨rfl, ?_⟩
    first | rw [X3.out.2.2] | skip
    exact X3.out.1.bad X3.out.2.1
  | ok x q =>
    rw [hrd] at hres h3
    obtain ⟨v, rfl, hN⟩ := hres
    obtain ⟨a1, d1, a2, d2, a3, d3, rfl⟩ := hN.form
    have hb := (X2.out.1.step hs3).box #[.int .u8 (x.kind : Int), .string (tx x.text), .slice a1 x.l.len d1, .slice a2 x.body.len d2, .slice a3 x.els.len d3]
    have hL := LR.one hN hs3.size (Nat.le_refl _)
    have hz := (Put.new w3 #[.int .u8 (x.kind : Int), .string (tx x.text), .slice a1 x.l.len d1, .slice a2 x.body.len d2, .slice a3 x.els.len d3] TN).2.2
    obtain ⟨y0, y1, y2, y3, y4, g0, g1, g2, g3, g4⟩ := row5 hb.1.row
    have hN4 : NR (w3.alloc (.cells #[.int .u8 (x.kind : Int), .string (tx x.text), .slice a1 x.l.len d1, .slice a2 x.body.len d2, .slice a3 x.els.len d3] TN)) TN w2.heap.size (w3.alloc (.cells #[.int .u8 (x.kind : Int), .string (tx x.text), .slice a1 x.l.len d1, .slice a2 x.body.len d2, .slice a3 x.els.len d3] TN)).heap.size (.agg #[.int .u8 ((6 : Nat) : Int), .string (tx []), .slice (some ⟨w3.heap.size, 0, none⟩) 1 1, .slice none 0 0, .slice none 0 0]) ⟨6, [], Ns.of [x], .nil, .nil⟩ := NR.mk (by decide) (by decide) (hz ▸ hL) (LR.nil _ _ _ _) (LR.nil _ _ _ (w3.alloc (.cells #[.int .u8 (x.kind : Int), .string (tx x.text), .slice a1 x.l.len d1, .slice a2 x.body.len d2, .slice a3 x.els.len d3] TN)).heap.size) (by have := hs3.size; omega) (Nat.le_refl _) (Nat.le_refl _)
    have X4 := Lib.hid (And.intro hb.1 (And.intro (h3.later hb.2.2) (And.intro (NR.past X2.out.1 hN4) hrd)))
    clear hs3 h3 hN hb hL hN4 hz hrd
    go_wp2_with fail
    have hp := put5 X4.out.1.row (.int .u8 6) (.string ⟨#[]⟩) (.slice (some ⟨w3.heap.size, 0, none⟩) 1 1) (.slice none 0 0) (.slice none 0 0)
    refine bodyPost_ret (results_cell1 rfl _ _ _ rfl (nodeVar _ c _ _ _ _ _ hp.row)) rfl ?_
    first | rw [X4.out.2.2.2] | skip
    exact X4.out.1.fin (x := ⟨6, [], Ns.of [x], .nil, .nil⟩) X4.out.2.1 X4.out.2.2.1 (fun _ h => h) hp

set_option maxRecDepth 100000 in
set_option maxHeartbeats 2000000 in
theorem signed_not {rb : Nat} {tv : Value} {xs : List To.T} {inn : Bool} {n : Nat} (hsg : Reads 207 #[.pointer (some ⟨rb, 0, none⟩)] rb tv xs inn (fun _ => True) n sg) {w : World} {r : List Tx} (hn : r.length ≤ n) (h : Rd w rb tv xs ([110, 111, 116] :: r) inn) :
    Calls Tryz.prog 207 #[.pointer (some ⟨rb, 0, none⟩)] w (Got w rb tv xs inn ((sg r).map fun x => ⟨7, [], Ns.of [x], .nil, .nil⟩)) := by
  have R0 := RA.start h.lt
  have h0 := h.later (Put.new w #[.int .u8 0, .string ⟨#[]⟩, .slice none 0 0, .slice none 0 0, .slice none 0 0] TN).1
  obtain ⟨c, hc⟩ : ∃ c, c = w.heap.size := ⟨_, rfl⟩
  obtain ⟨wA, hwA⟩ : ∃ wA, wA = w.alloc (.cells #[.int .u8 0, .string ⟨#[]⟩, .slice none 0 0, .slice none 0 0, .slice none 0 0] TN) := ⟨_, rfl⟩
  rw [← hwA] at R0 h0
  rw [← hc] at R0
  have X0 := Lib.hid (And.intro R0 h0)
  clear h R0 h0
  have HE := Lib.hid (And.intro hsg hn)
  clear hsg hn
  go_enter Tryz.func207, Tryz.ntmps207
  go_upto_region 1 with fail
  rw [← hwA, ← hc]
  clear hwA hc
  go_wp2_with fail
  refine takes_no X0.out.2 [45] (by decide) (by simp) fun w1 hb1 => ?_
  have X1 := Lib.hid (And.intro (X0.out.1.below hb1) (X0.out.2.later hb1))
  clear hb1
  go_wp2_with fail
  refine takes_yes X1.out.2 (by decide) fun w2 hs2 h2 => ?_
  have X2 := Lib.hid (And.intro (X1.out.1.step hs2) h2)
  clear hs2 h2
  go_wp2_with fail
  refine (HE.out.1 w2 r HE.out.2 trivial X2.out.2).mono ?_
  rintro e w3 ⟨hs3, h3, hres⟩
  cases hrd : sg r with
  | bad q =>
    rw [hrd] at hres h3
    subst hres
    have X3 := Lib.hid (And.intro (X2.out.1.step hs3) (And.intro h3 hrd))
    clear hs3 h3 hrd
    go_wp2_with fail
    refine ⟨rfl, ?_⟩
    first | rw [X3.out.2.2] | skip
    exact X3.out.1.bad X3.out.2.1
  | ok x q =>
    rw [hrd] at hres h3
    obtain ⟨v, rfl, hN⟩ := hres
    obtain ⟨a1, d1, a2, d2, a3, d3, rfl⟩ := hN.form
    have hb := (X2.out.1.step hs3).box #[.int .u8 (x.kind : Int), .string (tx x.text), .slice a1 x.l.len d1, .slice a2 x.body.len d2, .slice a3 x.els.len d3]
    have hL := LR.one hN hs3.size (Nat.le_refl _)
    have hz := (Put.new w3 #[.int .u8 (x.kind : Int), .string (tx x.text), .slice a1 x.l.len d1, .slice a2 x.body.len d2, .slice a3 x.els.len d3] TN).2.2
    obtain ⟨y0, y1, y2, y3, y4, g0, g1, g2, g3, g4⟩ := row5 hb.1.row
    have hN4 : NR (w3.alloc (.cells #[.int .u8 (x.kind : Int), .string (tx x.text), .slice a1 x.l.len d1, .slice a2 x.body.len d2, .slice a3 x.els.len d3] TN)) TN w2.heap.size (w3.alloc (.cells #[.int .u8 (x.kind : Int), .string (tx x.text), .slice a1 x.l.len d1, .slice a2 x.body.len d2, .slice a3 x.els.len d3] TN)).heap.size (.agg #[.int .u8 ((7 : Nat) : Int), .string (tx []), .slice (some ⟨w3.heap.size, 0, none⟩) 1 1, .slice none 0 0, .slice none 0 0]) ⟨7, [], Ns.of [x], .nil, .nil⟩ := NR.mk (by decide) (by decide) (hz ▸ hL) (LR.nil _ _ _ _) (LR.nil _ _ _ (w3.alloc (.cells #[.int .u8 (x.kind : Int), .string (tx x.text), .slice a1 x.l.len d1, .slice a2 x.body.len d2, .slice a3 x.els.len d3] TN)).heap.size) (by have := hs3.size; omega) (Nat.le_refl _) (Nat.le_refl _)
    have X4 := Lib.hid (And.intro hb.1 (And.intro (h3.later hb.2.2) (And.intro (NR.past X2.out.1 hN4) hrd)))
    clear hs3 h3 hN hb hL hN4 hz hrd
    go_wp2_with fail
    have hp := put5 X4.out.1.row (.int .u8 7) (.string ⟨#[]⟩) (.slice (some ⟨w3.heap.size, 0, none⟩) 1 1) (.slice none 0 0) (.slice none 0 0)
    refine bodyPost_ret (results_cell1 rfl _ _ _ rfl (nodeVar _ c _ _ _ _ _ hp.row)) rfl ?_
    first | rw [X4.out.2.2.2] | skip
    exact X4.out.1.fin (x := ⟨7, [], Ns.of [x], .nil, .nil⟩) X4.out.2.1 X4.out.2.2.1 (fun _ h => h) hp

/-- An atom, and what it is raised to. -/
def sgPow (x : Nd) (r : List Tx) : R Nd := match r with
  | [] => .ok x []
  | p :: r'' => if p = [94] then (number r'').map (bin [94] x) else .ok x (p :: r'')
theorem sgPow_no (x : Nd) (r : List Tx) (h : r.head? ≠ some [94]) : sgPow x r = .ok x r := by
  cases r with
  | nil => rfl
  | cons p r' => unfold sgPow; simp only; rw [if_neg (by intro e; subst e; exact h rfl)]
theorem sgPow_yes (x : Nd) (r : List Tx) : sgPow x ([94] :: r) = (number r).map (bin [94] x) := by unfold sgPow; simp only; rw [if_pos trivial]

set_option maxRecDepth 100000 in
set_option maxHeartbeats 4000000 in
theorem signed_atom {rb : Nat} {tv : Value} {xs : List To.T} {inn : Bool} {n : Nat} (hat : Reads 218 #[.pointer (some ⟨rb, 0, none⟩)] rb tv xs inn (fun _ => True) n (atom expr)) {w : World} {ts : List Tx} (hn : ts.length ≤ n) (k1 : ts.head? ≠ some [45]) (k2 : ts.head? ≠ some [110, 111, 116]) (h : Rd w rb tv xs ts inn) :
    Calls Tryz.prog 207 #[.pointer (some ⟨rb, 0, none⟩)] w (Got w rb tv xs inn ((atom expr ts).then_ sgPow)) := by
  have R0 := RA.start h.lt
  have h0 := h.later (Put.new w #[.int .u8 0, .string ⟨#[]⟩, .slice none 0 0, .slice none 0 0, .slice none 0 0] TN).1
  obtain ⟨c, hc⟩ : ∃ c, c = w.heap.size := ⟨_, rfl⟩
  obtain ⟨wA, hwA⟩ : ∃ wA, wA = w.alloc (.cells #[.int .u8 0, .string ⟨#[]⟩, .slice none 0 0, .slice none 0 0, .slice none 0 0] TN) := ⟨_, rfl⟩
  rw [← hwA] at R0 h0
  rw [← hc] at R0
  have X0 := Lib.hid (And.intro R0 h0)
  clear h R0 h0
  have HE := Lib.hid (And.intro hat (And.intro hn (And.intro k1 k2)))
  clear hat hn k1 k2
  go_enter Tryz.func207, Tryz.ntmps207
  go_upto_region 1 with fail
  rw [← hwA, ← hc]
  clear hwA hc
  go_wp2_with fail
  refine takes_no X0.out.2 [45] (by decide) HE.out.2.2.1 fun w1 hb1 => ?_
  have X1 := Lib.hid (And.intro (X0.out.1.below hb1) (X0.out.2.later hb1))
  clear hb1
  go_wp2_with fail
  refine takes_no X1.out.2 [110, 111, 116] (by decide) HE.out.2.2.2 fun w2 hb2 => ?_
  have X2 := Lib.hid (And.intro (X1.out.1.below hb2) (X1.out.2.later hb2))
  clear hb2
  go_wp2_with fail
  refine (HE.out.1 w2 ts HE.out.2.1 trivial X2.out.2).mono ?_
  rintro e w3 ⟨hs3, h3, hres⟩
  cases hrd : atom expr ts with
  | bad q =>
    rw [hrd] at hres h3
    subst hres
    have X3 := Lib.hid (And.intro (X2.out.1.step hs3) (And.intro h3 hrd))
    clear hs3 h3 hrd
    go_wp2_with fail
    refine ⟨rfl, ?_⟩
    first | rw [X3.out.2.2] | skip
    exact X3.out.1.bad X3.out.2.1
  | ok x q =>
    rw [hrd] at hres h3
    obtain ⟨v, rfl, hN⟩ := hres
    obtain ⟨a1, d1, a2, d2, a3, d3, rfl⟩ := hN.form
    have hb := (X2.out.1.step hs3).box #[.int .u8 (x.kind : Int), .string (tx x.text), .slice a1 x.l.len d1, .slice a2 x.body.len d2, .slice a3 x.els.len d3]
    obtain ⟨b3, hb3⟩ : ∃ b3, b3 = w3.heap.size := ⟨_, rfl⟩
    obtain ⟨w4, hw4⟩ : ∃ w4, w4 = w3.alloc (.cells #[.int .u8 (x.kind : Int), .string (tx x.text), .slice a1 x.l.len d1, .slice a2 x.body.len d2, .slice a3 x.els.len d3] TN) := ⟨_, rfl⟩
    rw [← hw4] at hb
    have hNS : NS w3 TN (fun b => c < b ∧ b < b3) _ x := hN.ns fun b q1 q2 => by have := X2.out.1.lt; omega
    have X4 := Lib.hid (And.intro hb.1 (And.intro (hb3 ▸ hb.2.1) (And.intro (h3.later hb.2.2) (And.intro (NS.later hNS hb.2.2) (And.intro hrd (show c < b3 by have := X2.out.1.lt; have := hs3.size; omega))))))
    clear hb hs3 h3 hN hNS hrd
    go_upto_region 6 with fail
    rw [← hw4, ← hb3]
    clear hw4 hb3
    go_wp2_with fail
    by_cases hh : q.head? = some [94]
    · obtain ⟨q', rfl⟩ := head_form hh
      refine takes_yes X4.out.2.2.1 (by decide) fun w5 hs5 h5 => ?_
      have hrb := X4.out.1.hrb
      have hcb := X4.out.2.2.2.2.2
      have R5 := X4.out.1.step hs5
      have row5' := (hs5.kept (heap_lt X4.out.2.1) (by omega)).trans X4.out.2.1
      have N5 := NS.over X4.out.2.2.2.1 hs5 (fun b hb => by omega)
      obtain ⟨x0, x1, x2, x3, x4, e0, e1, e2, e3, e4⟩ := row5 row5'
      have X5 := Lib.hid (And.intro R5 (And.intro h5 (And.intro row5' (NS.mono (U := fun b => c < b ∧ b < b3) N5 fun b hb _ => hb.1))))
      clear hs5 h5 R5 row5' N5 hh hrb hcb
      go_upto_region 7 with fail
      have HAFT := Lib.hid (fun (w6 : World) (hs6 : Step w5.drew w6 (some rb)) => ((hs6.kept (c := b3) (heap_lt X5.out.2.2.1) (by have := X5.out.1.hrb; have := X4.out.2.2.2.2.2; omega)).trans X5.out.2.2.1))
      go_region_law (first
        | (go_simp; go_at_call 217; (refine bin_t X6.out.2.2.1 X6.out.2.2.2.1 X6.out.2.2.2.2.1 (s := [94]) (by decide) ?_); intro v7 w7 hb7 hN7; obtain ⟨p1, q1, p2, q2, p3, q3, rfl⟩ := hN7.form; have hrow7 := (hb7.block b3 (heap_lt X6.out.2.2.2.2.2)).trans X6.out.2.2.2.2.2; obtain ⟨x0'', x1'', x2'', x3'', x4'', g0'', g1'', g2'', g3'', g4''⟩ := row5 hrow7; have X7 := Lib.hid (And.intro hb7 (And.intro hN7 hrow7)); clear hb7 hN7 hrow7)
        | (go_simp; go_at_call 219; refine (rnum_t (X5.out.2.1.later (Below.refl _ w5).drew)).mono ?_; rintro e w6 ⟨hs6, h6, hres⟩; cases hrd : number q'; rotate_left 1; (rename_i u; rw [hrd] at hres h6; subst hres; refine ⟨rfl, ?_⟩; rw [X4.out.2.2.2.2.1]; show Got w rb tv xs inn (sgPow x ([94] :: q')) _ _; rw [sgPow_yes, hrd]; exact ((X5.out.1.below (Below.refl _ w5).drew).step hs6).bad h6); rename_i y u; rw [hrd] at hres h6; obtain ⟨v6, rfl, hN6⟩ := hres; obtain ⟨o1, i1, o2, i2, o3, i3, rfl⟩ := hN6.form; have hrow6 := HAFT.out w6 hs6; obtain ⟨x0', x1', x2', x3', x4', g0', g1', g2', g3', g4'⟩ := row5 hrow6; have X6 := Lib.hid (show Step w5.drew w6 (some rb) ∧ (number q' = .ok y u ∧ Rd w6 rb tv xs u inn) ∧ NS w6 TN (fun b => (c < b ∧ b < b3) ∧ b < w5.drew.heap.size) (.agg #[.int .u8 (x.kind : Int), .string (tx x.text), .slice a1 x.l.len d1, .slice a2 x.body.len d2, .slice a3 x.els.len d3]) x ∧ NS w6 TN (fun b => w5.drew.heap.size ≤ b) (.agg #[.int .u8 (y.kind : Int), .string (tx y.text), .slice o1 y.l.len i1, .slice o2 y.body.len i2, .slice o3 y.els.len i3]) y ∧ (∀ b, ((c < b ∧ b < b3) ∧ b < w5.drew.heap.size) → w5.drew.heap.size ≤ b → False) ∧ w6.heap[b3]? = some (.cells #[.int .u8 (x.kind : Int), .string (tx x.text), .slice a1 x.l.len d1, .slice a2 x.body.len d2, .slice a3 x.els.len d3] TN (0, 0)) from ⟨hs6, ⟨hrd, h6⟩, NS.over (NS.later X5.out.2.2.2 (Below.refl _ w5).drew) hs6 (fun b hb => by have := X4.out.1.hrb; omega), hN6.ns (fun b h1 _ => h1), fun b h1 h2 => by omega, hrow6⟩); clear hs6 h6 hN6 hrd hrow6))
      all_goals
        have hp7 := put5 X7.out.2.2 (.int .u8 ((bin [94] x y).kind : Int)) (.string (tx (bin [94] x y).text)) (.slice p1 (bin [94] x y).l.len q1) (.slice p2 (bin [94] x y).body.len q2) (.slice p3 (bin [94] x y).els.len q3)
        have R7 := ((X5.out.1.below (Below.refl _ w5).drew).step X6.out.1).below X7.out.1
        have R8 := R7.put hp7 X4.out.2.2.2.2.2
        have h8 := (X6.out.2.1.2.later X7.out.1).put hp7 (by have := X4.out.2.2.2.2.2; have := X4.out.1.hrb; omega)
        have b1 : b3 < w5.drew.heap.size := heap_lt X5.out.2.2.1
        have b2 := X6.out.1.size
        have b4 := X4.out.2.2.2.2.2
        have N8 := NS.frame (NS.mono (U := fun b => c < b ∧ b ≠ b3) X7.out.2.1 fun b hb _ => by
          rcases hb with h | h | h
          · exact ⟨h.1.1, by omega⟩
          · exact ⟨by omega, by omega⟩
          · exact ⟨by omega, by omega⟩) (fun b hb _ => hp7.oth b hb.2)
        have hrow8 := hp7.row
        obtain ⟨w8, hw8⟩ : ∃ w8, w8 = ((((w7.setCell ⟨b3, 0, none⟩ (.int .u8 ((bin [94] x y).kind : Int))).setCell ⟨b3, 1, none⟩ (.string (tx (bin [94] x y).text))).setCell ⟨b3, 2, none⟩ (.slice p1 (bin [94] x y).l.len q1)).setCell ⟨b3, 3, none⟩ (.slice p2 (bin [94] x y).body.len q2)).setCell ⟨b3, 4, none⟩ (.slice p3 (bin [94] x y).els.len q3) := ⟨_, rfl⟩
        rw [← hw8] at R8 h8 N8 hrow8 ⊢
        obtain ⟨z0, z1, z2, z3, z4, _, _, _, _, _⟩ := row5 hrow8
        obtain ⟨y0, y1, y2, y3, y4, f0, f1, f2, f3, f4⟩ := row5 R8.row
        have X8 := Lib.hid (And.intro R8 (And.intro h8 (And.intro N8 X6.out.2.1.1)))
        clear hw8 hp7 R7 R8 h8 N8 hrow8 b1 b2 b4 x0 x1 x2 x3 x4 x0' x1' x2' x3' x4' x0'' x1'' x2'' x3'' x4'' e0 e1 e2 e3 e4 g0' g1' g2' g3' g4' g0'' g1'' g2'' g3'' g4''
        generalize hbn : bin [94] x y = z at *
        have HBN := Lib.hid hbn
        clear hbn X7 X6
        go_wp2_with fail
        have hp := put5 X8.out.1.row (.int .u8 (z.kind : Int)) (.string (tx z.text)) (.slice p1 z.l.len q1) (.slice p2 z.body.len q2) (.slice p3 z.els.len q3)
        refine bodyPost_ret (results_cell1 rfl _ _ _ rfl (nodeVar _ c _ _ _ _ _ hp.row)) rfl ?_
        rw [X4.out.2.2.2.2.1]
        show Got w rb tv xs inn (sgPow x ([94] :: q')) _ _
        rw [sgPow_yes, X8.out.2.2.2]
        show Got w rb tv xs inn (.ok (bin [94] x y) u) _ _
        rw [HBN.out]
        exact X8.out.1.fin X8.out.2.1 X8.out.2.2.1 (fun _ h => h.1) hp
    · refine takes_no X4.out.2.2.1 [94] (by decide) hh fun w5 hb5 => ?_
      have R5 := X4.out.1.below hb5
      have row5' := (hb5.block _ (heap_lt X4.out.2.1)).trans X4.out.2.1
      obtain ⟨x0, x1, x2, x3, x4, _, _, _, _, _⟩ := row5 row5'
      obtain ⟨y0, y1, y2, y3, y4, g0, g1, g2, g3, g4⟩ := row5 R5.row
      have X5 := Lib.hid (And.intro R5 (And.intro (X4.out.2.2.1.later hb5) (And.intro hh (NS.later X4.out.2.2.2.1 hb5))))
      clear hb5 R5 row5' hh
      go_wp2_with fail
      have hp := put5 X5.out.1.row (.int .u8 (x.kind : Int)) (.string (tx x.text)) (.slice a1 x.l.len d1) (.slice a2 x.body.len d2) (.slice a3 x.els.len d3)
      refine bodyPost_ret (results_cell1 rfl _ _ _ rfl (nodeVar _ c _ _ _ _ _ hp.row)) rfl ?_
      rw [X4.out.2.2.2.2.1]
      show Got w rb tv xs inn (sgPow x q) _ _
      rw [sgPow_no x q X5.out.2.2.1]
      exact X5.out.1.fin X5.out.2.1 X5.out.2.2.2 (fun _ h => h.1) hp

/-- What has signs ahead, however many tokens there are. -/
theorem signed_r {rb : Nat} {tv : Value} {xs : List To.T} {inn : Bool} : ∀ n, Reads 207 #[.pointer (some ⟨rb, 0, none⟩)] rb tv xs inn (fun _ => True) n sg := by
  have step : ∀ n (ts : List Tx) (w : World), ts.length ≤ n → (∀ r s, ts = s :: r → Reads 207 #[.pointer (some ⟨rb, 0, none⟩)] rb tv xs inn (fun _ => True) r.length sg) → Rd w rb tv xs ts inn → Calls Tryz.prog 207 #[.pointer (some ⟨rb, 0, none⟩)] w (Got w rb tv xs inn (sg ts)) := by
    intro n ts w hn ih h
    cases ts with
    | nil =>
      exact signed_atom (n := 0) (fun w' us hu _ h' => by
        have : us = [] := List.eq_nil_of_length_eq_zero (by omega)
        subst this
        exact atom_num (by simp) (by simp) (by decide) h') (Nat.zero_le _) (by simp) (by simp) h
    | cons s r =>
      have hs := ih r s rfl
      rw [sg_cons]
      by_cases h1 : s = [45]
      · subst h1; rw [if_pos rfl]; exact signed_neg hs (Nat.le_refl _) h
      · rw [if_neg h1]
        by_cases h2 : s = [110, 111, 116]
        · subst h2; rw [if_pos rfl]; exact signed_not hs (Nat.le_refl _) h
        · rw [if_neg h2]
          exact signed_atom (n := r.length + 1) (atom_r (expr_r hs)) (by simp) (by simpa using h1) (by simpa using h2) h
  intro n
  induction n with
  | zero =>
    intro w ts hn _ h
    have : ts = [] := List.eq_nil_of_length_eq_zero (by omega)
    subst this
    exact step 0 [] w (Nat.le_refl _) (fun r s e => by cases e) h
  | succ n ih =>
    intro w ts hn _ h
    refine step (n + 1) ts w hn (fun r s e => ?_) h
    subst e
    intro w' us hu hK h'
    exact ih w' us (by rw [List.length_cons] at hn; omega) hK h'
/-- AN EXPRESSION. -/
theorem expr_t {rb : Nat} {tv : Value} {xs : List To.T} {inn : Bool} {w : World} {ts : List Tx} (h : Rd w rb tv xs ts inn) : Calls Tryz.prog 196 #[.pointer (some ⟨rb, 0, none⟩)] w (Got w rb tv xs inn (expr ts)) :=
  expr_r (signed_r ts.length) w ts (Nat.le_refl _) trivial h
end Go.Proofs.YtmkhfonafcikdaaGreatDoor

/- Trees: the reader: an expression and what ends it; tell, return; a block. -/
namespace Go.Proofs.YtmkhfonafcikdaaGreatDoor
open Go.RowKit Go.My Go.Nd

set_option maxRecDepth 100000 in
set_option maxHeartbeats 2000000 in
theorem ends_t {rb : Nat} {tv : Value} {xs : List To.T} {inn : Bool} {w : World} {ts : List Tx} (k : Nat) (hk : k < 256) (h : Rd w rb tv xs ts inn) :
    Calls Tryz.prog 188 #[.pointer (some ⟨rb, 0, none⟩), .int .u8 (k : Int)] w (Got w rb tv xs inn (ends k [] ts)) := by
  have R0 := RA.start h.lt
  have h0 := h.later (Put.new w #[.int .u8 0, .string ⟨#[]⟩, .slice none 0 0, .slice none 0 0, .slice none 0 0] TN).1
  obtain ⟨c, hc⟩ : ∃ c, c = w.heap.size := ⟨_, rfl⟩
  obtain ⟨wA, hwA⟩ : ∃ wA, wA = w.alloc (.cells #[.int .u8 0, .string ⟨#[]⟩, .slice none 0 0, .slice none 0 0, .slice none 0 0] TN) := ⟨_, rfl⟩
  rw [← hwA] at R0 h0
  rw [← hc] at R0
  have X0 := Lib.hid (And.intro R0 h0)
  clear h R0 h0
  have HK := Lib.hid hk
  clear hk
  go_enter Tryz.func188, Tryz.ntmps188
  go_upto_region 1 with fail
  rw [← hwA, ← hc]
  clear hwA hc
  go_wp2_with fail
  refine (expr_t X0.out.2).mono ?_
  rintro e w1 ⟨hs1, h1, hres⟩
  cases hrd : expr ts with
  | bad q =>
    rw [hrd] at hres h1
    subst hres
    have X1 := Lib.hid (And.intro (X0.out.1.step hs1) (And.intro h1 hrd))
    clear hs1 h1 hrd
    go_wp2_with fail
    refine ⟨rfl, ?_⟩
    unfold ends
    rw [X1.out.2.2]
    exact X1.out.1.bad X1.out.2.1
  | ok x q =>
    rw [hrd] at hres h1
    obtain ⟨v, rfl, hN⟩ := hres
    obtain ⟨a1, d1, a2, d2, a3, d3, rfl⟩ := hN.form
    have hL := LR.one hN hs1.size (Nat.le_refl _)
    obtain ⟨b4, hb4⟩ : ∃ b4, b4 = w1.heap.size := ⟨_, rfl⟩
    have hb2 := (X0.out.1.step hs1).box #[.int .u8 (x.kind : Int), .string (tx x.text), .slice a1 x.l.len d1, .slice a2 x.body.len d2, .slice a3 x.els.len d3]
    have hz2 := (Put.new w1 #[.int .u8 (x.kind : Int), .string (tx x.text), .slice a1 x.l.len d1, .slice a2 x.body.len d2, .slice a3 x.els.len d3] TN).2.2
    obtain ⟨w2, hw2⟩ : ∃ w2, w2 = w1.alloc (.cells #[.int .u8 (x.kind : Int), .string (tx x.text), .slice a1 x.l.len d1, .slice a2 x.body.len d2, .slice a3 x.els.len d3] TN) := ⟨_, rfl⟩
    rw [← hw2] at hL hb2 hz2
    obtain ⟨b5, hb5⟩ : ∃ b5, b5 = b4 + 1 := ⟨_, rfl⟩
    have hb3 := hb2.1.box #[.int .u8 (k : Int), .string ⟨#[]⟩, .slice (some ⟨b4, 0, none⟩) 1 1, .slice none 0 0, .slice none 0 0]
    obtain ⟨w3, hw3⟩ : ∃ w3, w3 = w2.alloc (.cells #[.int .u8 (k : Int), .string ⟨#[]⟩, .slice (some ⟨b4, 0, none⟩) 1 1, .slice none 0 0, .slice none 0 0] TN) := ⟨_, rfl⟩
    rw [← hw3, hz2, ← hb4, ← hb5] at hb3
    have hN3 : NR w2 TN wA.heap.size w2.heap.size (.agg #[.int .u8 (k : Int), .string (tx []), .slice (some ⟨b4, 0, none⟩) 1 1, .slice none 0 0, .slice none 0 0]) ⟨k, [], Ns.of [x], .nil, .nil⟩ := NR.mk HK.out (by decide) (hz2 ▸ hb4 ▸ hL) (LR.nil _ _ _ _) (LR.nil _ _ _ w2.heap.size) (by have := hs1.size; omega) (Nat.le_refl _) (Nat.le_refl _)
    have hB3 := hb3.2.2
    rw [hb5, hb4, ← hz2] at hB3
    have hN4 := NS.later (hN3.ns (S := fun b => c < b ∧ b < b5) fun b q1 q2 => by have := X0.out.1.lt; omega) hB3
    have X3 := Lib.hid (And.intro hb3.1 (And.intro hb3.2.1 (And.intro ((h1.later hb2.2.2).later hB3) (And.intro hN4 (And.intro hrd (show c < b5 by have := X0.out.1.lt; have := hs1.size; omega))))))
    clear hL hb2 hz2 hb3 hN3 hN4 hB3 hs1 h1 hN hrd
    go_upto_region 2 with fail
    rw [← hw2, ← hb4, ← hw3, ← hb5]
    clear hw2 hb4 hb5 hw3
    go_wp2_with fail
    by_cases hh : q.head? = some [59]
    · obtain ⟨q', rfl⟩ := head_form hh
      refine takes_yes X3.out.2.2.1 (by decide) fun w4 hs4 h4 => ?_
      have hrb := X3.out.1.hrb
      have hcb := X3.out.2.2.2.2.2
      have R4 := X3.out.1.step hs4
      have row4 := (hs4.kept (heap_lt X3.out.2.1) (by omega)).trans X3.out.2.1
      have N4 := NS.over X3.out.2.2.2.1 hs4 (fun b hb => by omega)
      obtain ⟨x0, x1, x2, x3, x4, _, _, _, _, _⟩ := row5 row4
      obtain ⟨y0, y1, y2, y3, y4, g0, g1, g2, g3, g4⟩ := row5 R4.row
      have X4 := Lib.hid (And.intro R4 (And.intro h4 N4))
      clear hs4 h4 R4 row4 N4 hh hrb hcb
      go_wp2_with (refine must_yes ?_)
      have hp := put5 X4.out.1.row (.int .u8 (k : Int)) (.string ⟨#[]⟩) (.slice (some ⟨b4, 0, none⟩) 1 1) (.slice none 0 0) (.slice none 0 0)
      refine bodyPost_ret (results_cell1 rfl _ _ _ rfl (nodeVar _ c _ _ _ _ _ hp.row)) rfl ?_
      unfold ends
      rw [X3.out.2.2.2.2.1]
      show Got w rb tv xs inn (must [59] (⟨k, [], Ns.of [x], .nil, .nil⟩ : Nd) ([59] :: q')) _ _
      rw [show must [59] (⟨k, [], Ns.of [x], .nil, .nil⟩ : Nd) ([59] :: q') = .ok ⟨k, [], Ns.of [x], .nil, .nil⟩ q' by unfold must; simp only; rw [if_pos trivial]]
      exact X4.out.1.fin (x := ⟨k, [], Ns.of [x], .nil, .nil⟩) X4.out.2.1 X4.out.2.2 (fun _ h => h.1.1) hp
    · refine takes_no X3.out.2.2.1 [59] (by decide) hh fun w4 hb4 => ?_
      have X4 := Lib.hid (And.intro hh hb4)
      clear hh hb4
      go_wp2_with (refine must_no ?_)
      refine ⟨rfl, ?_⟩
      unfold ends
      rw [X3.out.2.2.2.2.1]
      show Got w rb tv xs inn (must [59] (⟨k, [], Ns.of [x], .nil, .nil⟩ : Nd) q) _ _
      rw [show must [59] (⟨k, [], Ns.of [x], .nil, .nil⟩ : Nd) q = .bad q by
        cases q with
        | nil => rfl
        | cons s q' => unfold must; simp only; rw [if_neg (by intro e; subst e; exact X4.out.1 rfl)]]
      exact (X3.out.1.below X4.out.2).bad (X3.out.2.2.1.later X4.out.2)

set_option maxRecDepth 100000 in
set_option maxHeartbeats 2000000 in
theorem tell_t {rb : Nat} {tv : Value} {xs : List To.T} {inn : Bool} {w : World} {ts : List Tx} (h : Rd w rb tv xs ts inn) :
    Calls Tryz.prog 185 #[.pointer (some ⟨rb, 0, none⟩)] w (Got w rb tv xs inn (ends 12 [] ts)) := by
  have R0 := RA.start h.lt
  have h0 := h.later (Put.new w #[.int .u8 0, .string ⟨#[]⟩, .slice none 0 0, .slice none 0 0, .slice none 0 0] TN).1
  obtain ⟨c, hc⟩ : ∃ c, c = w.heap.size := ⟨_, rfl⟩
  obtain ⟨wA, hwA⟩ : ∃ wA, wA = w.alloc (.cells #[.int .u8 0, .string ⟨#[]⟩, .slice none 0 0, .slice none 0 0, .slice none 0 0] TN) := ⟨_, rfl⟩
  rw [← hwA] at R0 h0
  rw [← hc] at R0
  have X0 := Lib.hid (And.intro R0 h0)
  clear h R0 h0
  go_enter Tryz.func185, Tryz.ntmps185
  go_upto_region 1 with fail
  rw [← hwA, ← hc]
  clear hwA hc
  go_wp2_with fail
  refine (ends_t 12 (by decide) X0.out.2).mono ?_
  rintro e w4 ⟨hs4, h4, hres⟩
  have R4 := X0.out.1.step hs4
  cases hrd : ends 12 [] ts with
  | bad q =>
    rw [hrd] at hres h4
    subst hres
    have X4 := Lib.hid (And.intro R4 (And.intro h4 hrd))
    clear hs4 h4 hrd R4
    go_wp2_with fail
    refine ⟨rfl, ?_⟩
    first | rw [X4.out.2.2] | skip
    exact X4.out.1.bad X4.out.2.1
  | ok x q =>
    rw [hrd] at hres h4
    obtain ⟨v, rfl, hN⟩ := hres
    obtain ⟨a1, d1, a2, d2, a3, d3, rfl⟩ := hN.form
    obtain ⟨y0, y1, y2, y3, y4, g0, g1, g2, g3, g4⟩ := row5 R4.row
    have X4 := Lib.hid (And.intro R4 (And.intro h4 (And.intro hrd (NR.past X0.out.1 hN))))
    clear hs4 h4 hrd R4 hN
    go_wp2_with fail
    have hp := put5 X4.out.1.row (.int .u8 (x.kind : Int)) (.string (tx x.text)) (.slice a1 x.l.len d1) (.slice a2 x.body.len d2) (.slice a3 x.els.len d3)
    refine bodyPost_ret (results_cell1 rfl _ _ _ rfl (nodeVar _ c _ _ _ _ _ hp.row)) rfl ?_
    first | rw [X4.out.2.2.1] | skip
    exact X4.out.1.fin X4.out.2.1 X4.out.2.2.2 (fun _ h => h) hp

set_option maxRecDepth 100000 in
set_option maxHeartbeats 2000000 in
theorem answer_t {rb : Nat} {tv : Value} {xs : List To.T} {inn : Bool} {w : World} {ts : List Tx} (h : Rd w rb tv xs ts inn) :
    Calls Tryz.prog 186 #[.pointer (some ⟨rb, 0, none⟩)] w (Got w rb tv xs inn (ends 11 [] ts)) := by
  have R0 := RA.start h.lt
  have h0 := h.later (Put.new w #[.int .u8 0, .string ⟨#[]⟩, .slice none 0 0, .slice none 0 0, .slice none 0 0] TN).1
  obtain ⟨c, hc⟩ : ∃ c, c = w.heap.size := ⟨_, rfl⟩
  obtain ⟨wA, hwA⟩ : ∃ wA, wA = w.alloc (.cells #[.int .u8 0, .string ⟨#[]⟩, .slice none 0 0, .slice none 0 0, .slice none 0 0] TN) := ⟨_, rfl⟩
  rw [← hwA] at R0 h0
  rw [← hc] at R0
  have X0 := Lib.hid (And.intro R0 h0)
  clear h R0 h0
  go_enter Tryz.func186, Tryz.ntmps186
  go_upto_region 1 with fail
  rw [← hwA, ← hc]
  clear hwA hc
  go_wp2_with fail
  refine (ends_t 11 (by decide) X0.out.2).mono ?_
  rintro e w4 ⟨hs4, h4, hres⟩
  have R4 := X0.out.1.step hs4
  cases hrd : ends 11 [] ts with
  | bad q =>
    rw [hrd] at hres h4
    subst hres
    have X4 := Lib.hid (And.intro R4 (And.intro h4 hrd))
    clear hs4 h4 hrd R4
    go_wp2_with fail
    refine ⟨rfl, ?_⟩
    first | rw [X4.out.2.2] | skip
    exact X4.out.1.bad X4.out.2.1
  | ok x q =>
    rw [hrd] at hres h4
    obtain ⟨v, rfl, hN⟩ := hres
    obtain ⟨a1, d1, a2, d2, a3, d3, rfl⟩ := hN.form
    obtain ⟨y0, y1, y2, y3, y4, g0, g1, g2, g3, g4⟩ := row5 R4.row
    have X4 := Lib.hid (And.intro R4 (And.intro h4 (And.intro hrd (NR.past X0.out.1 hN))))
    clear hs4 h4 hrd R4 hN
    go_wp2_with fail
    have hp := put5 X4.out.1.row (.int .u8 (x.kind : Int)) (.string (tx x.text)) (.slice a1 x.l.len d1) (.slice a2 x.body.len d2) (.slice a3 x.els.len d3)
    refine bodyPost_ret (results_cell1 rfl _ _ _ rfl (nodeVar _ c _ _ _ _ _ hp.row)) rfl ?_
    first | rw [X4.out.2.2.1] | skip
    exact X4.out.1.fin X4.out.2.1 X4.out.2.2.2 (fun _ h => h) hp
end Go.Proofs.YtmkhfonafcikdaaGreatDoor

/- Trees: the reader: a block of statements. -/
namespace Go.Proofs.YtmkhfonafcikdaaGreatDoor
open Go.RowKit Go.My Go.Nd

structure BlkSt (w : World) (rb : Nat) (tv : Value) (xs : List To.T) (inn : Bool) (n m : Nat) (tail : List Tx → R (List Nd)) (tot : R (List Nd)) (l : List Nd) (ts : List Tx) (v : Value) (wr : World) : Prop where
  plain : (tail ts).map (l ++ ·) = tot
  len : ts.length ≤ n
  many : l.length + ts.length ≤ m
  step : Step w wr (some rb)
  rd : Rd wr rb tv xs ts inn
  list : LR wr TN w.heap.size wr.heap.size v (Ns.of l)
def BlkAt (w : World) (rb : Nat) (tv : Value) (xs : List To.T) (inn : Bool) (n m : Nat) (tail : List Tx → R (List Nd)) (tot : R (List Nd)) (gk : Nat) (v : Value) (wr : World) : Prop :=
  ∃ l ts, gk = ts.length ∧ BlkSt w rb tv xs inn n m tail tot l ts v wr

/-- A node appended to a list of the call's own. -/
theorem BlkSt.more {w : World} {rb : Nat} {tv : Value} {xs : List To.T} {inn : Bool} {n m : Nat} {tail : List Tx → R (List Nd)} {tot : R (List Nd)} {l : List Nd} {r q : List Tx} {x : Nd} {v v' : Value} {wr w4 w6 : World} (h : BlkSt w rb tv xs inn n m tail tot l r v wr) (htl : tail r = (tail q).map (x :: ·)) (hq : q.length < r.length)
    (s4 : Step wr w4 (some rb)) (h4 : Rd w4 rb tv xs q inn) (hrb : rb < w.heap.size) (hb : Below w.heap.size w4 w6) (hL : LR w6 TN w.heap.size w6.heap.size v' (Ns.of (l ++ [x]))) : BlkSt w rb tv xs inn n m tail tot (l ++ [x]) q v' w6 := by
  have h1 := h.len
  have h2 := h.many
  have st6 : Step w w6 (some rb) := ⟨hb.os.trans (s4.os.trans h.step.os), hb.tape.trans (s4.tape.trans h.step.tape), hb.output.trans (s4.output.trans h.step.output), Nat.le_trans h.step.size (Nat.le_trans s4.size hb.size), fun k hk hk' => (hb.block k hk).trans ((s4.block k (Nat.lt_of_lt_of_le hk h.step.size) hk').trans (h.step.block k hk hk'))⟩
  refine ⟨?_, by omega, by rw [List.length_append, List.length_singleton]; omega, st6, h4.keep hb.size fun k hk => hb.block k (by omega), hL⟩
  rw [← h.plain, htl, R.map_map]
  congr 1
  funext a
  simp

theorem block_no {st : List Tx → R Nd} (ts : List Tx) (h : ts.head? ≠ some [123]) : block st ts = .bad ts := by
  cases ts with
  | nil => rfl
  | cons s r => unfold block; simp only; rw [if_neg (by intro e; subst e; exact h rfl)]
theorem block_yes {st : List Tx → R Nd} (r : List Tx) : block st ([123] :: r) = stmtsT st r := by unfold block; simp only; rw [if_pos trivial]; rfl
theorem stmtsT_none {st : List Tx → R Nd} (h : st [] = .bad []) : stmtsT st [] = .bad [] := by unfold stmtsT stmtsTo; simp only; rw [h]; rfl
theorem stm_none (inner : Bool) : stm inner [] = .bad [] := by rw [stm_nil]; rfl

set_option maxRecDepth 100000 in
set_option maxHeartbeats 4000000 in
theorem block_r {rb : Nat} {tv : Value} {xs : List To.T} {inn : Bool} {n : Nat} (hst : Reads 160 #[.pointer (some ⟨rb, 0, none⟩)] rb tv xs inn (fun _ => True) n (stm inn)) {w : World} {ts : List Tx} (hn : ts.length ≤ n + 1) (h : Rd w rb tv xs ts inn) :
    Calls Tryz.prog 182 #[.pointer (some ⟨rb, 0, none⟩)] w (GotL w rb tv xs inn (block (stm inn) ts)) := by
  have hrb := h.lt
  have hle := h.le
  have hlen := h.len
  have H := Lib.hid (And.intro h (And.intro hn (And.intro hrb (And.intro hle (And.intro hlen hst)))))
  clear h hn hst hrb hle hlen
  go_enter Tryz.func182, Tryz.ntmps182
  go_wp2_with fail
  by_cases hh : ts.head? = some [123]
  · obtain ⟨r, rfl⟩ := head_form hh
    refine takes_yes H.out.1 (by decide) fun w1 hs1 h1 => ?_
    have hst : BlkSt w rb tv xs inn n r.length (stmtsT (stm inn)) (stmtsT (stm inn) r) [] r (.slice none 0 0) w1 :=
      ⟨by cases stmtsT (stm inn) r <;> rfl, by have := H.out.2.1; rw [List.length_cons] at this; omega, by simp, hs1, h1, LR.nil _ _ _ _⟩
    have HS := Lib.hid hst
    have HL := Lib.hid (show r.length ≤ 65536 by have := H.out.2.2.2.1; have := H.out.2.2.2.2.1; rw [List.length_cons] at *; omega)
    clear hs1 h1 hh hst
    go_wp2_with (refine must_yes ?_)
    go_loopg [2] r.length (fun gk v2 wr => BlkAt w rb tv xs inn n r.length (stmtsT (stm inn)) (stmtsT (stm inn) r) gk v2 wr)
    case atStart => exact ⟨[], r, rfl, HS.out⟩
    case round =>
      obtain ⟨l, ts1, rfl, hst⟩ := hrel
      obtain ⟨lo1, lc1, rfl⟩ := hst.list.form
      have HT := Lib.hid hst
      clear hst HS
      go_wp2_with fail
      by_cases hh : ts1.head? = some [125]
      · obtain ⟨r1, rfl⟩ := head_form hh
        refine takes_yes HT.out.rd (by decide) fun w4 hs4 h4 => ?_
        have X4 := Lib.hid (And.intro hs4 h4)
        clear hs4 h4 hh
        go_wp2_with fail
        go_ret
        have hpl := HT.out.plain
        rw [stmtsT_end] at hpl
        rw [block_yes, ← hpl]
        show GotL w rb tv xs inn (.ok (l ++ []) r1) _ _
        rw [List.append_nil]
        exact ⟨HT.out.step.trans X4.out.1, X4.out.2, _, rfl, LR.mono (LR.stepped HT.out.list X4.out.1 H.out.2.2.1 (Nat.le_refl _)) (Nat.le_refl _) X4.out.1.size⟩
      · refine takes_no HT.out.rd [125] (by decide) hh fun w4 hb4 => ?_
        have HH := Lib.hid hh
        have X4 := Lib.hid hb4
        clear hh hb4
        go_wp2_with fail
        refine (H.out.2.2.2.2.2 w4 ts1 HT.out.len trivial (HT.out.rd.later X4.out)).mono ?_
        rintro e w6 ⟨hs6, h6, hres⟩
        have st6 := (Step.of_below (row := some rb) X4.out).trans hs6
        cases hrd : stm inn ts1 with
        | bad q =>
          rw [hrd] at hres h6
          subst hres
          have X6 := Lib.hid (And.intro st6 (And.intro h6 hrd))
          clear st6 h6 hs6 hrd
          go_wp2_with fail
          refine ⟨rfl, ?_⟩
          have hb : stmtsT (stm inn) ts1 = .bad q := by
            cases ts1 with
            | nil => rw [stmtsT_none (stm_none _)]; have := X6.out.2.2; rw [stm_none] at this; cases this; rfl
            | cons s r1 => rw [stmtsT_more (stm_down inn) _ HH.out (by simp), X6.out.2.2]; rfl
          rw [block_yes, ← HT.out.plain, hb]
          exact ⟨HT.out.step.trans X6.out.1, X6.out.2.1, rfl⟩
        | ok y q =>
          rw [hrd] at hres h6
          obtain ⟨vy, rfl, hN⟩ := hres
          obtain ⟨o1, e1, o2, e2, o3, e3, rfl⟩ := hN.form
          have hA := (Put.new w6 #[.int .u8 (y.kind : Int), .string (tx y.text), .slice o1 y.l.len e1, .slice o2 y.body.len e2, .slice o3 y.els.len e3] TN)
          have hN7 := hN.later hA.1 (Nat.le_refl _)
          have hL7 := (LR.stepped HT.out.list st6 H.out.2.2.1 (Nat.le_refl _)).later hA.1 st6.size
          have hq := (stm_down inn ts1).lt hrd
          have htl : stmtsT (stm inn) ts1 = (stmtsT (stm inn) q).map (y :: ·) := by
            rw [stmtsT_more (stm_down inn) _ HH.out (by intro e; subst e; simp at hq), hrd]; rfl
          have X6 := Lib.hid (And.intro st6 (And.intro h6 (And.intro htl (And.intro hA (And.intro hN7 (And.intro hL7 (And.intro X4.out.size (And.intro hs6 hq))))))))
          have hm : (l.length + 1) * 96 ≤ 140737488351232 := by have := HT.out.many; have := HL.out; omega
          have HM := Lib.hid hm
          rw [Ns.len_of]
          clear st6 h6 hs6 hrd hN hA hN7 hL7 hm htl hq
          go_wp2_with (at_builtin; refine wpList_node _ rfl (.tmp 9) (.tmp 12) rfl nodeEl (v := .slice lo1 l.length lc1) (l := l) (lo := w.heap.size) (hi := wr.heap.size) (hi2 := w6.heap.size) rfl (by have := X6.out.2.2.2.2.2.1; rw [Ns.len_of] at this; exact this) (X6.out.2.2.2.2.1.mono X6.out.2.2.2.2.2.2.1 (Nat.le_refl _)) (y := .slice (some ⟨w6.heap.size, 0, none⟩) 1 1) rfl (Src.lit #[.int .u8 (y.kind : Int), .string (tx y.text), .slice o1 y.l.len e1, .slice o2 y.body.len e2, .slice o3 y.els.len e3] TN rfl rfl) HT.out.step.size X6.out.1.size (by rw [X6.out.2.2.2.1.2.2]; omega) HM.out ?_; intro ao cp w7 hL hB; have X7 := Lib.hid (And.intro hL hB); clear hL hB)
          go_roundg q.length
          case measure => exact X6.out.2.2.2.2.2.2.2.2
          case rel => exact ⟨l ++ [y], q, rfl, HT.out.more X6.out.2.2.1 X6.out.2.2.2.2.2.2.2.2 X6.out.1 X6.out.2.1 H.out.2.2.1 ((X6.out.2.2.2.1.1.mono (Nat.le_trans HT.out.step.size X6.out.1.size)).trans X7.out.2) X7.out.1⟩
  · refine takes_no H.out.1 [123] (by decide) hh fun w1 hb1 => ?_
    have X1 := Lib.hid (And.intro hb1 hh)
    clear hh hb1
    go_wp2_with (refine must_no ?_)
    refine ⟨rfl, ?_⟩
    rw [block_no ts X1.out.2]
    exact ⟨Step.of_below X1.out.1, H.out.1.later X1.out.1, rfl⟩
end Go.Proofs.YtmkhfonafcikdaaGreatDoor

/- Trees: the reader: while and if. -/
namespace Go.Proofs.YtmkhfonafcikdaaGreatDoor
open Go.RowKit Go.My Go.Nd

/-- Blocks are read, where so many tokens are left at most. -/
def ReadsB (rb : Nat) (tv : Value) (xs : List To.T) (inn : Bool) (n : Nat) : Prop :=
  ∀ (w : World) (ts : List Tx), ts.length ≤ n → Rd w rb tv xs ts inn → Calls Tryz.prog 182 #[.pointer (some ⟨rb, 0, none⟩)] w (GotL w rb tv xs inn (block (stm inn) ts))

theorem LR.kept {w w' : World} {rb lo hi : Nat} {v : Value} {l : Ns} (h : LR w TN lo hi v l) (hs : Step w w' (some rb)) (hrb : rb < lo) (hh : hi ≤ w.heap.size) : LR w' TN lo hi v l :=
  LR.frame h fun b h1 h2 => hs.kept (by omega) (by omega)

set_option maxRecDepth 100000 in
set_option maxHeartbeats 4000000 in
theorem loop_r {rb : Nat} {tv : Value} {xs : List To.T} {inn : Bool} {n : Nat} (hbl : ReadsB rb tv xs inn n) {w : World} {ts : List Tx} (hn : ts.length ≤ n) (h : Rd w rb tv xs ts inn) :
    Calls Tryz.prog 184 #[.pointer (some ⟨rb, 0, none⟩)] w (Got w rb tv xs inn (loop inn ts)) := by
  have R0 := RA.start h.lt
  have h0 := h.later (Put.new w #[.int .u8 0, .string ⟨#[]⟩, .slice none 0 0, .slice none 0 0, .slice none 0 0] TN).1
  obtain ⟨c, hc⟩ : ∃ c, c = w.heap.size := ⟨_, rfl⟩
  obtain ⟨wA, hwA⟩ : ∃ wA, wA = w.alloc (.cells #[.int .u8 0, .string ⟨#[]⟩, .slice none 0 0, .slice none 0 0, .slice none 0 0] TN) := ⟨_, rfl⟩
  rw [← hwA] at R0 h0
  rw [← hc] at R0
  have X0 := Lib.hid (And.intro R0 h0)
  clear h R0 h0
  have HE := Lib.hid (And.intro hbl hn)
  clear hbl hn
  go_enter Tryz.func184, Tryz.ntmps184
  go_upto_region 1 with fail
  rw [← hwA, ← hc]
  clear hwA hc
  go_wp2_with fail
  refine (expr_t X0.out.2).mono ?_
  rintro e w1 ⟨hs1, h1, hres⟩
  cases hrd : expr ts with
  | bad q =>
    rw [hrd] at hres h1
    subst hres
    have X1 := Lib.hid (And.intro (X0.out.1.step hs1) (And.intro h1 hrd))
    clear hs1 h1 hrd
    go_wp2_with fail
    refine ⟨rfl, ?_⟩
    unfold loop
    rw [X1.out.2.2]
    exact X1.out.1.bad X1.out.2.1
  | ok x q =>
    rw [hrd] at hres h1
    obtain ⟨v, rfl, hN⟩ := hres
    obtain ⟨a1, d1, a2, d2, a3, d3, rfl⟩ := hN.form
    have hL := LR.one hN hs1.size (Nat.le_refl _)
    have hA := Put.new w1 #[.int .u8 (x.kind : Int), .string (tx x.text), .slice a1 x.l.len d1, .slice a2 x.body.len d2, .slice a3 x.els.len d3] TN
    obtain ⟨b2, hb2⟩ : ∃ b2, b2 = w1.heap.size := ⟨_, rfl⟩
    obtain ⟨w2, hw2⟩ : ∃ w2, w2 = w1.alloc (.cells #[.int .u8 (x.kind : Int), .string (tx x.text), .slice a1 x.l.len d1, .slice a2 x.body.len d2, .slice a3 x.els.len d3] TN) := ⟨_, rfl⟩
    rw [← hw2] at hL hA
    have hq := (expr_down ts).lt hrd
    have X1 := Lib.hid (And.intro (X0.out.1.step (hs1.trans (Step.of_below hA.1))) (And.intro (h1.later hA.1) (And.intro (show LR w2 TN wA.heap.size w2.heap.size (.slice (some ⟨b2, 0, none⟩) 1 1) (Ns.of [x]) from hA.2.2 ▸ hb2 ▸ hL) (And.intro (Nat.le_trans hs1.size hA.1.size) (And.intro hrd (show q.length ≤ n by have := HE.out.2; omega))))))
    clear hs1 h1 hL hA hN hq hrd
    go_wp2_with fail
    rw [← hw2, ← hb2]
    clear hw2 hb2
    refine (HE.out.1 w2 q X1.out.2.2.2.2.2 X1.out.2.1).mono ?_
    rintro e w3 ⟨hs3, h3, hres⟩
    cases hrd : block (stm inn) q with
    | bad u =>
      rw [hrd] at hres h3
      subst hres
      have X3 := Lib.hid (And.intro (X1.out.1.step hs3) (And.intro h3 hrd))
      clear hs3 h3 hrd
      go_wp2_with fail
      refine ⟨rfl, ?_⟩
      unfold loop
      rw [X1.out.2.2.2.2.1]
      show Got w rb tv xs inn (R.map _ (block (stm inn) q)) _ _
      rw [X3.out.2.2]
      exact X3.out.1.bad X3.out.2.1
    | ok l u =>
      rw [hrd] at hres h3
      obtain ⟨v, rfl, hM⟩ := hres
      obtain ⟨m1, e1, rfl⟩ := hM.form
      have hrb : rb < wA.heap.size := Nat.lt_trans X0.out.1.hrb X0.out.1.lt
      have hN3 : NR w3 TN wA.heap.size w3.heap.size (.agg #[.int .u8 ((10 : Nat) : Int), .string (tx []), .slice (some ⟨b2, 0, none⟩) 1 1, .slice m1 (Ns.of l).len e1, .slice none 0 0]) ⟨10, [], Ns.of [x], Ns.of l, .nil⟩ := NR.mk (by decide) (by decide) (LR.kept X1.out.2.2.1 hs3 hrb (Nat.le_refl _)) hM (LR.nil _ _ _ w3.heap.size) X1.out.2.2.2.1 hs3.size (Nat.le_refl _)
      have R3 := X1.out.1.step hs3
      obtain ⟨y0, y1, y2, y3, y4, g0, g1, g2, g3, g4⟩ := row5 R3.row
      have X3 := Lib.hid (And.intro R3 (And.intro h3 (And.intro hrd (NR.past X0.out.1 hN3))))
      clear hs3 h3 hrd R3 hN3 hM hrb
      go_wp2_with fail
      have hp := put5 X3.out.1.row (.int .u8 10) (.string ⟨#[]⟩) (.slice (some ⟨b2, 0, none⟩) 1 1) (.slice m1 (Ns.of l).len e1) (.slice none 0 0)
      refine bodyPost_ret (results_cell1 rfl _ _ _ rfl (nodeVar _ c _ _ _ _ _ hp.row)) rfl ?_
      unfold loop
      rw [X1.out.2.2.2.2.1]
      show Got w rb tv xs inn (R.map _ (block (stm inn) q)) _ _
      rw [X3.out.2.2.1]
      exact X3.out.1.fin (x := ⟨10, [], Ns.of [x], Ns.of l, .nil⟩) X3.out.2.1 X3.out.2.2.2 (fun _ h => h) hp

/-- Behind an if's first block. -/
def ifTail (inner : Bool) (x : Nd) (b : List Nd) (r2 : List Tx) : R Nd := match r2 with
  | [] => .ok ⟨9, [], Ns.of [x], Ns.of b, .nil⟩ []
  | p :: r3 => if p = [101, 108, 115, 101] then (block (stm inner) r3).map fun e => ⟨9, [], Ns.of [x], Ns.of b, Ns.of e⟩ else .ok ⟨9, [], Ns.of [x], Ns.of b, .nil⟩ (p :: r3)
theorem branch_is (inner : Bool) (ts : List Tx) : branch inner ts = (expr ts).then_ fun x r1 => (block (stm inner) r1).then_ fun b r2 => ifTail inner x b r2 := rfl
theorem ifTail_no (inner : Bool) (x : Nd) (b : List Nd) (r : List Tx) (h : r.head? ≠ some [101, 108, 115, 101]) : ifTail inner x b r = .ok ⟨9, [], Ns.of [x], Ns.of b, .nil⟩ r := by
  cases r with
  | nil => rfl
  | cons p r' => unfold ifTail; simp only; rw [if_neg (by intro e; subst e; exact h rfl)]
theorem ifTail_yes (inner : Bool) (x : Nd) (b : List Nd) (r : List Tx) : ifTail inner x b ([101, 108, 115, 101] :: r) = (block (stm inner) r).map fun e => ⟨9, [], Ns.of [x], Ns.of b, Ns.of e⟩ := by unfold ifTail; simp only; rw [if_pos trivial]

set_option maxRecDepth 100000 in
set_option maxHeartbeats 4000000 in
theorem branch_r {rb : Nat} {tv : Value} {xs : List To.T} {inn : Bool} {n : Nat} (hbl : ReadsB rb tv xs inn n) {w : World} {ts : List Tx} (hn : ts.length ≤ n) (h : Rd w rb tv xs ts inn) :
    Calls Tryz.prog 183 #[.pointer (some ⟨rb, 0, none⟩)] w (Got w rb tv xs inn (branch inn ts)) := by
  have R0 := RA.start h.lt
  have h0 := h.later (Put.new w #[.int .u8 0, .string ⟨#[]⟩, .slice none 0 0, .slice none 0 0, .slice none 0 0] TN).1
  obtain ⟨c, hc⟩ : ∃ c, c = w.heap.size := ⟨_, rfl⟩
  obtain ⟨wA, hwA⟩ : ∃ wA, wA = w.alloc (.cells #[.int .u8 0, .string ⟨#[]⟩, .slice none 0 0, .slice none 0 0, .slice none 0 0] TN) := ⟨_, rfl⟩
  rw [← hwA] at R0 h0
  rw [← hc] at R0
  have X0 := Lib.hid (And.intro R0 h0)
  clear h R0 h0
  have HE := Lib.hid (And.intro hbl hn)
  clear hbl hn
  go_enter Tryz.func183, Tryz.ntmps183
  go_upto_region 1 with fail
  rw [← hwA, ← hc]
  clear hwA hc
  go_wp2_with fail
  refine (expr_t X0.out.2).mono ?_
  rintro e w1 ⟨hs1, h1, hres⟩
  cases hrd : expr ts with
  | bad q =>
    rw [hrd] at hres h1
    subst hres
    have X1 := Lib.hid (And.intro (X0.out.1.step hs1) (And.intro h1 hrd))
    clear hs1 h1 hrd
    go_wp2_with fail
    refine ⟨rfl, ?_⟩
    rw [branch_is, X1.out.2.2]
    exact X1.out.1.bad X1.out.2.1
  | ok x q =>
    rw [hrd] at hres h1
    obtain ⟨v, rfl, hN⟩ := hres
    obtain ⟨a1, d1, a2, d2, a3, d3, rfl⟩ := hN.form
    have hL := LR.one hN hs1.size (Nat.le_refl _)
    have hA := Put.new w1 #[.int .u8 (x.kind : Int), .string (tx x.text), .slice a1 x.l.len d1, .slice a2 x.body.len d2, .slice a3 x.els.len d3] TN
    obtain ⟨b2, hb2⟩ : ∃ b2, b2 = w1.heap.size := ⟨_, rfl⟩
    obtain ⟨w2, hw2⟩ : ∃ w2, w2 = w1.alloc (.cells #[.int .u8 (x.kind : Int), .string (tx x.text), .slice a1 x.l.len d1, .slice a2 x.body.len d2, .slice a3 x.els.len d3] TN) := ⟨_, rfl⟩
    rw [← hw2] at hL hA
    have hq := (expr_down ts).lt hrd
    have X1 := Lib.hid (And.intro (X0.out.1.step (hs1.trans (Step.of_below hA.1))) (And.intro (h1.later hA.1) (And.intro (show LR w2 TN wA.heap.size w2.heap.size (.slice (some ⟨b2, 0, none⟩) 1 1) (Ns.of [x]) from hA.2.2 ▸ hb2 ▸ hL) (And.intro (Nat.le_trans hs1.size hA.1.size) (And.intro hrd (show q.length ≤ n by have := HE.out.2; omega))))))
    clear hs1 h1 hL hA hN hq hrd
    go_wp2_with fail
    rw [← hw2, ← hb2]
    clear hw2 hb2
    refine (HE.out.1 w2 q X1.out.2.2.2.2.2 X1.out.2.1).mono ?_
    rintro e w3 ⟨hs3, h3, hres⟩
    cases hrd : block (stm inn) q with
    | bad u =>
      rw [hrd] at hres h3
      subst hres
      have X3 := Lib.hid (And.intro (X1.out.1.step hs3) (And.intro h3 hrd))
      clear hs3 h3 hrd
      go_wp2_with fail
      refine ⟨rfl, ?_⟩
      rw [branch_is, X1.out.2.2.2.2.1]
      show Got w rb tv xs inn ((block (stm inn) q).then_ _) _ _
      rw [X3.out.2.2]
      exact X3.out.1.bad X3.out.2.1
    | ok l u =>
      rw [hrd] at hres h3
      obtain ⟨v, rfl, hM⟩ := hres
      obtain ⟨m1, e1, rfl⟩ := hM.form
      have hrb : rb < wA.heap.size := Nat.lt_trans X0.out.1.hrb X0.out.1.lt
      have hL3 := LR.kept X1.out.2.2.1 hs3 hrb (Nat.le_refl _)
      have hb := (X1.out.1.step hs3).box #[.int .u8 9, .string ⟨#[]⟩, .slice (some ⟨b2, 0, none⟩) 1 1, .slice m1 (Ns.of l).len e1, .slice none 0 0]
      obtain ⟨b4, hb4⟩ : ∃ b4, b4 = w3.heap.size := ⟨_, rfl⟩
      obtain ⟨w4, hw4⟩ : ∃ w4, w4 = w3.alloc (.cells #[.int .u8 9, .string ⟨#[]⟩, .slice (some ⟨b2, 0, none⟩) 1 1, .slice m1 (Ns.of l).len e1, .slice none 0 0] TN) := ⟨_, rfl⟩
      rw [← hw4] at hb
      have hu := (block_down (stm_down inn) q).lt hrd
      have X3 := Lib.hid (And.intro hb.1 (And.intro (hb4 ▸ hb.2.1) (And.intro (h3.later hb.2.2) (And.intro hrd (And.intro (show c < b4 by have := X1.out.1.lt; have := hs3.size; omega) (And.intro (hL3.later hb.2.2 hs3.size) (And.intro (hM.later hb.2.2 (Nat.le_refl _)) (show u.length ≤ n by have := X1.out.2.2.2.2.2; omega))))))))
      have HZ := Lib.hid (And.intro hs3.size (And.intro hb4 hb.2.2.size))
      clear hs3 h3 hrd hM hL3 hb hu hrb
      go_upto_region 2 with fail
      rw [← hw4, ← hb4]
      clear hw4 hb4
      go_wp2_with fail
      by_cases hh : u.head? = some [101, 108, 115, 101]
      · obtain ⟨u', rfl⟩ := head_form hh
        refine takes_yes X3.out.2.2.1 (by decide) fun w5 hs5 h5 => ?_
        have hrbA : rb < wA.heap.size := Nat.lt_trans X0.out.1.hrb X0.out.1.lt
        have hcb := X3.out.2.2.2.2.1
        have hw24 : w2.heap.size ≤ w4.heap.size := Nat.le_trans HZ.out.1 HZ.out.2.2
        have X5 := Lib.hid (And.intro (X3.out.1.step hs5) (And.intro h5 (And.intro ((hs5.kept (heap_lt X3.out.2.1) (by have := X3.out.1.hrb; omega)).trans X3.out.2.1) (And.intro (LR.kept X3.out.2.2.2.2.2.1 hs5 hrbA hw24) (And.intro (LR.kept X3.out.2.2.2.2.2.2.1 hs5 (by have := X1.out.2.2.2.1; omega) HZ.out.2.2) hs5.size)))))
        clear hs5 h5 hh hrbA hcb hw24
        go_wp2_with fail
        refine (HE.out.1 w5 u' (by have := X3.out.2.2.2.2.2.2.2; rw [List.length_cons] at this; omega) X5.out.2.1).mono ?_
        rintro e w6 ⟨hs6, h6, hres⟩
        cases hrd : block (stm inn) u' with
        | bad t =>
          rw [hrd] at hres h6
          subst hres
          have X6 := Lib.hid (And.intro (X5.out.1.step hs6) (And.intro h6 hrd))
          clear hs6 h6 hrd
          go_wp2_with fail
          refine ⟨rfl, ?_⟩
          rw [branch_is, X1.out.2.2.2.2.1]
          show Got w rb tv xs inn ((block (stm inn) q).then_ _) _ _
          rw [X3.out.2.2.2.1]
          show Got w rb tv xs inn (ifTail inn x l ([101, 108, 115, 101] :: u')) _ _
          rw [ifTail_yes, X6.out.2.2]
          exact X6.out.1.bad X6.out.2.1
        | ok l2 t =>
          rw [hrd] at hres h6
          obtain ⟨v, rfl, hM6⟩ := hres
          obtain ⟨m2, e2, rfl⟩ := hM6.form
          have hrbA : rb < wA.heap.size := Nat.lt_trans X0.out.1.hrb X0.out.1.lt
          have hcb := X3.out.2.2.2.2.1
          have hz24 : w2.heap.size ≤ w4.heap.size := Nat.le_trans HZ.out.1 HZ.out.2.2
          have R6 := X5.out.1.step hs6
          have row6 := (hs6.kept (heap_lt X5.out.2.2.1) (by have := X3.out.1.hrb; omega)).trans X5.out.2.2.1
          obtain ⟨x0, x1, x2, x3, x4, f0, f1, f2, f3, f4⟩ := row5 row6
          have hp1 : Put w6 (w6.setCell ⟨b4, 4, none⟩ (.slice m2 (Ns.of l2).len e2)) b4 #[.int .u8 9, .string ⟨#[]⟩, .slice (some ⟨b2, 0, none⟩) 1 1, .slice m1 (Ns.of l).len e1, .slice m2 (Ns.of l2).len e2] TN := Put.one row6 4 _
          obtain ⟨w7, hw7⟩ : ∃ w7, w7 = w6.setCell ⟨b4, 4, none⟩ (.slice m2 (Ns.of l2).len e2) := ⟨_, rfl⟩
          rw [← hw7] at hp1
          have hsz := hp1.size
          have z3 := HZ.out.1
          have z4 := X5.out.2.2.2.2.2
          have hbz := HZ.out.2.1
          have L1 : LR w7 TN wA.heap.size w2.heap.size (.slice (some ⟨b2, 0, none⟩) 1 1) (Ns.of [x]) := LR.frame (LR.kept X5.out.2.2.2.1 hs6 hrbA (by omega)) fun b q1 q2 => hp1.oth b (by omega)
          have L2 : LR w7 TN w2.heap.size w3.heap.size (.slice m1 (Ns.of l).len e1) (Ns.of l) := LR.frame (LR.kept X5.out.2.2.2.2.1 hs6 (by have := X1.out.2.2.2.1; omega) (by have := HZ.out.2.2; omega)) fun b q1 q2 => hp1.oth b (by omega)
          have hb4lt := heap_lt X5.out.2.2.1
          have L3 : LR w7 TN w5.heap.size w6.heap.size (.slice m2 (Ns.of l2).len e2) (Ns.of l2) := LR.frame hM6 fun b q1 q2 => hp1.oth b (by omega)
          have hN7 : NR w7 TN wA.heap.size w7.heap.size (.agg #[.int .u8 ((9 : Nat) : Int), .string (tx []), .slice (some ⟨b2, 0, none⟩) 1 1, .slice m1 (Ns.of l).len e1, .slice m2 (Ns.of l2).len e2]) ⟨9, [], Ns.of [x], Ns.of l, Ns.of l2⟩ :=
            NR.mk (by decide) (by decide) L1 L2 (L3.mono (show w3.heap.size ≤ w5.heap.size by have := HZ.out.2.2; omega) (by omega)) X1.out.2.2.2.1 z3 (by have := HZ.out.2.2; have := hs6.size; omega)
          have R7 := R6.put hp1 hcb
          obtain ⟨z0', z1', z2', z3', z4', _, _, _, _, _⟩ := row5 hp1.row
          obtain ⟨y0, y1, y2, y3, y4, g0, g1, g2, g3, g4⟩ := row5 R7.row
          have X7 := Lib.hid (And.intro R7 (And.intro (h6.put hp1 (by have := X3.out.1.hrb; omega)) (And.intro (NR.past X0.out.1 hN7) hrd)))
          clear hs6 h6 hrd hM6 hrbA hcb hz24 R6 row6 hp1 hsz z3 z4 hbz L1 L2 hb4lt L3 hN7 R7
          go_upto_region 4 with fail
          rw [← hw7]
          clear hw7 x0 x1 x2 x3 x4 f0 f1 f2 f3 f4
          go_wp2_with fail
          have hp := put5 X7.out.1.row (.int .u8 9) (.string ⟨#[]⟩) (.slice (some ⟨b2, 0, none⟩) 1 1) (.slice m1 (Ns.of l).len e1) (.slice m2 (Ns.of l2).len e2)
          refine bodyPost_ret (results_cell1 rfl _ _ _ rfl (nodeVar _ c _ _ _ _ _ hp.row)) rfl ?_
          rw [branch_is, X1.out.2.2.2.2.1]
          show Got w rb tv xs inn ((block (stm inn) q).then_ _) _ _
          rw [X3.out.2.2.2.1]
          show Got w rb tv xs inn (ifTail inn x l ([101, 108, 115, 101] :: u')) _ _
          rw [ifTail_yes, X7.out.2.2.2]
          exact X7.out.1.fin (x := ⟨9, [], Ns.of [x], Ns.of l, Ns.of l2⟩) X7.out.2.1 X7.out.2.2.1 (fun _ h => h) hp
      · refine takes_no X3.out.2.2.1 [101, 108, 115, 101] (by decide) hh fun w5 hb5 => ?_
        have R5 := X3.out.1.below hb5
        have row5' := (hb5.block _ (heap_lt X3.out.2.1)).trans X3.out.2.1
        obtain ⟨x0, x1, x2, x3, x4, _, _, _, _, _⟩ := row5 row5'
        obtain ⟨y0, y1, y2, y3, y4, g0, g1, g2, g3, g4⟩ := row5 R5.row
        have hN5 : NR w5 TN wA.heap.size w5.heap.size (.agg #[.int .u8 ((9 : Nat) : Int), .string (tx []), .slice (some ⟨b2, 0, none⟩) 1 1, .slice m1 (Ns.of l).len e1, .slice none 0 0]) ⟨9, [], Ns.of [x], Ns.of l, .nil⟩ :=
          NR.mk (by decide) (by decide) (LR.later X3.out.2.2.2.2.2.1 hb5 (Nat.le_trans HZ.out.1 HZ.out.2.2)) (LR.later X3.out.2.2.2.2.2.2.1 hb5 HZ.out.2.2) (LR.nil _ _ _ w5.heap.size) X1.out.2.2.2.1 HZ.out.1 (Nat.le_trans HZ.out.2.2 hb5.size)
        have X5 := Lib.hid (And.intro R5 (And.intro (X3.out.2.2.1.later hb5) (And.intro hh (NR.past X0.out.1 hN5))))
        clear hb5 R5 row5' hh hN5
        go_wp2_with fail
        have hp := put5 X5.out.1.row (.int .u8 9) (.string ⟨#[]⟩) (.slice (some ⟨b2, 0, none⟩) 1 1) (.slice m1 (Ns.of l).len e1) (.slice none 0 0)
        refine bodyPost_ret (results_cell1 rfl _ _ _ rfl (nodeVar _ c _ _ _ _ _ hp.row)) rfl ?_
        rw [branch_is, X1.out.2.2.2.2.1]
        show Got w rb tv xs inn ((block (stm inn) q).then_ _) _ _
        rw [X3.out.2.2.2.1]
        show Got w rb tv xs inn (ifTail inn x l u) _ _
        rw [ifTail_no inn x l u X5.out.2.2.1]
        exact X5.out.1.fin (x := ⟨9, [], Ns.of [x], Ns.of l, .nil⟩) X5.out.2.1 X5.out.2.2.2 (fun _ h => h) hp
end Go.Proofs.YtmkhfonafcikdaaGreatDoor

/- Trees: the reader: a statement. -/
namespace Go.Proofs.YtmkhfonafcikdaaGreatDoor
open Go.RowKit Go.My Go.Nd

/-- A method of the reader as a value. -/
def rdFn (rb : Nat) (f : FuncId) : Value := .func (.func f) #[.pointer (some ⟨rb, 0, none⟩)] #[]
/-- Which words begin a statement of their own kind. -/
def rowsF (rb : Nat) (inn : Bool) (s : Tx) : Option Value :=
  if inn = true ∧ s = [114, 101, 116, 117, 114, 110] then some (rdFn rb 186)
  else if s = [116, 101, 108, 108] then some (rdFn rb 185)
  else if s = [119, 104, 105, 108, 101] then some (rdFn rb 184)
  else if s = [105, 102] then some (rdFn rb 183)
  else none

theorem grown_below {n : Nat} {w w1 w2 : World} {b : Nat} (hb : Below n w w1) (hg : w1.grownBy w2 (some b)) (h : n ≤ b) (hn : n ≤ w.heap.size) : Below n w w2 :=
  Below.grown hb hg (Nat.le_trans hn hb.size) (fun k e => by cases e; exact h)

theorem rows_built (wA : World) (rb : Nat) (inn : Bool) : ∃ w2 w3 w4 wM,
    (Instr.mapUpdate 220 (.map (some wA.heap.size)) (.string ⟨#[105, 102]⟩) (rdFn rb 183)).run Tryz.prog (wA.alloc (.map #[] 0)) = .ok () w2 ∧
    (Instr.mapUpdate 220 (.map (some wA.heap.size)) (.string ⟨#[119, 104, 105, 108, 101]⟩) (rdFn rb 184)).run Tryz.prog w2 = .ok () w3 ∧
    (Instr.mapUpdate 220 (.map (some wA.heap.size)) (.string ⟨#[116, 101, 108, 108]⟩) (rdFn rb 185)).run Tryz.prog w3 = .ok () w4 ∧
    (inn = true → (Instr.mapUpdate 220 (.map (some wA.heap.size)) (.string ⟨#[114, 101, 116, 117, 114, 110]⟩) (rdFn rb 186)).run Tryz.prog w4 = .ok () wM) ∧ (inn = false → wM = w4) ∧
    MapS Tryz.prog 9 wM wA.heap.size 4 (rowsF rb inn) ∧ Below wA.heap.size wA w4 ∧ Below wA.heap.size wA wM := by
  have m0 := MapS.made wA Tryz.prog 9
  have hA : Below wA.heap.size wA (wA.alloc (.map #[] 0)) := Below.alloc (Below.refl _ wA) (Nat.le_refl _) _
  have ht : Tryz.prog.underlying 220 = some (.map 9 208) := Tryz.underlying220
  obtain ⟨w2, r2, m2, g2⟩ := m0.store Tryz.underlying9 ht (by decide) (s := [105, 102]) (by decide) (rdFn rb 183)
  obtain ⟨w3, r3, m3, g3⟩ := m2.store Tryz.underlying9 ht (by decide) (s := [119, 104, 105, 108, 101]) (by decide) (rdFn rb 184)
  obtain ⟨w4, r4, m4, g4⟩ := m3.store Tryz.underlying9 ht (by decide) (s := [116, 101, 108, 108]) (by decide) (rdFn rb 185)
  have b2 := grown_below hA g2 (Nat.le_refl _) (Nat.le_refl _)
  have b3 := grown_below b2 g3 (Nat.le_refl _) (Nat.le_refl _)
  have b4 := grown_below b3 g4 (Nat.le_refl _) (Nat.le_refl _)
  cases inn with
  | false =>
    refine ⟨w2, w3, w4, w4, r2, r3, r4, (fun e => by cases e), fun _ => rfl, ?_, b4, b4⟩
    have e : rowsF rb false = fun j => if j = [116, 101, 108, 108] then some (rdFn rb 185) else if j = [119, 104, 105, 108, 101] then some (rdFn rb 184) else if j = [105, 102] then some (rdFn rb 183) else none := by
      funext j; unfold rowsF; rw [if_neg (by simp)]
    rw [e]
    exact m4.mono (by decide)
  | true =>
    obtain ⟨w5, r5, m5, g5⟩ := m4.store Tryz.underlying9 ht (by decide) (s := [114, 101, 116, 117, 114, 110]) (by decide) (rdFn rb 186)
    refine ⟨w2, w3, w4, w5, r2, r3, r4, fun _ => r5, (fun e => by cases e), ?_, b4, grown_below b4 g5 (Nat.le_refl _) (Nat.le_refl _)⟩
    have e : rowsF rb true = fun j => if j = [114, 101, 116, 117, 114, 110] then some (rdFn rb 186) else if j = [116, 101, 108, 108] then some (rdFn rb 185) else if j = [119, 104, 105, 108, 101] then some (rdFn rb 184) else if j = [105, 102] then some (rdFn rb 183) else none := by
      funext j; unfold rowsF; simp only [true_and]
    rw [e]
    exact m5.mono (by decide)

theorem rowsF_nil (rb : Nat) (inn : Bool) : rowsF rb inn [] = none := by unfold rowsF; simp
theorem func_neq (f : Fn) (a b : Array Value) (w : World) : (binOp .neq 208 (.func f a b) .nilFunc).run Tryz.prog w = .ok (.bool true) w := by kernel_rfl
theorem nil_neq (w : World) : (binOp .neq 208 .nilFunc .nilFunc).run Tryz.prog w = .ok (.bool false) w := by kernel_rfl
theorem map_at {w : World} {mb n : Nat} {rb : Nat} {inn : Bool} (h : MapS Tryz.prog 9 w mb n (rowsF rb inn)) {s : Tx} (hs : s.length ≤ 65536) : (Instr.lookup 220 (.map (some mb)) (.string (bs s)) false).run Tryz.prog w = .ok ((rowsF rb inn s).getD .nilFunc) w :=
  h.at Tryz.underlying9 Tryz.underlying220 (z := .nilFunc) (by kernel_rfl) (by unfold maxLen; omega)

set_option maxRecDepth 100000 in
set_option maxHeartbeats 4000000 in
/-- A statement that begins with a word of its own. -/
theorem stmt_row {rb : Nat} {tv : Value} {xs : List To.T} {inn : Bool} {f : FuncId} {s : Tx} {r : List Tx} {res : R Nd} (hrow : rowsF rb inn s = some (rdFn rb f)) (hcf : ∀ (wx : World), (callFunc f #[.pointer (some ⟨rb, 0, none⟩)]).run Tryz.prog wx = .ok (.enter f #[.pointer (some ⟨rb, 0, none⟩)]) wx)
    (hf : ∀ w, Rd w rb tv xs r inn → Calls Tryz.prog f #[.pointer (some ⟨rb, 0, none⟩)] w (Got w rb tv xs inn res)) {w : World} (h : Rd w rb tv xs (s :: r) inn) :
    Calls Tryz.prog 160 #[.pointer (some ⟨rb, 0, none⟩)] w (Got w rb tv xs inn res) := by
  have hsl : s.length ≤ 65536 := by obtain ⟨_, _, _, _, _, _, _, _, _, _, _, _, hs⟩ := h.token 0 (by simp); simpa using hs
  have HE := Lib.hid (And.intro hrow (And.intro hf hsl))
  clear hrow hf hsl
  have tT := tokText
  have R0 := RA.start h.lt
  have h0 := h.later (Put.new w #[.int .u8 0, .string ⟨#[]⟩, .slice none 0 0, .slice none 0 0, .slice none 0 0] TN).1
  obtain ⟨c, hc⟩ : ∃ c, c = w.heap.size := ⟨_, rfl⟩
  obtain ⟨wA, hwA⟩ : ∃ wA, wA = w.alloc (.cells #[.int .u8 0, .string ⟨#[]⟩, .slice none 0 0, .slice none 0 0, .slice none 0 0] TN) := ⟨_, rfl⟩
  rw [← hwA] at R0 h0
  rw [← hc] at R0
  have X0 := Lib.hid (And.intro R0 h0)
  clear h R0 h0
  obtain ⟨w2, w3, w4, wM, r2, r3, r4, r5, r5', hM, b4, bM⟩ := rows_built wA rb inn
  obtain ⟨mb, hmb⟩ : ∃ mb, mb = wA.heap.size := ⟨_, rfl⟩
  have XM := Lib.hid (And.intro (X0.out.1.below bM) (And.intro (X0.out.2.later bM) (hmb ▸ hM)))
  have c2 := (X0.out.2.later b4).cell.2.2.1
  rw [← hmb] at r2 r3 r4 r5
  unfold rdFn at r2 r3 r4 r5
  have hmk : (Instr.makeMap 220 none).run Tryz.prog wA = .ok (.map (some mb)) (wA.alloc (.map #[] 0)) := by rw [hmb]; rfl
  have R5 := Lib.hid (And.intro r5 r5')
  clear hM b4 bM r5 r5'
  go_enter Tryz.func160, Tryz.ntmps160
  go_upto_region 1 with fail
  rw [← hwA, ← hc]
  clear hwA hc hmb
  cases inn with
  | true =>
    have r5 := R5.out.1 rfl
    go_wp2_with fail
    clear r5
    refine look_t XM.out.2.1 0 (by decide) fun i j w5 hb5 => ?_
    rw [show (s :: r).getD 0 [] = s from rfl]
    have hlk := map_at (XM.out.2.2.frame (hb5.block mb XM.out.2.2.lt)) HE.out.2.2
    rw [HE.out.1] at hlk
    have h5 := XM.out.2.1.later hb5
    have hm := h5.one_more
    have hl := h5.len
    obtain ⟨_, c1, _, f1, _⟩ := h5.cell
    obtain ⟨q, hq⟩ : ∃ q, q = xs.length - (s :: r).length := ⟨_, rfl⟩
    obtain ⟨q', hq'⟩ : ∃ q', q' = xs.length - r.length := ⟨_, rfl⟩
    rw [← hq, ← hq'] at hm
    rw [← hq] at c1
    have q0 : (0 : Int) ≤ (q : Int) := by omega
    have q1 : (q : Int) < 65536 := by omega
    have X5 := Lib.hid (And.intro (XM.out.1.below hb5) (And.intro h5 (And.intro hq' hm)))
    unfold rdFn at hlk
    simp only [Option.getD_some] at hlk
    have hne := func_neq (.func f) #[.pointer (some ⟨rb, 0, none⟩)] #[] w5
    clear hb5 h5 hq hq' hm r2 r3 r4 hmk
    go_wp2_with fail
    have hp := X5.out.2.1.put1
    have R6 := X5.out.1.step hp.step
    have h6 := X5.out.2.1.next hp
    rw [← X5.out.2.2.1, ← X5.out.2.2.2] at R6 h6
    have X6 := Lib.hid (And.intro R6 h6)
    clear hp R6 h6 hlk hne c1 f1 hl
    refine (HE.out.2.1 _ X6.out.2).mono ?_
    rintro e w7 ⟨hs7, h7, hres⟩
    have R7 := X6.out.1.step hs7
    cases res with
    | bad u =>
      subst hres
      have X7 := Lib.hid (And.intro R7 h7)
      clear hs7 h7 R7
      go_wp2_with fail
      exact ⟨rfl, X7.out.1.bad X7.out.2⟩
    | ok x u =>
      obtain ⟨v, rfl, hN⟩ := hres
      obtain ⟨a1, d1, a2, d2, a3, d3, rfl⟩ := hN.form
      obtain ⟨y0, y1, y2, y3, y4, g0, g1, g2, g3, g4⟩ := row5 R7.row
      have X7 := Lib.hid (And.intro R7 (And.intro h7 (NR.past X6.out.1 hN)))
      clear hs7 h7 R7 hN
      go_wp2_with fail
      have hp := put5 X7.out.1.row (.int .u8 (x.kind : Int)) (.string (tx x.text)) (.slice a1 x.l.len d1) (.slice a2 x.body.len d2) (.slice a3 x.els.len d3)
      exact bodyPost_ret (results_cell1 rfl _ _ _ rfl (nodeVar _ c _ _ _ _ _ hp.row)) rfl (X7.out.1.fin X7.out.2.1 X7.out.2.2 (fun _ h => h) hp)
  | false =>
    obtain rfl := R5.out.2 rfl
    go_wp2_with fail
    refine look_t XM.out.2.1 0 (by decide) fun i j w5 hb5 => ?_
    rw [show (s :: r).getD 0 [] = s from rfl]
    have hlk := map_at (XM.out.2.2.frame (hb5.block mb XM.out.2.2.lt)) HE.out.2.2
    rw [HE.out.1] at hlk
    have h5 := XM.out.2.1.later hb5
    have hm := h5.one_more
    have hl := h5.len
    obtain ⟨_, c1, _, f1, _⟩ := h5.cell
    obtain ⟨q, hq⟩ : ∃ q, q = xs.length - (s :: r).length := ⟨_, rfl⟩
    obtain ⟨q', hq'⟩ : ∃ q', q' = xs.length - r.length := ⟨_, rfl⟩
    rw [← hq, ← hq'] at hm
    rw [← hq] at c1
    have q0 : (0 : Int) ≤ (q : Int) := by omega
    have q1 : (q : Int) < 65536 := by omega
    have X5 := Lib.hid (And.intro (XM.out.1.below hb5) (And.intro h5 (And.intro hq' hm)))
    unfold rdFn at hlk
    simp only [Option.getD_some] at hlk
    have hne := func_neq (.func f) #[.pointer (some ⟨rb, 0, none⟩)] #[] w5
    clear hb5 h5 hq hq' hm r2 r3 r4 hmk
    go_wp2_with fail
    have hp := X5.out.2.1.put1
    have R6 := X5.out.1.step hp.step
    have h6 := X5.out.2.1.next hp
    rw [← X5.out.2.2.1, ← X5.out.2.2.2] at R6 h6
    have X6 := Lib.hid (And.intro R6 h6)
    clear hp R6 h6 hlk hne c1 f1 hl
    refine (HE.out.2.1 _ X6.out.2).mono ?_
    rintro e w7 ⟨hs7, h7, hres⟩
    have R7 := X6.out.1.step hs7
    cases res with
    | bad u =>
      subst hres
      have X7 := Lib.hid (And.intro R7 h7)
      clear hs7 h7 R7
      go_wp2_with fail
      exact ⟨rfl, X7.out.1.bad X7.out.2⟩
    | ok x u =>
      obtain ⟨v, rfl, hN⟩ := hres
      obtain ⟨a1, d1, a2, d2, a3, d3, rfl⟩ := hN.form
      obtain ⟨y0, y1, y2, y3, y4, g0, g1, g2, g3, g4⟩ := row5 R7.row
      have X7 := Lib.hid (And.intro R7 (And.intro h7 (NR.past X6.out.1 hN)))
      clear hs7 h7 R7 hN
      go_wp2_with fail
      have hp := put5 X7.out.1.row (.int .u8 (x.kind : Int)) (.string (tx x.text)) (.slice a1 x.l.len d1) (.slice a2 x.body.len d2) (.slice a3 x.els.len d3)
      exact bodyPost_ret (results_cell1 rfl _ _ _ rfl (nodeVar _ c _ _ _ _ _ hp.row)) rfl (X7.out.1.fin X7.out.2.1 X7.out.2.2 (fun _ h => h) hp)
end Go.Proofs.YtmkhfonafcikdaaGreatDoor

/- Trees: the reader: a statement that is no word's: x = .., or an expression. -/
namespace Go.Proofs.YtmkhfonafcikdaaGreatDoor
open Go.RowKit Go.My Go.Nd

theorem Rd.short0 {w : World} {rb : Nat} {tv : Value} {xs : List To.T} {ts : List Tx} {inn : Bool} (h : Rd w rb tv xs ts inn) (k : Nat) : (ts.getD k []).length ≤ 65536 := by
  by_cases hk : k < ts.length
  · obtain ⟨_, _, _, _, _, _, _, _, _, _, _, _, hs⟩ := h.token k hk
    rw [List.getD_eq_getElem?_getD, List.getElem?_eq_getElem hk]; exact hs
  · rw [List.getD_eq_getElem?_getD, List.getElem?_eq_none (by omega)]; exact Nat.zero_le _

theorem Rd.two {w : World} {rb : Nat} {tv : Value} {xs : List To.T} {s p : Tx} {r : List Tx} {inn : Bool} (h : Rd w rb tv xs (s :: p :: r) inn) :
    Put w (w.setCell ⟨rb, 1, none⟩ (.int .i64 ((xs.length - r.length : Nat) : Int))) rb #[tv, .int .i64 ((xs.length - r.length : Nat) : Int), .bool inn] 188 ∧ Rd (w.setCell ⟨rb, 1, none⟩ (.int .i64 ((xs.length - r.length : Nat) : Int))) rb tv xs r inn := by
  have hp : Put w (w.setCell ⟨rb, 1, none⟩ (.int .i64 ((xs.length - r.length : Nat) : Int))) rb #[tv, .int .i64 ((xs.length - r.length : Nat) : Int), .bool inn] 188 := Put.one h.row 1 _
  exact ⟨hp, hp.row, ((List.suffix_cons p r).trans (List.suffix_cons s (p :: r))).trans h.suf, h.toks.frame (by rw [hp.size]; exact Nat.le_refl _) fun b hb _ => hp.oth b (Nat.ne_of_lt hb), h.len, h.short⟩

set_option maxRecDepth 100000 in
set_option maxHeartbeats 4000000 in
/-- A statement that is an expression. -/
theorem stmt_do {rb : Nat} {tv : Value} {xs : List To.T} {inn : Bool} {ts : List Tx} (hrow : rowsF rb inn (ts.getD 0 []) = none) (hno : To.name (ts.getD 0 []) = false ∨ ts.getD 1 [] ≠ [61]) {w : World} (h : Rd w rb tv xs ts inn) :
    Calls Tryz.prog 160 #[.pointer (some ⟨rb, 0, none⟩)] w (Got w rb tv xs inn (ends 13 [] ts)) := by
  obtain ⟨u, hu⟩ : ∃ u, u = ts.getD 0 [] := ⟨_, rfl⟩
  obtain ⟨p, hp⟩ : ∃ p, p = ts.getD 1 [] := ⟨_, rfl⟩
  rw [← hu] at hrow hno
  rw [← hp] at hno
  have HE := Lib.hid (And.intro hrow (And.intro hno (And.intro (hu ▸ h.short0 0 : u.length ≤ 65536) (And.intro hu hp))))
  obtain ⟨nm, hnm⟩ : ∃ nm, nm = To.name u := ⟨_, rfl⟩
  have hpe := bs_tlp p
  have tT := tokText
  have hq : nm = true → (p == [61]) = false := fun e => hno.elim (fun h => by rw [← hnm, e] at h; cases h) (fun h => by simpa using h)
  have HQ := Lib.hid (And.intro hq hnm)
  clear hrow hno hu hp hnm hq
  have R0 := RA.start h.lt
  have h0 := h.later (Put.new w #[.int .u8 0, .string ⟨#[]⟩, .slice none 0 0, .slice none 0 0, .slice none 0 0] TN).1
  obtain ⟨c, hc⟩ : ∃ c, c = w.heap.size := ⟨_, rfl⟩
  obtain ⟨wA, hwA⟩ : ∃ wA, wA = w.alloc (.cells #[.int .u8 0, .string ⟨#[]⟩, .slice none 0 0, .slice none 0 0, .slice none 0 0] TN) := ⟨_, rfl⟩
  rw [← hwA] at R0 h0
  rw [← hc] at R0
  have X0 := Lib.hid (And.intro R0 h0)
  clear h R0 h0
  obtain ⟨w2, w3, w4, wM, r2, r3, r4, r5, r5', hM, b4, bM⟩ := rows_built wA rb inn
  obtain ⟨mb, hmb⟩ : ∃ mb, mb = wA.heap.size := ⟨_, rfl⟩
  have XM := Lib.hid (And.intro (X0.out.1.below bM) (And.intro (X0.out.2.later bM) (hmb ▸ hM)))
  have c2 := (X0.out.2.later b4).cell.2.2.1
  rw [← hmb] at r2 r3 r4 r5
  unfold rdFn at r2 r3 r4 r5
  have hmk : (Instr.makeMap 220 none).run Tryz.prog wA = .ok (.map (some mb)) (wA.alloc (.map #[] 0)) := by rw [hmb]; rfl
  have R5 := Lib.hid (And.intro r5 r5')
  clear hM b4 bM r5 r5'
  go_enter Tryz.func160, Tryz.ntmps160
  go_upto_region 1 with fail
  rw [← hwA, ← hc]
  clear hwA hc hmb
  cases inn with
  | true =>
    have r5 := R5.out.1 rfl
    go_wp2_with fail
    clear r5
    refine look_t XM.out.2.1 0 (by decide) fun i j w5 hb5 => ?_
    rw [← HE.out.2.2.2.1]
    have hlk := map_at (XM.out.2.2.frame (hb5.block mb XM.out.2.2.lt)) HE.out.2.2.1
    rw [HE.out.1] at hlk
    simp only [Option.getD_none] at hlk
    have hne := nil_neq w5
    have X5 := Lib.hid (And.intro (XM.out.1.below hb5) (XM.out.2.1.later hb5))
    clear hb5 r2 r3 r4 hmk
    go_wp2_with fail
    refine named_t X5.out.2 fun w5' hb6 => ?_
    rw [← HE.out.2.2.2.1, ← HQ.out.2]
    have X6' := Lib.hid (And.intro (X5.out.1.below hb6) (X5.out.2.later hb6))
    clear hb6 hlk hne
    cases nm with
    | false =>
      have X6 := X6'
      go_wp2_with fail
      refine (ends_t 13 (by decide) X6.out.2).mono ?_
      rintro e w7 ⟨hs7, h7, hres⟩
      have R7 := X6.out.1.step hs7
      cases hrd : ends 13 [] ts with
      | bad q =>
        rw [hrd] at hres h7
        subst hres
        have X7 := Lib.hid (And.intro R7 (And.intro h7 hrd))
        clear hs7 h7 R7 hrd
        go_wp2_with fail
        refine ⟨rfl, ?_⟩
        first | rw [X7.out.2.2] | skip
        exact X7.out.1.bad X7.out.2.1
      | ok x q =>
        rw [hrd] at hres h7
        obtain ⟨v, rfl, hN⟩ := hres
        obtain ⟨a1, d1, a2, d2, a3, d3, rfl⟩ := hN.form
        obtain ⟨y0, y1, y2, y3, y4, g0, g1, g2, g3, g4⟩ := row5 R7.row
        have X7 := Lib.hid (And.intro R7 (And.intro h7 (And.intro hrd (NR.past X6.out.1 hN))))
        clear hs7 h7 R7 hN hrd
        go_wp2_with fail
        have hp := put5 X7.out.1.row (.int .u8 (x.kind : Int)) (.string (tx x.text)) (.slice a1 x.l.len d1) (.slice a2 x.body.len d2) (.slice a3 x.els.len d3)
        refine bodyPost_ret (results_cell1 rfl _ _ _ rfl (nodeVar _ c _ _ _ _ _ hp.row)) rfl ?_
        first | rw [X7.out.2.2.1] | skip
        exact X7.out.1.fin X7.out.2.1 X7.out.2.2.2 (fun _ h => h) hp
    | true =>
      have hq := HQ.out.1 rfl
      go_wp2_with fail
      refine look_t X6'.out.2 1 (by decide) fun i' j' w6 hb7 => ?_
      rw [← HE.out.2.2.2.2]
      have X6 := Lib.hid (And.intro (X6'.out.1.below hb7) (X6'.out.2.later hb7))
      clear hb7
      go_wp2_with fail
      refine (ends_t 13 (by decide) X6.out.2).mono ?_
      rintro e w7 ⟨hs7, h7, hres⟩
      have R7 := X6.out.1.step hs7
      cases hrd : ends 13 [] ts with
      | bad q =>
        rw [hrd] at hres h7
        subst hres
        have X7 := Lib.hid (And.intro R7 (And.intro h7 hrd))
        clear hs7 h7 R7 hrd
        go_wp2_with fail
        refine ⟨rfl, ?_⟩
        first | rw [X7.out.2.2] | skip
        exact X7.out.1.bad X7.out.2.1
      | ok x q =>
        rw [hrd] at hres h7
        obtain ⟨v, rfl, hN⟩ := hres
        obtain ⟨a1, d1, a2, d2, a3, d3, rfl⟩ := hN.form
        obtain ⟨y0, y1, y2, y3, y4, g0, g1, g2, g3, g4⟩ := row5 R7.row
        have X7 := Lib.hid (And.intro R7 (And.intro h7 (And.intro hrd (NR.past X6.out.1 hN))))
        clear hs7 h7 R7 hN hrd
        go_wp2_with fail
        have hp := put5 X7.out.1.row (.int .u8 (x.kind : Int)) (.string (tx x.text)) (.slice a1 x.l.len d1) (.slice a2 x.body.len d2) (.slice a3 x.els.len d3)
        refine bodyPost_ret (results_cell1 rfl _ _ _ rfl (nodeVar _ c _ _ _ _ _ hp.row)) rfl ?_
        first | rw [X7.out.2.2.1] | skip
        exact X7.out.1.fin X7.out.2.1 X7.out.2.2.2 (fun _ h => h) hp
  | false =>
    obtain rfl := R5.out.2 rfl
    go_wp2_with fail
    refine look_t XM.out.2.1 0 (by decide) fun i j w5 hb5 => ?_
    rw [← HE.out.2.2.2.1]
    have hlk := map_at (XM.out.2.2.frame (hb5.block mb XM.out.2.2.lt)) HE.out.2.2.1
    rw [HE.out.1] at hlk
    simp only [Option.getD_none] at hlk
    have hne := nil_neq w5
    have X5 := Lib.hid (And.intro (XM.out.1.below hb5) (XM.out.2.1.later hb5))
    clear hb5 r2 r3 r4 hmk
    go_wp2_with fail
    refine named_t X5.out.2 fun w5' hb6 => ?_
    rw [← HE.out.2.2.2.1, ← HQ.out.2]
    have X6' := Lib.hid (And.intro (X5.out.1.below hb6) (X5.out.2.later hb6))
    clear hb6 hlk hne
    cases nm with
    | false =>
      have X6 := X6'
      go_wp2_with fail
      refine (ends_t 13 (by decide) X6.out.2).mono ?_
      rintro e w7 ⟨hs7, h7, hres⟩
      have R7 := X6.out.1.step hs7
      cases hrd : ends 13 [] ts with
      | bad q =>
        rw [hrd] at hres h7
        subst hres
        have X7 := Lib.hid (And.intro R7 (And.intro h7 hrd))
        clear hs7 h7 R7 hrd
        go_wp2_with fail
        refine ⟨rfl, ?_⟩
        first | rw [X7.out.2.2] | skip
        exact X7.out.1.bad X7.out.2.1
      | ok x q =>
        rw [hrd] at hres h7
        obtain ⟨v, rfl, hN⟩ := hres
        obtain ⟨a1, d1, a2, d2, a3, d3, rfl⟩ := hN.form
        obtain ⟨y0, y1, y2, y3, y4, g0, g1, g2, g3, g4⟩ := row5 R7.row
        have X7 := Lib.hid (And.intro R7 (And.intro h7 (And.intro hrd (NR.past X6.out.1 hN))))
        clear hs7 h7 R7 hN hrd
        go_wp2_with fail
        have hp := put5 X7.out.1.row (.int .u8 (x.kind : Int)) (.string (tx x.text)) (.slice a1 x.l.len d1) (.slice a2 x.body.len d2) (.slice a3 x.els.len d3)
        refine bodyPost_ret (results_cell1 rfl _ _ _ rfl (nodeVar _ c _ _ _ _ _ hp.row)) rfl ?_
        first | rw [X7.out.2.2.1] | skip
        exact X7.out.1.fin X7.out.2.1 X7.out.2.2.2 (fun _ h => h) hp
    | true =>
      have hq := HQ.out.1 rfl
      go_wp2_with fail
      refine look_t X6'.out.2 1 (by decide) fun i' j' w6 hb7 => ?_
      rw [← HE.out.2.2.2.2]
      have X6 := Lib.hid (And.intro (X6'.out.1.below hb7) (X6'.out.2.later hb7))
      clear hb7
      go_wp2_with fail
      refine (ends_t 13 (by decide) X6.out.2).mono ?_
      rintro e w7 ⟨hs7, h7, hres⟩
      have R7 := X6.out.1.step hs7
      cases hrd : ends 13 [] ts with
      | bad q =>
        rw [hrd] at hres h7
        subst hres
        have X7 := Lib.hid (And.intro R7 (And.intro h7 hrd))
        clear hs7 h7 R7 hrd
        go_wp2_with fail
        refine ⟨rfl, ?_⟩
        first | rw [X7.out.2.2] | skip
        exact X7.out.1.bad X7.out.2.1
      | ok x q =>
        rw [hrd] at hres h7
        obtain ⟨v, rfl, hN⟩ := hres
        obtain ⟨a1, d1, a2, d2, a3, d3, rfl⟩ := hN.form
        obtain ⟨y0, y1, y2, y3, y4, g0, g1, g2, g3, g4⟩ := row5 R7.row
        have X7 := Lib.hid (And.intro R7 (And.intro h7 (And.intro hrd (NR.past X6.out.1 hN))))
        clear hs7 h7 R7 hN hrd
        go_wp2_with fail
        have hp := put5 X7.out.1.row (.int .u8 (x.kind : Int)) (.string (tx x.text)) (.slice a1 x.l.len d1) (.slice a2 x.body.len d2) (.slice a3 x.els.len d3)
        refine bodyPost_ret (results_cell1 rfl _ _ _ rfl (nodeVar _ c _ _ _ _ _ hp.row)) rfl ?_
        first | rw [X7.out.2.2.1] | skip
        exact X7.out.1.fin X7.out.2.1 X7.out.2.2.2 (fun _ h => h) hp

theorem NR.retext {w : World} {T : TypeId} {lo hi : Nat} {s : List UInt8} {u1 u2 u3 : Value} {x : Nd} (h : NR w T lo hi (.agg #[.int .u8 (x.kind : Int), .string (tx x.text), u1, u2, u3]) x) (hs : s.length ≤ 140737488351232) :
    NR w T lo hi (.agg #[.int .u8 (x.kind : Int), .string (tx s), u1, u2, u3]) { x with text := s } := by
  obtain ⟨_, _, hk, _, F1, F2, F3, a1, a2, a3, hr⟩ := h.parts
  exact ⟨⟨x.kind, s, u1, u2, u3⟩, F1 ++ (F2 ++ F3), rfl, ⟨F1, F2, F3, rfl, ⟨⟨rfl, hk⟩, rfl, hs⟩, a1, a2, a3⟩, hr⟩
theorem ends_text (k : Nat) (s : Tx) (ts : List Tx) : ends k s ts = (ends k [] ts).map fun x => { x with text := s } := by
  unfold ends
  cases expr ts with
  | bad q => rfl
  | ok x q =>
    show must [59] _ q = R.map _ (must [59] _ q)
    cases q with
    | nil => rfl
    | cons a q => unfold must; simp only; split <;> rfl

set_option maxRecDepth 100000 in
set_option maxHeartbeats 4000000 in
/-- A statement that sets a name. -/
theorem stmt_let {rb : Nat} {tv : Value} {xs : List To.T} {inn : Bool} {s : Tx} {r : List Tx} (hrow : rowsF rb inn s = none) (hs : To.name s = true) {w : World} (h : Rd w rb tv xs (s :: [61] :: r) inn) :
    Calls Tryz.prog 160 #[.pointer (some ⟨rb, 0, none⟩)] w (Got w rb tv xs inn (ends 8 s r)) := by
  have HE := Lib.hid (And.intro hrow (And.intro hs (h.short0 0 : s.length ≤ 65536)))
  have tT := tokText
  have hpe := bs_tlp [61]
  clear hrow hs
  have R0 := RA.start h.lt
  have h0 := h.later (Put.new w #[.int .u8 0, .string ⟨#[]⟩, .slice none 0 0, .slice none 0 0, .slice none 0 0] TN).1
  obtain ⟨c, hc⟩ : ∃ c, c = w.heap.size := ⟨_, rfl⟩
  obtain ⟨wA, hwA⟩ : ∃ wA, wA = w.alloc (.cells #[.int .u8 0, .string ⟨#[]⟩, .slice none 0 0, .slice none 0 0, .slice none 0 0] TN) := ⟨_, rfl⟩
  rw [← hwA] at R0 h0
  rw [← hc] at R0
  have X0 := Lib.hid (And.intro R0 h0)
  clear h R0 h0
  obtain ⟨w2, w3, w4, wM, r2, r3, r4, r5, r5', hM, b4, bM⟩ := rows_built wA rb inn
  obtain ⟨mb, hmb⟩ : ∃ mb, mb = wA.heap.size := ⟨_, rfl⟩
  have XM := Lib.hid (And.intro (X0.out.1.below bM) (And.intro (X0.out.2.later bM) (hmb ▸ hM)))
  have c2 := (X0.out.2.later b4).cell.2.2.1
  rw [← hmb] at r2 r3 r4 r5
  unfold rdFn at r2 r3 r4 r5
  have hmk : (Instr.makeMap 220 none).run Tryz.prog wA = .ok (.map (some mb)) (wA.alloc (.map #[] 0)) := by rw [hmb]; rfl
  have R5 := Lib.hid (And.intro r5 r5')
  clear hM b4 bM r5 r5'
  go_enter Tryz.func160, Tryz.ntmps160
  go_upto_region 1 with fail
  rw [← hwA, ← hc]
  clear hwA hc hmb
  cases inn with
  | true =>
    have r5 := R5.out.1 rfl
    go_wp2_with fail
    clear r5
    refine look_t XM.out.2.1 0 (by decide) fun i j w5 hb5 => ?_
    rw [show (s :: [61] :: r).getD 0 [] = s from rfl]
    have hlk := map_at (s := s) (XM.out.2.2.frame (hb5.block mb XM.out.2.2.lt)) HE.out.2.2
    rw [HE.out.1] at hlk
    simp only [Option.getD_none] at hlk
    have hne := nil_neq w5
    have X5 := Lib.hid (And.intro (XM.out.1.below hb5) (XM.out.2.1.later hb5))
    clear hb5 r2 r3 r4 hmk
    go_wp2_with fail
    refine named_t X5.out.2 fun w5' hb6 => ?_
    rw [show (s :: [61] :: r).getD 0 [] = s from rfl, HE.out.2.1]
    have X6' := Lib.hid (And.intro (X5.out.1.below hb6) (X5.out.2.later hb6))
    clear hb6 hlk hne
    go_wp2_with fail
    refine look_t X6'.out.2 1 (by decide) fun i' j' w6 hb7 => ?_
    rw [show (s :: [61] :: r).getD 1 [] = [61] from rfl]
    have R6 := X6'.out.1.below hb7
    have h6 := X6'.out.2.later hb7
    obtain ⟨_, c1, _, f1, _⟩ := h6.cell
    have hl := h6.len
    have hle := h6.le
    obtain ⟨q, hq⟩ : ∃ q, q = xs.length - (s :: [61] :: r).length := ⟨_, rfl⟩
    obtain ⟨q', hq'⟩ : ∃ q', q' = xs.length - r.length := ⟨_, rfl⟩
    have hm : (q : Int) + 2 = (q' : Int) := by rw [hq, hq']; simp only [List.length_cons] at hle ⊢; omega
    rw [← hq] at c1
    have q0 : (0 : Int) ≤ (q : Int) := by omega
    have q1 : (q : Int) < 65536 := by omega
    obtain ⟨hp, h7⟩ := h6.two
    have R7 := R6.step hp.step
    rw [← hq', ← hm] at h7 R7
    have X7 := Lib.hid (And.intro R7 h7)
    clear R7
    clear hb7 R6 h6 hq hq' hm hp h7 hl hle
    go_wp2_with fail
    refine (ends_t 8 (by decide) X7.out.2).mono ?_
    rintro e w8 ⟨hs8, h8, hres⟩
    have R8 := X7.out.1.step hs8
    cases hrd : ends 8 [] r with
    | bad u =>
      rw [hrd] at hres h8
      subst hres
      have X8 := Lib.hid (And.intro R8 (And.intro h8 hrd))
      clear hs8 h8 R8 hrd
      go_wp2_with fail
      refine ⟨rfl, ?_⟩
      rw [ends_text, X8.out.2.2]
      exact X8.out.1.bad X8.out.2.1
    | ok x u =>
      rw [hrd] at hres h8
      obtain ⟨v, rfl, hN⟩ := hres
      obtain ⟨a1, d1, a2, d2, a3, d3, rfl⟩ := hN.form
      have hN := NR.retext (s := s) hN (by have : s.length ≤ 65536 := HE.out.2.2; omega)
      have hb := R8.box #[.int .u8 (x.kind : Int), .string (tx x.text), .slice a1 x.l.len d1, .slice a2 x.body.len d2, .slice a3 x.els.len d3]
      obtain ⟨b6, hb6⟩ : ∃ b6, b6 = w8.heap.size := ⟨_, rfl⟩
      obtain ⟨w9, hw9⟩ : ∃ w9, w9 = w8.alloc (.cells #[.int .u8 (x.kind : Int), .string (tx x.text), .slice a1 x.l.len d1, .slice a2 x.body.len d2, .slice a3 x.els.len d3] TN) := ⟨_, rfl⟩
      rw [← hw9] at hb
      have hcb : c < b6 := by have := R8.lt; omega
      have hrow9 : w9.heap[b6]? = _ := hb6 ▸ hb.2.1
      have hp9 : Put w9 (w9.setCell ⟨b6, 1, none⟩ (.string (bs s))) b6 #[.int .u8 (x.kind : Int), .string (bs s), .slice a1 x.l.len d1, .slice a2 x.body.len d2, .slice a3 x.els.len d3] TN := Put.one hrow9 1 _
      have hN9 : NS w9 TN (fun b => c < b ∧ b < b6) _ _ := NS.later (hN.ns (S := fun b => c < b ∧ b < b6) fun b q1 q2 => by have := X7.out.1.lt; omega) hb.2.2
      have hN10 := NS.frame hN9 (fun b hb' _ => hp9.oth b (by omega))
      have R10 := hb.1.put hp9 hcb
      have h10 := (h8.later hb.2.2).put hp9 (by have := R8.hrb; omega)
      obtain ⟨x0, x1, x2, x3, x4, f0', f1', f2', f3', f4'⟩ := row5 hrow9
      obtain ⟨w10, hw10⟩ : ∃ w10, w10 = w9.setCell ⟨b6, 1, none⟩ (.string (bs s)) := ⟨_, rfl⟩
      have hrow10 := hp9.row
      rw [← hw10] at R10 h10 hN10 hrow10
      obtain ⟨z0, z1, z2, z3, z4, _, _, _, _, _⟩ := row5 hrow10
      obtain ⟨y0, y1, y2, y3, y4, g0, g1, g2, g3, g4⟩ := row5 R10.row
      have X10 := Lib.hid (And.intro R10 (And.intro h10 (And.intro hN10 hrd)))
      clear hp9 hN9 hN10 R10 h10 hrow9 hrow10 hb hcb hs8 h8 R8 hN hrd c1 f1
      go_upto_region 12 with fail
      rw [← hw9, ← hb6]
      clear hw9 hb6
      go_upto_region 13 with fail
      rw [← hw10]
      clear hw10 x0 x1 x2 x3 x4 f0' f1' f2' f3' f4'
      go_wp2_with fail
      have hp := put5 X10.out.1.row (.int .u8 (x.kind : Int)) (.string (bs s)) (.slice a1 x.l.len d1) (.slice a2 x.body.len d2) (.slice a3 x.els.len d3)
      refine bodyPost_ret (results_cell1 rfl _ _ _ rfl (nodeVar _ c _ _ _ _ _ hp.row)) rfl ?_
      rw [ends_text, X10.out.2.2.2]
      exact X10.out.1.fin (x := { x with text := s }) X10.out.2.1 X10.out.2.2.1 (fun _ h => h.1) hp
  | false =>
    obtain rfl := R5.out.2 rfl
    go_wp2_with fail
    refine look_t XM.out.2.1 0 (by decide) fun i j w5 hb5 => ?_
    rw [show (s :: [61] :: r).getD 0 [] = s from rfl]
    have hlk := map_at (s := s) (XM.out.2.2.frame (hb5.block mb XM.out.2.2.lt)) HE.out.2.2
    rw [HE.out.1] at hlk
    simp only [Option.getD_none] at hlk
    have hne := nil_neq w5
    have X5 := Lib.hid (And.intro (XM.out.1.below hb5) (XM.out.2.1.later hb5))
    clear hb5 r2 r3 r4 hmk
    go_wp2_with fail
    refine named_t X5.out.2 fun w5' hb6 => ?_
    rw [show (s :: [61] :: r).getD 0 [] = s from rfl, HE.out.2.1]
    have X6' := Lib.hid (And.intro (X5.out.1.below hb6) (X5.out.2.later hb6))
    clear hb6 hlk hne
    go_wp2_with fail
    refine look_t X6'.out.2 1 (by decide) fun i' j' w6 hb7 => ?_
    rw [show (s :: [61] :: r).getD 1 [] = [61] from rfl]
    have R6 := X6'.out.1.below hb7
    have h6 := X6'.out.2.later hb7
    obtain ⟨_, c1, _, f1, _⟩ := h6.cell
    have hl := h6.len
    have hle := h6.le
    obtain ⟨q, hq⟩ : ∃ q, q = xs.length - (s :: [61] :: r).length := ⟨_, rfl⟩
    obtain ⟨q', hq'⟩ : ∃ q', q' = xs.length - r.length := ⟨_, rfl⟩
    have hm : (q : Int) + 2 = (q' : Int) := by rw [hq, hq']; simp only [List.length_cons] at hle ⊢; omega
    rw [← hq] at c1
    have q0 : (0 : Int) ≤ (q : Int) := by omega
    have q1 : (q : Int) < 65536 := by omega
    obtain ⟨hp, h7⟩ := h6.two
    have R7 := R6.step hp.step
    rw [← hq', ← hm] at h7 R7
    have X7 := Lib.hid (And.intro R7 h7)
    clear R7
    clear hb7 R6 h6 hq hq' hm hp h7 hl hle
    go_wp2_with fail
    refine (ends_t 8 (by decide) X7.out.2).mono ?_
    rintro e w8 ⟨hs8, h8, hres⟩
    have R8 := X7.out.1.step hs8
    cases hrd : ends 8 [] r with
    | bad u =>
      rw [hrd] at hres h8
      subst hres
      have X8 := Lib.hid (And.intro R8 (And.intro h8 hrd))
      clear hs8 h8 R8 hrd
      go_wp2_with fail
      refine ⟨rfl, ?_⟩
      rw [ends_text, X8.out.2.2]
      exact X8.out.1.bad X8.out.2.1
    | ok x u =>
      rw [hrd] at hres h8
      obtain ⟨v, rfl, hN⟩ := hres
      obtain ⟨a1, d1, a2, d2, a3, d3, rfl⟩ := hN.form
      have hN := NR.retext (s := s) hN (by have : s.length ≤ 65536 := HE.out.2.2; omega)
      have hb := R8.box #[.int .u8 (x.kind : Int), .string (tx x.text), .slice a1 x.l.len d1, .slice a2 x.body.len d2, .slice a3 x.els.len d3]
      obtain ⟨b6, hb6⟩ : ∃ b6, b6 = w8.heap.size := ⟨_, rfl⟩
      obtain ⟨w9, hw9⟩ : ∃ w9, w9 = w8.alloc (.cells #[.int .u8 (x.kind : Int), .string (tx x.text), .slice a1 x.l.len d1, .slice a2 x.body.len d2, .slice a3 x.els.len d3] TN) := ⟨_, rfl⟩
      rw [← hw9] at hb
      have hcb : c < b6 := by have := R8.lt; omega
      have hrow9 : w9.heap[b6]? = _ := hb6 ▸ hb.2.1
      have hp9 : Put w9 (w9.setCell ⟨b6, 1, none⟩ (.string (bs s))) b6 #[.int .u8 (x.kind : Int), .string (bs s), .slice a1 x.l.len d1, .slice a2 x.body.len d2, .slice a3 x.els.len d3] TN := Put.one hrow9 1 _
      have hN9 : NS w9 TN (fun b => c < b ∧ b < b6) _ _ := NS.later (hN.ns (S := fun b => c < b ∧ b < b6) fun b q1 q2 => by have := X7.out.1.lt; omega) hb.2.2
      have hN10 := NS.frame hN9 (fun b hb' _ => hp9.oth b (by omega))
      have R10 := hb.1.put hp9 hcb
      have h10 := (h8.later hb.2.2).put hp9 (by have := R8.hrb; omega)
      obtain ⟨x0, x1, x2, x3, x4, f0', f1', f2', f3', f4'⟩ := row5 hrow9
      obtain ⟨w10, hw10⟩ : ∃ w10, w10 = w9.setCell ⟨b6, 1, none⟩ (.string (bs s)) := ⟨_, rfl⟩
      have hrow10 := hp9.row
      rw [← hw10] at R10 h10 hN10 hrow10
      obtain ⟨z0, z1, z2, z3, z4, _, _, _, _, _⟩ := row5 hrow10
      obtain ⟨y0, y1, y2, y3, y4, g0, g1, g2, g3, g4⟩ := row5 R10.row
      have X10 := Lib.hid (And.intro R10 (And.intro h10 (And.intro hN10 hrd)))
      clear hp9 hN9 hN10 R10 h10 hrow9 hrow10 hb hcb hs8 h8 R8 hN hrd c1 f1
      go_upto_region 12 with fail
      rw [← hw9, ← hb6]
      clear hw9 hb6
      go_upto_region 13 with fail
      rw [← hw10]
      clear hw10 x0 x1 x2 x3 x4 f0' f1' f2' f3' f4'
      go_wp2_with fail
      have hp := put5 X10.out.1.row (.int .u8 (x.kind : Int)) (.string (bs s)) (.slice a1 x.l.len d1) (.slice a2 x.body.len d2) (.slice a3 x.els.len d3)
      refine bodyPost_ret (results_cell1 rfl _ _ _ rfl (nodeVar _ c _ _ _ _ _ hp.row)) rfl ?_
      rw [ends_text, X10.out.2.2.2]
      exact X10.out.1.fin (x := { x with text := s }) X10.out.2.1 X10.out.2.2.1 (fun _ h => h.1) hp
end Go.Proofs.YtmkhfonafcikdaaGreatDoor

/- Trees: the reader: statements as a whole. -/
namespace Go.Proofs.YtmkhfonafcikdaaGreatDoor
open Go.RowKit Go.My Go.Nd

theorem Reads.less {fn : FuncId} {args : Array Value} {rb : Nat} {tv : Value} {xs : List To.T} {inn : Bool} {K : World → Prop} {n m : Nat} {read : List Tx → R Nd} (h : Reads fn args rb tv xs inn K n read) (hm : m ≤ n) : Reads fn args rb tv xs inn K m read :=
  fun w ts hl hk hr => h w ts (Nat.le_trans hl hm) hk hr
theorem readsB_of {rb : Nat} {tv : Value} {xs : List To.T} {inn : Bool} {n : Nat} (h : Reads 160 #[.pointer (some ⟨rb, 0, none⟩)] rb tv xs inn (fun _ => True) n (stm inn)) : ReadsB rb tv xs inn n :=
  fun _ _ hl hr => block_r h (Nat.le_trans hl (Nat.le_succ _)) hr

theorem rowsF_if (rb : Nat) (inn : Bool) : rowsF rb inn [105, 102] = some (rdFn rb 183) := by
  unfold rowsF; rw [if_neg (fun e => absurd e.2 (by decide)), if_neg (by decide), if_neg (by decide), if_pos rfl]
theorem rowsF_while (rb : Nat) (inn : Bool) : rowsF rb inn [119, 104, 105, 108, 101] = some (rdFn rb 184) := by
  unfold rowsF; rw [if_neg (fun e => absurd e.2 (by decide)), if_neg (by decide), if_pos rfl]
theorem rowsF_tell (rb : Nat) (inn : Bool) : rowsF rb inn [116, 101, 108, 108] = some (rdFn rb 185) := by
  unfold rowsF; rw [if_neg (fun e => absurd e.2 (by decide)), if_pos rfl]
theorem rowsF_return (rb : Nat) : rowsF rb true [114, 101, 116, 117, 114, 110] = some (rdFn rb 186) := by
  unfold rowsF; rw [if_pos ⟨rfl, rfl⟩]
set_option maxRecDepth 100000 in
theorem stm_step {rb : Nat} {tv : Value} {xs : List To.T} {inn : Bool} {w : World} {ts : List Tx} (ih : ∀ s r, ts = s :: r → Reads 160 #[.pointer (some ⟨rb, 0, none⟩)] rb tv xs inn (fun _ => True) r.length (stm inn)) (h : Rd w rb tv xs ts inn) :
    Calls Tryz.prog 160 #[.pointer (some ⟨rb, 0, none⟩)] w (Got w rb tv xs inn (stm inn ts)) := by
  cases ts with
  | nil =>
    rw [stm_nil]
    exact stmt_do (rowsF_nil rb inn) (.inl (by decide)) h
  | cons s r =>
    have hs := readsB_of (ih s r rfl)
    rw [stm_cons]
    by_cases h1 : s = [105, 102]
    · subst h1
      rw [if_pos rfl]
      exact stmt_row (rowsF_if rb inn) (fun _ => rfl) (fun w hr => branch_r hs (Nat.le_refl _) hr) h
    · rw [if_neg h1]
      by_cases h2 : s = [119, 104, 105, 108, 101]
      · subst h2
        rw [if_pos rfl]
        exact stmt_row (rowsF_while rb inn) (fun _ => rfl) (fun w hr => loop_r hs (Nat.le_refl _) hr) h
      · rw [if_neg h2]
        by_cases h3 : s = [116, 101, 108, 108]
        · subst h3
          rw [if_pos rfl]
          exact stmt_row (rowsF_tell rb inn) (fun _ => rfl) (fun w hr => tell_t hr) h
        · rw [if_neg h3]
          by_cases h4 : (inn && s == [114, 101, 116, 117, 114, 110]) = true
          · rw [if_pos h4]
            simp only [Bool.and_eq_true, beq_iff_eq] at h4
            obtain ⟨rfl, rfl⟩ := h4
            exact stmt_row (rowsF_return rb) (fun _ => rfl) (fun w hr => answer_t hr) h
          · rw [if_neg h4]
            have hrow : rowsF rb inn s = none := by
              unfold rowsF
              rw [if_neg (by intro e; exact h4 (by simp [e.1, e.2])), if_neg h3, if_neg h2, if_neg h1]
            cases r with
            | nil => exact stmt_do hrow (.inr (by simp)) h
            | cons p r =>
              simp only
              by_cases h5 : (To.name s && p == [61]) = true
              · rw [if_pos h5]
                simp only [Bool.and_eq_true, beq_iff_eq] at h5
                obtain ⟨h5, rfl⟩ := h5
                exact stmt_let hrow h5 h
              · rw [if_neg h5]
                refine stmt_do hrow ?_ h
                cases h6 : To.name s with
                | false => exact .inl h6
                | true => exact .inr (by intro e; exact h5 (by rw [h6]; simpa using e))

/-- STATEMENTS. -/
theorem stm_r {rb : Nat} {tv : Value} {xs : List To.T} {inn : Bool} : ∀ n, Reads 160 #[.pointer (some ⟨rb, 0, none⟩)] rb tv xs inn (fun _ => True) n (stm inn) := by
  intro n
  induction n with
  | zero =>
    intro w ts hn _ h
    have : ts = [] := List.eq_nil_of_length_eq_zero (by omega)
    subst this
    exact stm_step (fun s r e => by cases e) h
  | succ n ih =>
    intro w ts hn _ h
    refine stm_step (fun s r e => ?_) h
    subst e
    exact ih.less (by rw [List.length_cons] at hn; omega)
theorem stm_t {rb : Nat} {tv : Value} {xs : List To.T} {inn : Bool} {w : World} {ts : List Tx} (h : Rd w rb tv xs ts inn) : Calls Tryz.prog 160 #[.pointer (some ⟨rb, 0, none⟩)] w (Got w rb tv xs inn (stm inn ts)) :=
  stm_r ts.length w ts (Nat.le_refl _) trivial h
theorem block_t {rb : Nat} {tv : Value} {xs : List To.T} {inn : Bool} {w : World} {ts : List Tx} (h : Rd w rb tv xs ts inn) : Calls Tryz.prog 182 #[.pointer (some ⟨rb, 0, none⟩)] w (GotL w rb tv xs inn (block (stm inn) ts)) :=
  block_r (stm_r ts.length) (Nat.le_succ _) h
end Go.Proofs.YtmkhfonafcikdaaGreatDoor

/- Trees: the reader: texts in new memory; several names. -/
namespace Go.Proofs.YtmkhfonafcikdaaGreatDoor
open Go.RowKit Go.My Go.Nd

abbrev TS : TypeId := 9
theorem strEl : Elem Tryz.prog 32 9 1 16 (.string ⟨#[]⟩) := Elem.mk' Tryz.underlying32 (by kernel_rfl) rfl (by decide)

/-- A list of texts; F: its block. -/
def TF (w : World) (F : List Nat) (v : Value) (l : List Tx) : Prop := ∃ k, F = k.toList ∧ Go.My.Own w TS 1 v l.length (l.map fun t => .string (tx t)) k ∧ l.length * 16 ≤ 140737488351232 ∧ ∀ t ∈ l, t.length ≤ 140737488351232
def TR (w : World) (lo hi : Nat) (v : Value) (l : List Tx) : Prop := ∃ F, TF w F v l ∧ InR lo hi F

theorem TF.frame {w w' : World} {F : List Nat} {v : Value} {l : List Tx} (h : TF w F v l) (hs : ∀ b ∈ F, w'.heap[b]? = w.heap[b]?) : TF w' F v l := by
  obtain ⟨k, rfl, h1, h2⟩ := h
  exact ⟨k, rfl, h1.frame fun b hb => hs b (by subst hb; simp), h2⟩
theorem TR.frame {w w' : World} {lo hi : Nat} {v : Value} {l : List Tx} (h : TR w lo hi v l) (hs : ∀ b, lo ≤ b → b < hi → w'.heap[b]? = w.heap[b]?) : TR w' lo hi v l := by
  obtain ⟨F, h1, h2⟩ := h
  exact ⟨F, h1.frame fun b hb => hs b (h2.2 b hb).1 (h2.2 b hb).2, h2⟩
theorem TR.mono {w : World} {lo hi lo' hi' : Nat} {v : Value} {l : List Tx} (h : TR w lo hi v l) (h1 : lo' ≤ lo) (h2 : hi ≤ hi') : TR w lo' hi' v l := by obtain ⟨F, k1, k2⟩ := h; exact ⟨F, k1, k2.mono h1 h2⟩
theorem TR.nil (w : World) (lo hi : Nat) : TR w lo hi (.slice none 0 0) [] := ⟨[], ⟨none, rfl, Go.My.Own.nil w TS 1, Nat.zero_le _, fun _ h => by cases h⟩, InR.nil _ _⟩
theorem TR.form {w : World} {lo hi : Nat} {v : Value} {l : List Tx} (h : TR w lo hi v l) : ∃ a c, v = .slice a l.length c := by obtain ⟨F, ⟨k, _, h, _⟩, _⟩ := h; exact own_form h
theorem TR.later {w w' : World} {lo hi : Nat} {v : Value} {l : List Tx} (h : TR w lo hi v l) (hb : Below w.heap.size w w') (hh : hi ≤ w.heap.size) : TR w' lo hi v l := h.frame fun b _ hb' => hb.block b (by omega)
theorem TR.kept {w w' : World} {rb lo hi : Nat} {v : Value} {l : List Tx} (h : TR w lo hi v l) (hs : Step w w' (some rb)) (hrb : rb < lo) (hh : hi ≤ w.heap.size) : TR w' lo hi v l := h.frame fun b h1 h2 => hs.kept (by omega) (by omega)

theorem TF.texts {w : World} {S : Nat → Prop} {F : List Nat} {v : Value} {l : List Tx} (h : TF w F v l) (hS : ∀ b ∈ F, S b) : TextsIn w S false v l := by
  obtain ⟨k, rfl, ho, h3, h4⟩ := h
  obtain ⟨h1, h2⟩ := ho
  rcases h2 with ⟨rfl, h0, _⟩ | ⟨b, off, cap, cur, rfl, rfl, hh, h5, h6, h7, h8⟩
  · have : l = [] := List.eq_nil_of_length_eq_zero h0
    subst this
    exact ⟨none, 0, rfl, Nat.le_refl _, Nat.zero_le _, Nat.zero_le _, fun e => (by cases e), fun i hi => absurd hi (Nat.not_lt_zero _)⟩
  · refine ⟨_, cap, rfl, h5, h6, h3, fun e => (by cases e), fun i hi => ⟨b, off, rfl, hS b (by simp), ?_, h4 _ (List.getElem_mem hi)⟩⟩
    have hj : i < l.length * 1 := by omega
    have : (l.map fun t => Value.string (tx t))[i]? = some (.string (tx l[i])) := by simp [hi]
    rw [cell_of_row w b (off + i) cur TS (0, 0) hh, ← this, ← h8, List.getElem?_take, List.getElem?_drop, if_pos hj]
    simp

/-- What a call that reads a text does. -/
def GotS (w : World) (rb : Nat) (tv : Value) (xs : List To.T) (inn : Bool) (r : R Tx) (e : Ending) (w' : World) : Prop :=
  Step w w' (some rb) ∧ Rd w' rb tv xs r.rest inn ∧ match r with | .ok s _ => e = .returned (.string (bs s)) ∧ s.length ≤ 65536 | .bad _ => e = .panicked wrongChain
def GotT (w : World) (rb : Nat) (tv : Value) (xs : List To.T) (inn : Bool) (r : R (List Tx)) (e : Ending) (w' : World) : Prop :=
  Step w w' (some rb) ∧ Rd w' rb tv xs r.rest inn ∧ match r with | .ok l _ => ∃ v, e = .returned v ∧ TR w' w.heap.size w'.heap.size v l | .bad _ => e = .panicked wrongChain

theorem name_g {w : World} {rb : Nat} {tv : Value} {xs : List To.T} {ts : List Tx} {inn : Bool} (h : Rd w rb tv xs ts inn) : Calls Tryz.prog 179 #[.pointer (some ⟨rb, 0, none⟩)] w (GotS w rb tv xs inn (nameOf ts)) := by
  cases ts with
  | nil => exact rname_no h (by decide) fun w' hb => ⟨Step.of_below hb, h.later hb, rfl⟩
  | cons s r =>
    have hl : s.length ≤ 65536 := h.short0 0
    cases hs : To.name s with
    | true =>
      refine rname_yes h hs fun w' hst h' => ?_
      rw [show nameOf (s :: r) = .ok s r by unfold nameOf; simp only; rw [if_pos hs]]
      exact ⟨hst, h', rfl, hl⟩
    | false =>
      refine rname_no h hs fun w' hb => ?_
      rw [show nameOf (s :: r) = .bad (s :: r) by unfold nameOf; simp only; rw [if_neg (by rw [hs]; decide)]]
      exact ⟨Step.of_below hb, h.later hb, rfl⟩

structure SvtSt (w : World) (rb : Nat) (tv : Value) (xs : List To.T) (inn : Bool) (m : Nat) (fin : Tx) (tot : R (List Tx)) (l : List Tx) (ts : List Tx) (v : Value) (wr : World) : Prop where
  plain : (sevTail fin nameOf ts).map (l ++ ·) = tot
  many : l.length + ts.length ≤ m
  step : Step w wr (some rb)
  rd : Rd wr rb tv xs ts inn
  list : TR wr w.heap.size wr.heap.size v l
def SvtAt (w : World) (rb : Nat) (tv : Value) (xs : List To.T) (inn : Bool) (m : Nat) (fin : Tx) (tot : R (List Tx)) (gk : Nat) (v : Value) (wr : World) : Prop :=
  ∃ l ts, gk = ts.length ∧ SvtSt w rb tv xs inn m fin tot l ts v wr

/-- One more, appended: what is so behind it. -/
theorem TR.app {w w' : World} {lo hi : Nat} {v v' : Value} {l : List Tx} {s : Tx} (hs : s.length ≤ 65536) (hn : (l.length + 1) * 16 ≤ 140737488351232) (h : TR w lo hi v l) (h1 : lo ≤ hi) (h2 : hi ≤ w.heap.size) :
    ∃ k, Go.My.Own w TS 1 v l.length (l.map fun t => .string (tx t)) k ∧ (∀ b, k = some b → lo ≤ b ∧ b < hi) ∧ ∀ k', Go.My.Own w' TS 1 v' (l.length + 1) ((l.map fun t => .string (tx t)) ++ [.string (bs s)]) k' → Step w w' k → (k' = k ∨ ∃ j, k' = some j ∧ w.heap.size ≤ j) → TR w' lo w'.heap.size v' (l ++ [s]) := by
  obtain ⟨F, ⟨k, rfl, h3, h4, h5⟩, h6⟩ := h
  refine ⟨k, h3, fun b hb => h6.2 b (by subst hb; simp), fun k' ho st hk => ⟨k'.toList, ⟨k', rfl, by rw [List.length_append, List.map_append]; exact ho, by simpa using hn, fun t ht => ?_⟩, ?_⟩⟩
  · rcases List.mem_append.1 ht with ht | ht
    · exact h5 t ht
    · simp at ht; subst ht; omega
  · rcases hk with rfl | ⟨j, rfl, hj⟩
    · exact h6.mono (Nat.le_refl _) (Nat.le_trans h2 st.size)
    · exact InR.one.mono (by omega) (ho.lt j rfl)

theorem wpList_text (w : World) {ops : Array Oper} {rest : List Oper} {o : Oper} {a : Act} {Q : Exit → Act → World → Prop} (hgd : o.guard = none) (s x : Operand)
    (ho : o.op = .call { callee := .builtin .append, args := #[s, x], argTypes := #[32, 32] }) {v : Value} {l : List Tx} {lo hi : Nat} {y : Value} {u : Tx}
    (hs : a.eval s = v) (hown : TR w lo hi v l) (hu : u.length ≤ 65536) (hy : a.eval x = y) (hx : Src w 1 y 1 [.string (bs u)]) (h1 : lo ≤ hi) (h2 : hi ≤ w.heap.size) (hn : (l.length + 1) * 16 ≤ 140737488351232)
    (h : ∀ ao cap w', TR w' lo w'.heap.size (.slice ao (l.length + 1) cap) (l ++ [u]) → Below lo w w' → wpList Tryz.prog ops Q rest (a.put o.dst (.slice ao (l.length + 1) cap)) w') : wpList Tryz.prog ops Q (o :: rest) a w := by
  obtain ⟨k, ho', hk, _⟩ := TR.app (w' := w) (v' := v) hu hn hown h1 h2
  refine wpList_append w hgd s x ho strEl hs ho' hy hx (by simp [Value.oneCell']) (by simp only [maxLen]; omega) (by omega) fun v' w' k' q1 q2 q3 => ?_
  obtain ⟨ao, cap, rfl⟩ := own_form q1
  obtain ⟨k2, ho2, _, go⟩ := TR.app (w' := w') (v' := .slice ao (l.length + 1) cap) hu hn hown h1 h2
  have hkk : k2 = k := by
    obtain ⟨_, e1⟩ := ho'
    obtain ⟨_, e2⟩ := ho2
    rcases e1 with ⟨rfl, _, rfl⟩ | ⟨b, off, c, cur, rfl, rfl, _⟩ <;> rcases e2 with ⟨e, _, rfl⟩ | ⟨b', off', c', cur', e, rfl, _⟩
    · rfl
    · cases e
    · cases e
    · cases e; rfl
  subst hkk
  exact h ao cap w' (go k' q1 q2 q3) (q2.below (by have := h1; omega) fun b hb => (hk b hb).1)

theorem SvtSt.more {w : World} {rb : Nat} {tv : Value} {xs : List To.T} {inn : Bool} {m : Nat} {fin : Tx} {tot : R (List Tx)} {l : List Tx} {r q : List Tx} {x : Tx} {v v' : Value} {wr w4 w6 : World} (h : SvtSt w rb tv xs inn m fin tot l ([44] :: r) v wr) (hf : fin ≠ [44])
    (s4 : Step wr w4 (some rb)) (hrd : nameOf r = .ok x q) (h4 : Rd w4 rb tv xs q inn) (hrb : rb < w.heap.size) (hb : Below w.heap.size w4 w6) (hL : TR w6 w.heap.size w6.heap.size v' (l ++ [x])) : SvtSt w rb tv xs inn m fin tot (l ++ [x]) q v' w6 := by
  have hq := (nameOf_down r).lt hrd
  have h2 := h.many
  rw [List.length_cons] at h2
  have st6 : Step w w6 (some rb) := ⟨hb.os.trans (s4.os.trans h.step.os), hb.tape.trans (s4.tape.trans h.step.tape), hb.output.trans (s4.output.trans h.step.output), Nat.le_trans h.step.size (Nat.le_trans s4.size hb.size), fun k hk hk' => (hb.block k hk).trans ((s4.block k (Nat.lt_of_lt_of_le hk h.step.size) hk').trans (h.step.block k hk hk'))⟩
  refine ⟨?_, by rw [List.length_append, List.length_singleton]; omega, st6, h4.keep hb.size fun k hk => hb.block k (by omega), hL⟩
  rw [← h.plain, sevTail_comma nameOf_down hf, hrd]
  show _ = R.map _ (R.map _ _)
  rw [R.map_map]
  congr 1
  funext a
  simp

set_option maxRecDepth 100000 in
set_option maxHeartbeats 4000000 in
theorem sevt_t {rb : Nat} {tv : Value} {xs : List To.T} {inn : Bool} (fin : Tx) (hfin : fin ≠ []) (hf : fin ≠ [44]) {w : World} {ts : List Tx} (h : Rd w rb tv xs ts inn) :
    Calls Tryz.prog 181 #[.pointer (some ⟨rb, 0, none⟩), .string (bs fin), .func (.func 179) #[.pointer (some ⟨rb, 0, none⟩)] #[]] w (GotT w rb tv xs inn (several fin nameOf ts)) := by
  have hrb := h.lt
  have hle := h.le
  have hlen := h.len
  have H := Lib.hid (And.intro h (And.intro trivial (And.intro hrb (And.intro hle hlen))))
  have HF := Lib.hid (And.intro hfin hf)
  clear h hrb hle hlen hfin hf
  go_enter Tryz.func181, Tryz.ntmps181
  go_wp2_with fail
  by_cases hh : ts.head? = some fin
  · obtain ⟨r, rfl⟩ := head_form hh
    refine takes_yes H.out.1 HF.out.1 fun w1 hs1 h1 => ?_
    have X1 := Lib.hid (And.intro hs1 h1)
    clear hs1 h1 hh
    go_wp2_with fail
    go_ret
    rw [several_none]
    exact ⟨X1.out.1, X1.out.2, _, rfl, TR.nil _ _ _⟩
  · refine takes_no H.out.1 fin HF.out.1 hh fun w1 hb1 => ?_
    have HH := Lib.hid hh
    have X1 := Lib.hid hb1
    clear hh hb1
    go_wp2_with fail
    refine (name_g (H.out.1.later X1.out)).mono ?_
    rintro e w2 ⟨hs2, h2, hres⟩
    cases hrd : nameOf ts with
    | bad r =>
      rw [hrd] at hres h2
      subst hres
      go_wp2_with fail
      refine ⟨rfl, ?_⟩
      rw [several_first nameOf_down ts HH.out, hrd]
      exact ⟨(Step.of_below X1.out).trans hs2, h2, rfl⟩
    | ok x r =>
      rw [hrd] at hres h2
      obtain ⟨rfl, hxl⟩ := hres
      have hA := (Put.new w2 #[.string (bs x)] TS)
      have X2 := Lib.hid (And.intro hs2 (And.intro h2 (And.intro hrd (And.intro hA hxl))))
      clear hs2 h2 hrd hA hxl
      go_wp2_with (at_builtin; refine wpList_text _ rfl (.tmp 10) (.tmp 13) rfl (v := .slice none 0 0) (l := []) (lo := w.heap.size) (hi := w.heap.size) rfl (TR.nil _ _ _) X2.out.2.2.2.2 (y := .slice (some ⟨w2.heap.size, 0, none⟩) 1 1) rfl (Src.lit #[.string (bs x)] TS rfl rfl) (Nat.le_refl _) (Nat.le_trans (Nat.le_trans X1.out.size X2.out.1.size) X2.out.2.2.2.1.1.size) (by decide) ?_; intro ao cp w3 hL hB; have X3 := Lib.hid (And.intro hL hB); clear hL hB)
      have hst : SvtSt w rb tv xs inn ts.length fin (several fin nameOf ts) [x] r (.slice ao 1 cp) w3 := by
        have hq := (nameOf_down ts).lt X2.out.2.2.1
        have z1 := X1.out.size
        have z2 := X2.out.1.size
        have hrb := H.out.2.2.1
        have hB' := X3.out.2
        have zA := X2.out.2.2.2.1.2.2
        refine ⟨?_, by simp; omega, ?_, ((X2.out.2.1.later X2.out.2.2.2.1.1).keep hB'.size fun k hk => hB'.block k (by omega)), X3.out.1⟩
        · rw [several_first nameOf_down ts HH.out, X2.out.2.2.1]; rfl
        · have s2 := ((Step.of_below (row := some rb) X1.out).trans X2.out.1).trans (Step.of_below X2.out.2.2.2.1.1)
          exact ⟨hB'.os.trans s2.os, hB'.tape.trans s2.tape, hB'.output.trans s2.output, Nat.le_trans s2.size hB'.size, fun k hk hk' => (hB'.block k hk).trans (s2.block k hk hk')⟩
      have HS := Lib.hid hst
      clear hst X3 X2 X1 HH
      go_loopg [6] r.length (fun gk v6 wr => SvtAt w rb tv xs inn ts.length fin (several fin nameOf ts) gk v6 wr)
      case atStart => exact ⟨[x], r, rfl, HS.out⟩
      case round =>
        obtain ⟨l, ts1, rfl, hst⟩ := hrel
        obtain ⟨lo1, lc1, rfl⟩ := hst.list.form
        have HT := Lib.hid hst
        clear hst HS
        go_wp2_with fail
        by_cases hh : ts1.head? = some fin
        · obtain ⟨r1, rfl⟩ := head_form hh
          refine takes_yes HT.out.rd HF.out.1 fun w4 hs4 h4 => ?_
          have X4 := Lib.hid (And.intro hs4 h4)
          clear hs4 h4 hh
          go_wp2_with fail
          go_ret
          have hpl := HT.out.plain
          rw [show sevTail fin nameOf (fin :: r1) = .ok [] r1 by unfold sevTail; simp only; rw [if_pos trivial]] at hpl
          rw [← hpl]
          show GotT w rb tv xs inn (.ok (l ++ []) r1) _ _
          rw [List.append_nil]
          exact ⟨HT.out.step.trans X4.out.1, X4.out.2, _, rfl, TR.mono (TR.kept HT.out.list X4.out.1 H.out.2.2.1 (Nat.le_refl _)) (Nat.le_refl _) X4.out.1.size⟩
        · refine takes_no HT.out.rd fin HF.out.1 hh fun w4 hb4 => ?_
          have HH := Lib.hid hh
          have X4 := Lib.hid hb4
          clear hh hb4
          go_wp2_with fail
          by_cases hc : ts1.head? = some [44]
          · obtain ⟨r1, rfl⟩ := head_form hc
            refine takes_yes (HT.out.rd.later X4.out) (by decide) fun w5 hs5 h5 => ?_
            have X5 := Lib.hid (And.intro hs5 h5)
            clear hs5 h5 hc
            go_wp2_with (refine must_yes ?_)
            refine (name_g X5.out.2).mono ?_
            rintro e w6 ⟨hs6, h6, hres⟩
            have st6 := ((Step.of_below (row := some rb) X4.out).trans X5.out.1).trans hs6
            cases hrd : nameOf r1 with
            | bad q =>
              rw [hrd] at hres h6
              subst hres
              have X6 := Lib.hid (And.intro st6 (And.intro h6 hrd))
              clear st6 h6 hs6 hrd
              go_wp2_with fail
              refine ⟨rfl, ?_⟩
              rw [← HT.out.plain, sevTail_comma nameOf_down HF.out.2, X6.out.2.2]
              exact ⟨HT.out.step.trans X6.out.1, X6.out.2.1, rfl⟩
            | ok y q =>
              rw [hrd] at hres h6
              obtain ⟨rfl, hyl⟩ := hres
              have hA := (Put.new w6 #[.string (bs y)] TS)
              have hL7 := (TR.kept HT.out.list st6 H.out.2.2.1 (Nat.le_refl _)).later hA.1 st6.size
              have X6 := Lib.hid (And.intro st6 (And.intro h6 (And.intro hrd (And.intro hA (And.intro hyl hL7)))))
              have hm : (l.length + 1) * 16 ≤ 140737488351232 := by have := HT.out.many; have := H.out.2.2.2.1; have := H.out.2.2.2.2; rw [List.length_cons] at *; omega
              have HM := Lib.hid hm
              clear st6 h6 hs6 hrd hA hL7 hm hyl
              go_wp2_with (at_builtin; refine wpList_text _ rfl (.tmp 19) (.tmp 22) rfl (v := .slice lo1 l.length lc1) (l := l) (lo := w.heap.size) (hi := wr.heap.size) rfl X6.out.2.2.2.2.2 X6.out.2.2.2.2.1 (y := .slice (some ⟨w6.heap.size, 0, none⟩) 1 1) rfl (Src.lit #[.string (bs y)] TS rfl rfl) HT.out.step.size (Nat.le_trans X6.out.1.size X6.out.2.2.2.1.1.size) HM.out ?_; intro ao cp w7 hL hB; have X7 := Lib.hid (And.intro hL hB); clear hL hB)
              go_roundg q.length
              case measure => have := (nameOf_down r1).lt X6.out.2.2.1; rw [List.length_cons]; omega
              case rel => exact ⟨l ++ [y], q, rfl, HT.out.more HF.out.2 X6.out.1 X6.out.2.2.1 X6.out.2.1 H.out.2.2.1 ((X6.out.2.2.2.1.1.mono (Nat.le_trans HT.out.step.size X6.out.1.size)).trans X7.out.2) X7.out.1⟩
          · refine takes_no (HT.out.rd.later X4.out) [44] (by decide) hc fun w5 hb5 => ?_
            have X5 := Lib.hid (And.intro hc hb5)
            clear hc hb5
            go_wp2_with (refine must_no ?_)
            refine ⟨rfl, ?_⟩
            rw [← HT.out.plain, sevTail_bad ts1 HH.out X5.out.1]
            exact ⟨HT.out.step.trans (Step.of_below (X4.out.trans (X5.out.2.mono X4.out.size))), (HT.out.rd.later X4.out).later X5.out.2, rfl⟩
end Go.Proofs.YtmkhfonafcikdaaGreatDoor

/- Trees: the reader: a function. -/
namespace Go.Proofs.YtmkhfonafcikdaaGreatDoor
open Go.RowKit Go.My Go.Nd

abbrev TFn : TypeId := 57

/-- A function's cells, and its blocks. -/
structure FV where
  f : Nd.Fn
  va : Value
  vb : Value
  F1 : List Nat
  F2 : List Nat
def FV.cells (x : FV) : List Value := [.string (tx x.f.name), x.va, x.vb]
structure FV.Ok (w : World) (x : FV) : Prop where
  name : x.f.name.length ≤ 140737488351232
  args : TF w x.F1 x.va x.f.args
  body : LF w TN x.F2 x.vb x.f.body
def FR (w : World) (lo hi : Nat) (v : Value) (f : Nd.Fn) : Prop := ∃ x : FV, v = .agg x.cells.toArray ∧ x.Ok w ∧ x.f = f ∧ InR lo hi (x.F1 ++ x.F2)

theorem FV.Ok.frame {w w' : World} {x : FV} (h : x.Ok w) (hs : ∀ b ∈ x.F1 ++ x.F2, w'.heap[b]? = w.heap[b]?) : x.Ok w' :=
  ⟨h.name, h.args.frame fun b hb => hs b (List.mem_append_left _ hb), h.body.frame fun b hb => hs b (List.mem_append_right _ hb)⟩
theorem FR.frame {w w' : World} {lo hi : Nat} {v : Value} {f : Nd.Fn} (h : FR w lo hi v f) (hs : ∀ b, lo ≤ b → b < hi → w'.heap[b]? = w.heap[b]?) : FR w' lo hi v f := by
  obtain ⟨x, h0, h1, h2, h3⟩ := h
  exact ⟨x, h0, h1.frame fun b hb => hs b (h3.2 b hb).1 (h3.2 b hb).2, h2, h3⟩
theorem FR.mono {w : World} {lo hi lo' hi' : Nat} {v : Value} {f : Nd.Fn} (h : FR w lo hi v f) (h1 : lo' ≤ lo) (h2 : hi ≤ hi') : FR w lo' hi' v f := by
  obtain ⟨x, k0, k1, k2, k3⟩ := h; exact ⟨x, k0, k1, k2, k3.mono h1 h2⟩
theorem FR.later {w w' : World} {lo hi : Nat} {v : Value} {f : Nd.Fn} (h : FR w lo hi v f) (hb : Below w.heap.size w w') (hh : hi ≤ w.heap.size) : FR w' lo hi v f := h.frame fun b _ hb' => hb.block b (by omega)
theorem FR.mk {w : World} {lo m hi : Nat} {n : Tx} {ar : List Tx} {b : Ns} {va vb : Value} (hn : n.length ≤ 65536) (h1 : TR w lo m va ar) (h2 : LR w TN m hi vb b) (l1 : lo ≤ m) (l2 : m ≤ hi) : FR w lo hi (.agg #[.string (bs n), va, vb]) ⟨n, ar, b⟩ := by
  obtain ⟨F1, k1, r1⟩ := h1
  obtain ⟨F2, k2, r2⟩ := h2
  exact ⟨⟨⟨n, ar, b⟩, va, vb, F1, F2⟩, rfl, ⟨show n.length ≤ _ by omega, k1, k2⟩, rfl, r1.app r2 l1 l2⟩

theorem must_hit {α : Type} (s : Tx) (x : α) (q : List Tx) : must s x (s :: q) = .ok x q := by unfold must; simp only; rw [if_pos trivial]
theorem must_miss {α : Type} (s : Tx) (x : α) (q : List Tx) (h : q.head? ≠ some s) : must s x q = .bad q := by
  cases q with
  | nil => rfl
  | cons s' q' => unfold must; simp only; rw [if_neg (by intro e; subst e; exact h rfl)]
theorem func_b1 {ts q : List Tx} (h : nameOf ts = .bad q) : func ts = .bad q := by rw [func_is, h]; rfl
theorem func_b2 {ts q : List Tx} {s : Tx} (h : nameOf ts = .ok s q) (h2 : q.head? ≠ some [40]) : func ts = .bad q := by
  rw [func_is, h]
  simp only [R.then_, must_miss _ _ _ h2]
theorem func_3 {ts q : List Tx} {s : Tx} (h : nameOf ts = .ok s ([40] :: q)) : func ts = (several [41] nameOf q).then_ fun l r2 => (block (stm true) r2).map fun b => ⟨s, l, Ns.of b⟩ := by
  rw [func_is, h]
  simp only [R.then_, must_hit]
theorem func_b3 {ts q u : List Tx} {s : Tx} (h : nameOf ts = .ok s ([40] :: q)) (h2 : several [41] nameOf q = .bad u) : func ts = .bad u := by rw [func_3 h, h2]; rfl
theorem func_4 {ts q u : List Tx} {s : Tx} {l : List Tx} (h : nameOf ts = .ok s ([40] :: q)) (h2 : several [41] nameOf q = .ok l u) : func ts = (block (stm true) u).map fun b => ⟨s, l, Ns.of b⟩ := by rw [func_3 h, h2]; rfl

/-- What a call that reads a function does. -/
def GotF (w : World) (rb : Nat) (tv : Value) (xs : List To.T) (r : R Nd.Fn) (e : Ending) (w' : World) : Prop :=
  Step w w' (some rb) ∧ match r with | .ok f q => Rd w' rb tv xs q false ∧ ∃ v, e = .returned v ∧ FR w' w.heap.size w'.heap.size v f | .bad q => (∃ inn, Rd w' rb tv xs q inn) ∧ e = .panicked wrongChain

/-- In the middle: the result's cell c. -/
structure RF (w : World) (rb c : Nat) (w1 : World) : Prop where
  hc : c = w.heap.size
  hrb : rb < c
  st : Step w w1 (some rb)
  row : w1.heap[c]? = some (.cells #[.string ⟨#[]⟩, .slice none 0 0, .slice none 0 0] TFn (0, 0))
theorem RF.start {w : World} {rb : Nat} (h : rb < w.heap.size) : RF w rb w.heap.size (w.alloc (.cells #[.string ⟨#[]⟩, .slice none 0 0, .slice none 0 0] TFn)) :=
  ⟨rfl, h, Step.of_below (Put.new w _ TFn).1, (Put.new w _ TFn).2.1⟩
theorem RF.lt {w : World} {rb c : Nat} {w1 : World} (h : RF w rb c w1) : c < w1.heap.size := heap_lt h.row
theorem RF.step {w : World} {rb c : Nat} {w1 w2 : World} (h : RF w rb c w1) (hs : Step w1 w2 (some rb)) : RF w rb c w2 :=
  ⟨h.hc, h.hrb, h.st.trans hs, (hs.kept h.lt (Nat.ne_of_gt h.hrb)).trans h.row⟩
theorem RF.below {w : World} {rb c : Nat} {w1 w2 : World} (h : RF w rb c w1) (hs : Below w1.heap.size w1 w2) : RF w rb c w2 := h.step (Step.of_below hs)
theorem RF.put {w : World} {rb c : Nat} {w1 w2 : World} {b : Nat} {cs : Array Value} {T : TypeId} (h : RF w rb c w1) (hp : Put w1 w2 b cs T) (hb : c < b) : RF w rb c w2 :=
  ⟨h.hc, h.hrb, h.st.put hp (by have := h.hc; omega), (hp.oth c (by omega)).trans h.row⟩
theorem RF.bad {w : World} {rb c : Nat} {w1 : World} {tv : Value} {xs : List To.T} {inn : Bool} {r : List Tx} (h : RF w rb c w1) (h1 : Rd w1 rb tv xs r inn) : GotF w rb tv xs (.bad r) (.panicked wrongChain) w1 := ⟨h.st, ⟨_, h1⟩, rfl⟩

theorem fnVar (w : World) (c : Nat) (v0 v1 v2 : Value) (h : w.heap[c]? = some (.cells #[v0, v1, v2] TFn (0, 0))) : (loadVar 57 ⟨c, 0, none⟩).run Tryz.prog w = .ok (.agg #[v0, v1, v2]) w := by
  have c0 := cell_of_row w c 0 _ _ _ h
  have c1 := cell_of_row w c 1 _ _ _ h
  have c2 := cell_of_row w c 2 _ _ _ h
  simp at c0 c1 c2
  simp [loadVar, go_sem, c0, c1, c2]
theorem row3 {w : World} {c : Nat} {v0 v1 v2 : Value} {T : TypeId} (h : w.heap[c]? = some (.cells #[v0, v1, v2] T (0, 0))) :
    w.cell? ⟨c, 0, none⟩ = some v0 ∧ w.cell? ⟨c, 1, none⟩ = some v1 ∧ w.cell? ⟨c, 2, none⟩ = some v2 ∧ w.frozen? ⟨c, 0, none⟩ = false ∧ w.frozen? ⟨c, 1, none⟩ = false ∧ w.frozen? ⟨c, 2, none⟩ = false :=
  ⟨cell_of_row w c 0 _ _ _ h, cell_of_row w c 1 _ _ _ h, cell_of_row w c 2 _ _ _ h, frozen_of_row w c 0 _ _ h, frozen_of_row w c 1 _ _ h, frozen_of_row w c 2 _ _ h⟩
theorem Rd.set {w : World} {rb : Nat} {tv : Value} {xs : List To.T} {ts : List Tx} {inn : Bool} (h : Rd w rb tv xs ts inn) (b : Bool) :
    Put w (w.setCell ⟨rb, 2, none⟩ (.bool b)) rb #[tv, .int .i64 ((xs.length - ts.length : Nat) : Int), .bool b] 188 ∧ Rd (w.setCell ⟨rb, 2, none⟩ (.bool b)) rb tv xs ts b := by
  have hp : Put w (w.setCell ⟨rb, 2, none⟩ (.bool b)) rb #[tv, .int .i64 ((xs.length - ts.length : Nat) : Int), .bool b] 188 := Put.one h.row 2 _
  exact ⟨hp, hp.row, h.suf, h.toks.frame (by rw [hp.size]; exact Nat.le_refl _) fun b hb _ => hp.oth b (Nat.ne_of_lt hb), h.len, h.short⟩
theorem Put.stepRb {w w' : World} {rb : Nat} {cs : Array Value} {T : TypeId} (h : Put w w' rb cs T) : Step w w' (some rb) := h.step

set_option maxRecDepth 100000 in
set_option maxHeartbeats 4000000 in
theorem func_t {rb : Nat} {tv : Value} {xs : List To.T} {w : World} {ts : List Tx} (h : Rd w rb tv xs ts false) :
    Calls Tryz.prog 159 #[.pointer (some ⟨rb, 0, none⟩)] w (GotF w rb tv xs (func ts)) := by
  have R0 := RF.start h.lt
  have h0 := h.later (Put.new w #[.string ⟨#[]⟩, .slice none 0 0, .slice none 0 0] TFn).1
  obtain ⟨c, hc⟩ : ∃ c, c = w.heap.size := ⟨_, rfl⟩
  obtain ⟨wA, hwA⟩ : ∃ wA, wA = w.alloc (.cells #[.string ⟨#[]⟩, .slice none 0 0, .slice none 0 0] TFn) := ⟨_, rfl⟩
  rw [← hwA] at R0 h0
  rw [← hc] at R0
  have X0 := Lib.hid (And.intro R0 h0)
  clear h R0 h0
  go_enter Tryz.func159, Tryz.ntmps159
  go_upto_region 1 with fail
  rw [← hwA, ← hc]
  clear hwA hc
  go_wp2_with fail
  refine (name_g X0.out.2).mono ?_
  rintro e w1 ⟨hs1, h1, hres⟩
  cases hrd : nameOf ts with
  | bad q =>
    rw [hrd] at hres h1
    subst hres
    have X1 := Lib.hid (And.intro (X0.out.1.step hs1) (And.intro h1 hrd))
    clear hs1 h1 hrd
    go_wp2_with fail
    refine ⟨rfl, ?_⟩
    rw [func_b1 X1.out.2.2]
    exact X1.out.1.bad X1.out.2.1
  | ok s q =>
    rw [hrd] at hres h1
    obtain ⟨rfl, hsl⟩ := hres
    have hA := Put.new w1 #[.string (bs s), .slice none 0 0, .slice none 0 0] TFn
    obtain ⟨b3, hb3⟩ : ∃ b3, b3 = w1.heap.size := ⟨_, rfl⟩
    obtain ⟨w2, hw2⟩ : ∃ w2, w2 = w1.alloc (.cells #[.string (bs s), .slice none 0 0, .slice none 0 0] TFn) := ⟨_, rfl⟩
    rw [← hw2, ← hb3] at hA
    have hA1 := hA.1
    rw [hb3] at hA1
    have X2 := Lib.hid (And.intro (X0.out.1.step (hs1.trans (Step.of_below hA1))) (And.intro hA.2.1 (And.intro (h1.later hA1) (And.intro hrd (And.intro hsl (show c < b3 by have := X0.out.1.lt; have := hs1.size; omega))))))
    clear hA hA1 hs1 h1 hrd hsl
    go_upto_region 2 with fail
    rw [← hw2, ← hb3]
    clear hw2 hb3
    go_wp2_with fail
    by_cases hh : q.head? = some [40]
    · obtain ⟨q1, rfl⟩ := head_form hh
      refine takes_yes X2.out.2.2.1 (by decide) fun w3 hs3 h3 => ?_
      have hcb := X2.out.2.2.2.2.2
      have hrb := X2.out.1.hrb
      have X3 := Lib.hid (And.intro (X2.out.1.step hs3) (And.intro ((hs3.kept (heap_lt X2.out.2.1) (by omega)).trans X2.out.2.1) h3))
      clear hs3 h3 hh hcb hrb
      go_wp2_with (refine must_yes ?_)
      refine (sevt_t [41] (by decide) (by decide) X3.out.2.2).mono ?_
      rintro e w4 ⟨hs4, h4, hres⟩
      cases hrd : several [41] nameOf q1 with
      | bad u =>
        rw [hrd] at hres h4
        subst hres
        have X4 := Lib.hid (And.intro (X3.out.1.step hs4) (And.intro h4 hrd))
        clear hs4 h4 hrd
        go_wp2_with fail
        refine ⟨rfl, ?_⟩
        rw [func_b3 X2.out.2.2.2.1 X4.out.2.2]
        exact X4.out.1.bad X4.out.2.1
      | ok l u =>
        rw [hrd] at hres h4
        obtain ⟨v, rfl, hL⟩ := hres
        obtain ⟨a1, d1, rfl⟩ := hL.form
        have hcb := X2.out.2.2.2.2.2
        have hrb := X2.out.1.hrb
        have R4 := X3.out.1.step hs4
        have row4 := (hs4.kept (heap_lt X3.out.2.1) (by omega)).trans X3.out.2.1
        obtain ⟨x0, x1, x2, f0, f1, f2⟩ := row3 row4
        have hp5 : Put w4 (w4.setCell ⟨b3, 1, none⟩ (.slice a1 l.length d1)) b3 #[.string (bs s), .slice a1 l.length d1, .slice none 0 0] TFn := Put.one row4 1 _
        have hb3lt := heap_lt X3.out.2.1
        have hL5 : TR (w4.setCell ⟨b3, 1, none⟩ (.slice a1 l.length d1)) w3.heap.size w4.heap.size (.slice a1 l.length d1) l := hL.frame fun b q1 _ => hp5.oth b (by omega)
        have R5 := R4.put hp5 hcb
        have h5 := h4.put hp5 (by omega)
        obtain ⟨w5, hw5⟩ : ∃ w5, w5 = w4.setCell ⟨b3, 1, none⟩ (.slice a1 l.length d1) := ⟨_, rfl⟩
        have hrow5 := hp5.row
        have hz5 := hp5.size
        rw [← hw5] at R5 h5 hrow5 hL5 hz5
        obtain ⟨hp6, h6⟩ := h5.set true
        have R6 := R5.step hp6.step
        have hrow6 := (hp6.oth b3 (by omega)).trans hrow5
        have hL6 := hL5.frame fun b q1 _ => hp6.oth b (by have := R5.lt; have := X3.out.1.lt; omega)
        have hz6 := hp6.size
        obtain ⟨_, _, k2, _, fk2⟩ := h5.cell
        obtain ⟨w6, hw6⟩ : ∃ w6, w6 = w5.setCell ⟨rb, 2, none⟩ (.bool true) := ⟨_, rfl⟩
        rw [← hw6] at h6 R6 hrow6 hL6 hz6
        have X6 := Lib.hid (And.intro R6 (And.intro h6 (And.intro hrow6 (And.intro hL6 (And.intro hrd (And.intro (show w3.heap.size ≤ w4.heap.size from hs4.size) (And.intro (show w6.heap.size = w4.heap.size by omega) (show b3 < w3.heap.size from hb3lt))))))))
        clear R4 row4 hp5 hb3lt hL5 R5 h5 hrow5 hz5 hp6 h6 R6 hrow6 hL6 hz6 hs4 h4 hrd hL hcb hrb
        go_upto_region 4 with fail
        rw [← hw5]
        clear hw5 x0 x1 x2 f0 f1 f2
        go_upto_region 5 with fail
        rw [← hw6]
        clear hw6 k2 fk2
        go_wp2_with fail
        refine (block_t (ts := u) X6.out.2.1).mono ?_
        rintro e w7 ⟨hs7, h7, hres⟩
        cases hrd : block (stm true) u with
        | bad z =>
          rw [hrd] at hres h7
          subst hres
          have X7 := Lib.hid (And.intro (X6.out.1.step hs7) (And.intro h7 hrd))
          clear hs7 h7 hrd
          go_wp2_with fail
          refine ⟨rfl, ?_⟩
          rw [func_4 X2.out.2.2.2.1 X6.out.2.2.2.2.1, X7.out.2.2]
          exact X7.out.1.bad X7.out.2.1
        | ok bl z =>
          rw [hrd] at hres h7
          obtain ⟨v, rfl, hM⟩ := hres
          obtain ⟨m1, e1, rfl⟩ := hM.form
          have hcb := X2.out.2.2.2.2.2
          have hrb := X2.out.1.hrb
          have hb3lt := X6.out.2.2.2.2.2.2.2
          have hz34 := X6.out.2.2.2.2.2.1
          have hz46 := X6.out.2.2.2.2.2.2.1
          have R7 := X6.out.1.step hs7
          have row7 := (hs7.kept (heap_lt X6.out.2.2.1) (by omega)).trans X6.out.2.2.1
          obtain ⟨x0, x1, x2, f0, f1, f2⟩ := row3 row7
          have hp8 : Put w7 (w7.setCell ⟨b3, 2, none⟩ (.slice m1 (Ns.of bl).len e1)) b3 #[.string (bs s), .slice a1 l.length d1, .slice m1 (Ns.of bl).len e1] TFn := Put.one row7 2 _
          have hc3 := X3.out.1.lt
          have A7 : TR w7 w3.heap.size w4.heap.size (.slice a1 l.length d1) l := X6.out.2.2.2.1.kept hs7 (by omega) (by omega)
          have A8 := A7.frame fun b q1 _ => hp8.oth b (by omega)
          have M8 := LR.frame hM fun b q1 _ => hp8.oth b (by omega)
          have R8 := R7.put hp8 hcb
          have h8 := h7.put hp8 (by omega)
          have hrow8 := hp8.row
          have hz8 := hp8.size
          obtain ⟨w8, hw8⟩ : ∃ w8, w8 = w7.setCell ⟨b3, 2, none⟩ (.slice m1 (Ns.of bl).len e1) := ⟨_, rfl⟩
          rw [← hw8] at A8 M8 R8 h8 hrow8 hz8
          obtain ⟨hp9, h9⟩ := h8.set false
          obtain ⟨_, _, k2, _, fk2⟩ := h8.cell
          have R9 := R8.step hp9.step
          have hrow9 := (hp9.oth b3 (by omega)).trans hrow8
          have A9 := A8.frame fun b q1 _ => hp9.oth b (by omega)
          have M9 := LR.frame M8 fun b q1 _ => hp9.oth b (by omega)
          have hz9 := hp9.size
          obtain ⟨w9, hw9⟩ : ∃ w9, w9 = w8.setCell ⟨rb, 2, none⟩ (.bool false) := ⟨_, rfl⟩
          rw [← hw9] at h9 R9 hrow9 A9 M9 hz9
          have hF9 : FR w9 (c + 1) w9.heap.size (.agg #[.string (bs s), .slice a1 l.length d1, .slice m1 (Ns.of bl).len e1]) ⟨s, l, Ns.of bl⟩ := FR.mk X2.out.2.2.2.2.1 (A9.mono (show c + 1 ≤ w3.heap.size by omega) (show w4.heap.size ≤ w6.heap.size by omega)) (M9.mono (Nat.le_refl _) (show w7.heap.size ≤ w9.heap.size by omega)) (by omega) (by have := hs7.size; omega)
          obtain ⟨y0, y1, y2, g0, g1, g2⟩ := row3 R9.row
          obtain ⟨z0, z1, z2, _, _, _⟩ := row3 hrow9
          have X9 := Lib.hid (And.intro R9 (And.intro h9 (And.intro hF9 hrd)))
          clear hcb hrb hb3lt hz34 hz46 R7 row7 hp8 A7 A8 M8 R8 h8 hrow8 hz8 hp9 h9 R9 hrow9 A9 M9 hz9 hF9 hrd hs7 h7 hM hc3
          go_upto_region 6 with fail
          rw [← hw8]
          clear hw8 x0 x1 x2 f0 f1 f2
          go_upto_region 7 with fail
          rw [← hw9]
          clear hw9 k2 fk2
          go_wp2_with fail
          have hp := put3 X9.out.1.row (.string (bs s)) (.slice a1 l.length d1) (.slice m1 (Ns.of bl).len e1)
          refine bodyPost_ret (results_cell1 rfl _ _ _ rfl (fnVar _ c _ _ _ hp.row)) rfl ?_
          rw [func_4 X2.out.2.2.2.1 X6.out.2.2.2.2.1, X9.out.2.2.2]
          have hcw := X9.out.1.hc
          exact ⟨X9.out.1.st.put hp (by omega), X9.out.2.1.put hp X9.out.1.hrb, _, rfl, (X9.out.2.2.1.frame fun b q1 _ => hp.oth b (by omega)).mono (by omega) (by rw [hp.size]; exact Nat.le_refl _)⟩
    · refine takes_no X2.out.2.2.1 [40] (by decide) hh fun w3 hb3 => ?_
      have X3 := Lib.hid (And.intro hh hb3)
      clear hh hb3
      go_wp2_with (refine must_no ?_)
      refine ⟨rfl, ?_⟩
      rw [func_b2 X2.out.2.2.2.1 X3.out.1]
      exact (X2.out.1.below X3.out.2).bad (X2.out.2.2.1.later X3.out.2)
end Go.Proofs.YtmkhfonafcikdaaGreatDoor

/- Trees: the reader: the deferred closure that catches the panic. -/
namespace Go.Proofs.YtmkhfonafcikdaaGreatDoor
open Go.RowKit Go.My Go.Nd

set_option maxRecDepth 100000 in
theorem catch_idle (a b : Addr) (w : World) :
    CallsD Tryz.prog 157 #[.pointer (some a), .pointer (some b)] .returning w fun e u' w' => e = .returned (.tuple #[]) ∧ u' = .returning ∧ w' = w := by
  refine callsD_of_wpS Tryz.func157 rfl fun c₀ cs hu => ?_
  apply wpS_seq
  apply wpS_region
  simp [wpOpsS, go_sem, recoverD, hu, Tryz.ntmps157, Exit.thenS]
  apply wpS_seq
  apply wpS_region
  simp [wpOpsS, go_sem, recoverD, hu, Exit.thenS]
  refine wpS_cond (t := false) (by simp [Act.eval]) ?_
  simp only [Bool.false_eq_true, if_false]
  refine wpS_of_wp (wp_skip ?_)
  cases c₀
  simp_all [bodyPostS, results, Tryz.results157]

set_option maxRecDepth 100000 in
theorem catch_wrong (a b : Nat) (w : World) {v0 v1 u : Value} (h : w.heap[a]? = some (.cells #[v0, v1] 25 (0, 0))) (h2 : w.heap[b]? = some (.cells #[u] 4 (0, 0))) (hne : a ≠ b) :
    CallsD Tryz.prog 157 #[.pointer (some ⟨a, 0, none⟩), .pointer (some ⟨b, 0, none⟩)] (.panicking wrongChain) w fun e u' w' =>
      e = .returned (.tuple #[]) ∧ u' = .panicking [{ v := .iface 206 (.agg #[]), recovered := true }] ∧ w' = ((w.setCell ⟨a, 0, none⟩ (.slice none 0 0)).setCell ⟨a, 1, none⟩ (.slice none 0 0)).setCell ⟨b, 0, none⟩ (.bool false) := by
  have c0 := cell_of_row w a 0 _ _ _ h
  have c1 := cell_of_row w a 1 _ _ _ h
  have f0 := frozen_of_row w a 0 _ _ h
  have f1 := frozen_of_row w a 1 _ _ h
  have d0 := cell_of_row w b 0 _ _ _ h2
  have g0 := frozen_of_row w b 0 _ _ h2
  simp at c0 c1 d0
  refine callsD_of_wpS Tryz.func157 rfl fun c₀ cs hu => ?_
  unfold wrongChain at hu
  apply wpS_seq
  apply wpS_region
  simp [wpOpsS, go_sem, recoverD, hu, Tryz.ntmps157, Exit.thenS]
  apply wpS_seq
  apply wpS_region
  simp [wpOpsS, go_sem, recoverD, Exit.thenS]
  refine wpS_cond (t := true) (by simp [Act.eval]) ?_
  simp only [if_true]
  apply wpS_seq
  apply wpS_region
  simp [wpOpsS, go_sem, Exit.thenS]
  apply wpS_region
  simp [wpOpsS, go_sem, c0, c1, f0, f1, d0, g0]
  simp [bodyPostS, results, Tryz.results157]
end Go.Proofs.YtmkhfonafcikdaaGreatDoor

/- Trees: the reader: functions and a program in new memory; how a program's reading ends. -/
namespace Go.Proofs.YtmkhfonafcikdaaGreatDoor
open Go.RowKit Go.My Go.Nd

theorem fnEl : Elem Tryz.prog 22 57 3 64 (.agg #[.string ⟨#[]⟩, .slice none 0 0, .slice none 0 0]) := Elem.mk' Tryz.underlying22 (by kernel_rfl) rfl (by decide)

/-- A list of functions; F: the blocks of it, and of all in it. -/
def FsF (w : World) (F : List Nat) (v : Value) (fs : List Nd.Fn) : Prop :=
  ∃ (els : List FV) (k : Option Nat), F = k.toList ++ els.flatMap (fun x => x.F1 ++ x.F2) ∧ els.map (·.f) = fs ∧ Go.My.Own w TFn 3 v els.length (els.flatMap FV.cells) k ∧ els.length * 64 ≤ 140737488351232 ∧ ∀ x ∈ els, x.Ok w
def FsR (w : World) (lo hi : Nat) (v : Value) (fs : List Nd.Fn) : Prop := ∃ F, FsF w F v fs ∧ InR lo hi F

theorem FsF.frame {w w' : World} {F : List Nat} {v : Value} {fs : List Nd.Fn} (h : FsF w F v fs) (hs : ∀ b ∈ F, w'.heap[b]? = w.heap[b]?) : FsF w' F v fs := by
  obtain ⟨els, k, rfl, h1, h2, h3, h4⟩ := h
  refine ⟨els, k, rfl, h1, h2.frame fun b hb => hs b (by subst hb; simp), h3, fun x hx => (h4 x hx).frame fun b hb => hs b (List.mem_append_right _ (List.mem_flatMap.2 ⟨x, hx, hb⟩))⟩
theorem FsR.frame {w w' : World} {lo hi : Nat} {v : Value} {fs : List Nd.Fn} (h : FsR w lo hi v fs) (hs : ∀ b, lo ≤ b → b < hi → w'.heap[b]? = w.heap[b]?) : FsR w' lo hi v fs := by
  obtain ⟨F, h1, h2⟩ := h
  exact ⟨F, h1.frame fun b hb => hs b (h2.2 b hb).1 (h2.2 b hb).2, h2⟩
theorem FsR.mono {w : World} {lo hi lo' hi' : Nat} {v : Value} {fs : List Nd.Fn} (h : FsR w lo hi v fs) (h1 : lo' ≤ lo) (h2 : hi ≤ hi') : FsR w lo' hi' v fs := by obtain ⟨F, k1, k2⟩ := h; exact ⟨F, k1, k2.mono h1 h2⟩
theorem FsR.nil (w : World) (lo hi : Nat) : FsR w lo hi (.slice none 0 0) [] := ⟨[], ⟨[], none, rfl, rfl, Go.My.Own.nil w TFn 3, Nat.zero_le _, fun _ h => by cases h⟩, InR.nil _ _⟩
theorem FsR.form {w : World} {lo hi : Nat} {v : Value} {fs : List Nd.Fn} (h : FsR w lo hi v fs) : ∃ a c, v = .slice a fs.length c := by
  obtain ⟨F, ⟨els, k, _, h1, h2, _⟩, _⟩ := h
  have := own_form h2
  rwa [show els.length = fs.length by rw [← h1, List.length_map]] at this
theorem FsR.later {w w' : World} {lo hi : Nat} {v : Value} {fs : List Nd.Fn} (h : FsR w lo hi v fs) (hb : Below w.heap.size w w') (hh : hi ≤ w.heap.size) : FsR w' lo hi v fs := h.frame fun b _ hb' => hb.block b (by omega)
theorem FsR.kept {w w' : World} {rb lo hi : Nat} {v : Value} {fs : List Nd.Fn} (h : FsR w lo hi v fs) (hs : Step w w' (some rb)) (hrb : rb < lo) (hh : hi ≤ w.heap.size) : FsR w' lo hi v fs := h.frame fun b h1 h2 => hs.kept (by omega) (by omega)

/-- One more, appended: what is so behind it. -/
theorem FsR.app {w : World} {lo hi hi2 : Nat} {v : Value} {fs : List Nd.Fn} {cs : Array Value} {f : Nd.Fn} (h : FsR w lo hi v fs) (hN : FR w hi hi2 (.agg cs) f) (h1 : lo ≤ hi) (h2 : hi ≤ hi2) (h3 : hi2 ≤ w.heap.size) (hn : (fs.length + 1) * 64 ≤ 140737488351232) :
    (∀ u ∈ cs.toList, u.oneCell' = true) ∧ ∃ xs k, Go.My.Own w TFn 3 v fs.length xs k ∧ (∀ b, k = some b → lo ≤ b ∧ b < hi) ∧ ∀ w' v' k', Go.My.Own w' TFn 3 v' (fs.length + 1) (xs ++ cs.toList) k' → Step w w' k → (k' = k ∨ ∃ j, k' = some j ∧ w.heap.size ≤ j) → FsR w' lo w'.heap.size v' (fs ++ [f]) := by
  obtain ⟨F, ⟨els, k, rfl, hmap, ho, hle, hok⟩, hr⟩ := h
  obtain ⟨x, h0, hx, hf, kr⟩ := hN
  cases h0
  have hlen : els.length = fs.length := by rw [← hmap, List.length_map]
  have hc1 : ∀ u ∈ x.cells, u.oneCell' = true := by
    intro u hu
    obtain ⟨k1, _, ha, _⟩ := hx.args
    obtain ⟨a1, c1, e1⟩ := own_form ha
    obtain ⟨a2, c2, e2⟩ := hx.body.form
    unfold FV.cells at hu
    simp at hu
    rcases hu with rfl | rfl | rfl
    · rfl
    · rw [e1]; rfl
    · rw [e2]; rfl
  refine ⟨by simpa using hc1, els.flatMap FV.cells, k, hlen ▸ ho, fun b hb => hr.2 b (by subst hb; simp), fun w' v' k' ho' st hk' => ?_⟩
  have hk1 : ∀ b, k = some b → lo ≤ b ∧ b < hi := fun b hb => hr.2 b (by subst hb; simp)
  have hC : InR lo hi (els.flatMap fun x => x.F1 ++ x.F2) := ⟨(List.nodup_append.1 hr.1).2.1, fun b hb => hr.2 b (List.mem_append_right _ hb)⟩
  have hkC : ∀ b, k = some b → b ∉ els.flatMap (fun x => x.F1 ++ x.F2) := fun b hb hm => by
    subst hb
    exact (List.nodup_append.1 hr.1).2.2 b (by simp) b hm rfl
  have hx' : x.Ok w' := hx.frame fun b hb => st.block b (by have := (kr.2 b hb).2; omega) fun hbk => by have := (hk1 b hbk.symm).2; have := (kr.2 b hb).1; omega
  have hok' : ∀ y ∈ els, y.Ok w' := fun y hy => (hok y hy).frame fun b hb => by
    have hm : b ∈ els.flatMap (fun x => x.F1 ++ x.F2) := List.mem_flatMap.2 ⟨y, hy, hb⟩
    exact st.block b (by have := (hC.2 b hm).2; omega) fun hbk => hkC b hbk.symm hm
  refine ⟨k'.toList ++ (els ++ [x]).flatMap (fun x => x.F1 ++ x.F2), ⟨els ++ [x], k', rfl, by rw [List.map_append, hmap]; simp [hf], ?_, by rw [List.length_append, List.length_singleton, hlen]; exact hn, fun y hy => ?_⟩, ?_⟩
  · rw [List.length_append, List.length_singleton, List.flatMap_append, List.flatMap_singleton, hlen]; simpa using ho'
  · rcases List.mem_append.1 hy with hy | hy
    · exact hok' y hy
    · simp at hy; subst hy; exact hx'
  · rw [List.flatMap_append, List.flatMap_singleton]
    have hs := st.size
    rcases hk' with rfl | ⟨j, rfl, hj⟩
    · rw [← List.append_assoc]
      exact (hr.app kr h1 h2).mono (Nat.le_refl _) (by omega)
    · have hjlt := ho'.lt j rfl
      exact (((hC.app kr h1 h2).mono (Nat.le_refl _) (show hi2 ≤ j by omega)).app (InR.one.mono (Nat.le_refl j) hjlt) (by omega) (by omega)).perm (by
        show List.Perm (_ ++ [j]) ([j] ++ _)
        exact List.perm_append_comm)

/-- It reads as these functions. -/
theorem FsR.funcs {w : World} {lo hi : Nat} {v : Value} {fs : List Nd.Fn} {S : Nat → Prop} (h : FsR w lo hi v fs) (hS : ∀ b, lo ≤ b → b < hi → S b) : FuncsIn w S false v fs := by
  obtain ⟨F, ⟨els, k, rfl, hmap, ho, hle, hok⟩, hr⟩ := h
  have hlen : els.length = fs.length := by rw [← hmap, List.length_map]
  have hS' : ∀ b ∈ k.toList ++ els.flatMap (fun x => x.F1 ++ x.F2), S b := fun b hb => hS b (hr.2 b hb).1 (hr.2 b hb).2
  obtain ⟨h1, h2⟩ := ho
  rcases h2 with ⟨rfl, h0, _⟩ | ⟨b, off, cap, cur, rfl, rfl, hh, h5, h6, h7, h8⟩
  · have : fs = [] := List.eq_nil_of_length_eq_zero (by omega)
    subst this
    exact ⟨none, 0, rfl, Nat.le_refl _, Nat.zero_le _, Nat.zero_le _, fun e => (by cases e), fun i hi => absurd hi (Nat.not_lt_zero _)⟩
  · rw [hlen]
    refine ⟨_, cap, rfl, hlen ▸ h5, h6, hlen ▸ hle, fun e => (by cases e), fun i hi => ?_⟩
    have hi' : i < els.length := by omega
    have hx := hok _ (List.getElem_mem hi')
    have hfi : els[i].f = fs[i] := by
      have : (els.map (·.f))[i]? = fs[i]? := by rw [hmap]
      simpa [List.getElem?_map, List.getElem?_eq_getElem hi', List.getElem?_eq_getElem hi] using this
    have hcell : ∀ j (hj : j < 3), w.cell? ⟨b, off + i * 3 + j, none⟩ = (els[i].cells)[j]? := by
      intro j hj
      have hidx : ∀ (l : List FV) (i : Nat) (hi : i < l.length), (l.flatMap FV.cells)[i * 3 + j]? = (l[i].cells)[j]? := by
        intro l
        induction l with
        | nil => intro i hi; exact absurd hi (Nat.not_lt_zero _)
        | cons y l ih =>
          intro i hi
          rw [List.flatMap_cons]
          have hy : y.cells.length = 3 := rfl
          cases i with
          | zero => rw [List.getElem?_append_left (by rw [hy]; omega)]; simp
          | succ i =>
            rw [List.getElem?_append_right (by rw [hy]; omega), hy, show (i + 1) * 3 + j - 3 = i * 3 + j by omega, ih i (by simpa using hi)]
            simp
      have hlt : i * 3 + j < els.length * 3 := by omega
      have e1 := hidx els i hi'
      rw [cell_of_row w b (off + i * 3 + j) cur TFn (0, 0) hh, ← e1, ← h8, List.getElem?_take, List.getElem?_drop, if_pos hlt]
      simp [Nat.add_assoc]
    have m1 : ∀ b ∈ els[i].F1 ++ els[i].F2, S b := fun b hb => hS' b (List.mem_append_right _ (List.mem_flatMap.2 ⟨els[i], List.getElem_mem hi', hb⟩))
    refine ⟨b, off, els[i].va, els[i].vb, rfl, hS' b (by simp), ?_⟩
    rw [← hfi]
    exact ⟨hx.name, hcell 0 (by decide), hcell 1 (by decide), hcell 2 (by decide), hx.args.texts fun b hb => m1 b (List.mem_append_left _ hb), hx.body.nodes fun b hb => m1 b (List.mem_append_right _ hb)⟩

/-- A program's value. -/
def PrR (w : World) (lo hi : Nat) (v : Value) (p : Pr) : Prop := ∃ m v1 v2, v = .agg #[v1, v2] ∧ lo ≤ m ∧ m ≤ hi ∧ FsR w lo m v1 p.funcs ∧ LR w TN m hi v2 p.body

def GotP (w : World) (rb : Nat) (tv : Value) (xs : List To.T) (r : R Pr) (e : Ending) (w' : World) : Prop :=
  Step w w' (some rb) ∧ (∃ inn, Rd w' rb tv xs r.rest inn) ∧ match r with | .ok p _ => ∃ v, e = .returned (.tuple #[v, .bool true]) ∧ PrR w' w.heap.size w'.heap.size v p | .bad _ => e = .returned (.tuple #[.agg #[.slice none 0 0, .slice none 0 0], .bool false])
end Go.Proofs.YtmkhfonafcikdaaGreatDoor

/- Lists that a book keeps, each in memory of its own: what an append leaves of the shorter list. No program in sight. -/
namespace Go.My
open Go.RowKit

section
variable {P : Program} (w : World)

/-- APPEND, and where the longer list lies: at the old place, or in a new block (then all old blocks are as they were). -/
theorem run_append_at {t e : TypeId} {size bytes : Nat} {z : Value} (E : Elem P t e size bytes z) (ty : TypeId)
    {v : Value} {n : Nat} {xs : List Value} {g : Option Nat} (hown : Own w e size v n xs g) {ad : Addr} {c : Nat} {m : Nat} {news : List Value} (hl : news.length = m * size) (hnews : ∀ j u, news[j]? = some u → w.cell? (ad.add j) = some u) (h1 : ∀ u ∈ news, u.oneCell' = true)
    (h63 : n + m ≤ maxLen) (hbytes : (n + m) * bytes ≤ 140737488355328) (hm : 0 < m) :
    ∃ v' w' g', (Builtin.append_ #[t, t] ty #[v, .slice (some ad) m c]).run P w = .ok v' w' ∧ Own w' e size v' (n + m) (xs ++ news) g' ∧
      ((∃ b off cap, v = .slice (some ⟨b, off, none⟩) n cap ∧ v' = .slice (some ⟨b, off, none⟩) (n + m) cap ∧ g = some b ∧ g' = some b ∧ Step w w' (some b)) ∨
       (Below w.heap.size w w' ∧ ∃ k cap, v' = .slice (some ⟨k, 0, none⟩) (n + m) cap ∧ g' = some k ∧ w.heap.size ≤ k)) := by
  obtain ⟨ht, ⟨i, hi, hz, hsize, hby⟩, hzs, hsz⟩ := E
  subst hsize
  subst hby
  have hsmall : n + m ≤ 9223372036854775807 := by simp only [maxLen] at h63; omega
  have hlen : (xs ++ news).length = (n + m) * i.size := by rw [List.length_append, hown.1, hl, Nat.add_mul]
  have grown : ∀ (old : Nat), old < n + m →
      Own (w.drew.alloc (.cells (xs.toArray ++ news.toArray ++ Builtin.zeroCells z.cells (grownCap w (n + m) old e - (n + m))) e)) e i.size
        (.slice (some ⟨w.heap.size, 0, none⟩) (n + m) (grownCap w (n + m) old e)) (n + m) (xs ++ news) (some w.heap.size) ∧
      Below w.heap.size w (w.drew.alloc (.cells (xs.toArray ++ news.toArray ++ Builtin.zeroCells z.cells (grownCap w (n + m) old e - (n + m))) e)) := by
    intro old ho
    have hge := grownCap_ge w (n + m) old e
    have hcm : grownCap w (n + m) old e ≤ maxLen := grownCap_le_maxLen w (n + m) old e h63
    refine ⟨⟨hlen, .inr ⟨w.heap.size, 0, _, _, rfl, rfl, heap_alloc_new w.drew _, hge, hcm, ?_, ?_⟩⟩, ⟨rfl, rfl, rfl, by simp, fun k hk => Below.heap_alloc w.drew _ k hk⟩⟩
    · simp only [Array.size_append, List.size_toArray, size_zeroCells, hzs, hown.1, hl, ← Nat.add_mul, Nat.zero_add]
      apply Nat.mul_le_mul_right
      omega
    · simp only [Array.toList_append, List.append_assoc, List.drop_zero]
      rw [← List.append_assoc, ← hlen]
      exact List.take_left
  rcases hown.2 with ⟨rfl, rfl, rfl⟩ | ⟨b, off, cap, cur, rfl, rfl, hh, h3, h4, h5, h6⟩
  · have hxs : xs = [] := List.eq_nil_of_length_eq_zero (by simpa using hown.1)
    subst hxs
    have hr := run_append_nil (P := P) w t ty e i z ht hi hz ad m c news hl hnews (by omega) (by omega) (by have hb := hbytes; simp only [Nat.zero_add] at hb; omega)
    have hgr := grown 0 (by omega)
    simp only [Nat.zero_add, List.nil_append, Array.empty_append] at hgr ⊢
    exact ⟨_, _, _, hr, hgr.1, .inr ⟨hgr.2, _, _, rfl, rfl, Nat.le_refl _⟩⟩
  · by_cases hroom : n + m ≤ cap
    · have hfit : off + n * i.size + news.length ≤ cur.size := by
        have := Nat.mul_le_mul_right i.size hroom
        rw [hl]; rw [Nat.add_mul] at this; omega
      have hf := run_firstCells_some (P := P) w i.size m ad m c news hl hnews
      have hst := run_storeCells_at P b (off + n * i.size) e news 0 cur w hh (by simpa using hfit) h1
      simp only [Nat.add_zero] at hst
      have hr : (Builtin.append_ #[t, t] ty #[.slice (some ⟨b, off, none⟩) n cap, .slice (some ad) m c]).run P w =
          .ok (.slice (some ⟨b, off, none⟩) (n + m) cap) (w.setRow b (cur.toList.take (off + n * i.size) ++ news ++ cur.toList.drop (off + n * i.size + news.length)).toArray) := by
        simp [Builtin.append_, run_underlying ht, sizeOf, typeInfo, hi, Builtin.lenOf, hroom, hf, Addr.add_lit, hst]
      refine ⟨_, _, some b, hr, ⟨hlen, .inr ⟨b, off, cap, _, rfl, rfl, setRow_heap w b cur _ e _ hh, hroom, h4, ?_, ?_⟩⟩,
        .inl ⟨b, off, cap, rfl, rfl, rfl, rfl, rfl, rfl, rfl, by simp, fun k _ hk => setRow_other w b k _ (fun e => hk (by simp [e]))⟩⟩
      · simp only [List.size_toArray, List.length_append, List.length_take, List.length_drop, Array.length_toList]
        omega
      · have hx1 : xs.length = n * i.size := hown.1
        have hpre : (cur.toList.take (off + n * i.size)).drop off = xs := by
          rw [List.drop_take, ← h6]; congr 1; omega
        have hlo : off ≤ (cur.toList.take (off + n * i.size)).length := by simp; omega
        show List.take ((n + m) * i.size) (List.drop off (cur.toList.take (off + n * i.size) ++ news ++ cur.toList.drop (off + n * i.size + news.length))) = xs ++ news
        rw [List.append_assoc, List.drop_append_of_le_length hlo, hpre, ← List.append_assoc, ← hlen]
        exact List.take_left
    · have holds : ∀ j u, xs[j]? = some u → w.cell? ((⟨b, off, none⟩ : Addr).add j) = some u := by
        intro j u hj
        rw [add_none, cell_of_row w b (off + j) cur e (0, 0) hh, ← hj, ← h6, List.getElem?_take, List.getElem?_drop]
        rw [if_pos (by have := (List.getElem?_eq_some_iff.1 hj).1; rw [hown.1] at this; exact this)]; simp
      have hr := run_append_grow (P := P) w t ty e i z ht hi hz ⟨b, off, none⟩ n cap xs hown.1 holds ad m c news hl hnews (by omega) (by omega) (growslice_fits (by omega) hbytes)
      have hgr := grown cap (by omega)
      exact ⟨_, _, _, hr, hgr.1, .inr ⟨hgr.2, _, _, rfl, rfl, Nat.le_refl _⟩⟩
end

/-- A list v of n elements, and a longer one, u, that began as it: the first reads as xs, the second as xs and more. Both are t's. -/
def Grown (w : World) (g : Tags) (t : Nat) (e : TypeId) (size : Nat) (v : Value) (n : Nat) (xs : List Value) (u : Value) (m : Nat) (more : List Value) : Prop :=
  xs.length = n * size ∧ Owns w g t e size u (n + m) (xs ++ more) ∧
  ∃ ao cap, v = .slice ao n cap ∧ ((ao = none ∧ n = 0) ∨ ∃ b off, ao = some ⟨b, off, none⟩ ∧ g b = t ∧ b < w.heap.size ∧ ∀ j c, xs[j]? = some c → w.cell? ⟨b, off + j, none⟩ = some c) ∧
    (∀ b off c, u = .slice (some ⟨b, off, none⟩) (n + m) c → ao = some ⟨b, off, none⟩ ∨ ∀ o, ao = some o → o.block ≠ b)

theorem Owns.grown {w : World} {g : Tags} {t : Nat} {e : TypeId} {size : Nat} {v : Value} {n : Nat} {xs : List Value} (h : Owns w g t e size v n xs) : Grown w g t e size v n xs v 0 [] := by
  obtain ⟨k, ho, hk⟩ := h
  refine ⟨ho.1, ⟨k, by simpa using ho, hk⟩, ?_⟩
  rcases ho.2 with ⟨rfl, rfl, _⟩ | ⟨b, off, cap, cur, rfl, hg, hh, h3, h4, h5, h6⟩
  · exact ⟨none, 0, rfl, .inl ⟨rfl, rfl⟩, fun b off c hu => by cases hu⟩
  · refine ⟨_, cap, rfl, .inr ⟨b, off, rfl, hk b hg, (Array.getElem?_eq_some_iff.1 hh).1, fun j c hj => ?_⟩, fun b' off' c hu => by cases hu; exact .inl rfl⟩
    rw [cell_of_row w b (off + j) cur e (0, 0) hh, ← hj, ← h6, List.getElem?_take, List.getElem?_drop]
    rw [if_pos (by have := (List.getElem?_eq_some_iff.1 hj).1; rw [ho.1] at this; exact this)]; simp

/-- The shorter one reads as it did. -/
theorem Grown.cell {w : World} {g : Tags} {t : Nat} {e : TypeId} {size : Nat} {v : Value} {n : Nat} {xs : List Value} {u : Value} {m : Nat} {more : List Value} (h : Grown w g t e size v n xs u m more) (hn : 0 < n) :
    ∃ b off cap, v = .slice (some ⟨b, off, none⟩) n cap ∧ ∀ j c, xs[j]? = some c → w.cell? ⟨b, off + j, none⟩ = some c := by
  obtain ⟨_, _, ao, cap, hv, hc, _⟩ := h
  rcases hc with ⟨_, h0⟩ | ⟨b, off, rfl, _, _, hcell⟩
  · omega
  · exact ⟨b, off, cap, hv, hcell⟩

theorem Grown.turn {w w' : World} {g g' : Tags} {T : List Nat} {t : Nat} {e : TypeId} {size : Nat} {v : Value} {n : Nat} {xs : List Value} {u : Value} {m : Nat} {more : List Value} (h : Grown w g t e size v n xs u m more) (k : Turn w g w' g' T) (ht : t ∉ T) : Grown w' g' t e size v n xs u m more := by
  obtain ⟨hl, ho, ao, cap, hv, hc, hu⟩ := h
  refine ⟨hl, ho.turn k ht, ao, cap, hv, ?_, hu⟩
  rcases hc with h0 | ⟨b, off, ha, hg, hb, hcell⟩
  · exact .inl h0
  refine .inr ⟨b, off, ha, (k.old b hb).trans hg, Nat.lt_of_lt_of_le hb k.size, fun j c hj => ?_⟩
  exact (World.cell?_of_block (k.block b hb (by rw [hg]; exact ht))).trans (hcell j c hj)

section
variable {P : Program} (w : World)
/-- ONE MORE BEHIND THE LONGER ONE, FOR THE WALK. -/
theorem wpList_append_grown {ops : Array Oper} {rest : List Oper} {o : Oper} {a : Act} {Q : Exit → Act → World → Prop} (hgd : o.guard = none) (s x : Operand) {t e : TypeId}
    (ho : o.op = .call { callee := .builtin .append, args := #[s, x], argTypes := #[t, t] }) {size bytes : Nat} {z : Value} (E : Elem P t e size bytes z)
    {v u : Value} {n m : Nat} {xs more : List Value} {g : Tags} {tg : Nat} (hs : a.eval s = u) (hG : Grown w g tg e size v n xs u m more) {y : Value} {ad : Addr} {c : Nat} {news : List Value} (hy : a.eval x = y) (hyy : y = .slice (some ad) 1 c) (hl : news.length = size) (hnews : ∀ j q, news[j]? = some q → w.cell? (ad.add j) = some q) (h1 : ∀ q ∈ news, q.oneCell' = true)
    (h63 : n + m + 1 ≤ maxLen) (hbytes : (n + m + 1) * bytes ≤ 140737488355328)
    (h : ∀ ao cap w' g', Grown w' g' tg e size v n xs (.slice ao (n + (m + 1)) cap) (m + 1) (more ++ news) → Turn w g w' g' [tg] → wpList P ops Q rest (a.put o.dst (.slice ao (n + (m + 1)) cap)) w') : wpList P ops Q (o :: rest) a w := by
  obtain ⟨hxl, ⟨k, hown, hk⟩, ao, cap, hv, hcell, hap⟩ := hG
  subst hyy
  obtain ⟨v', w', g', hr, hown', hor⟩ := run_append_at w E o.type hown (m := 1) (c := c) (by omega) hnews h1 h63 hbytes (by decide)
  refine wpList_plain hgd fun _ hK => ?_
  unfold Oper.wp execOp
  simp only [ho, resolve, invoke, builtin, Sem.run_bind, Sem.run_pure, Result.andThen_ok, List.map_toArray, List.map_cons, List.map_nil, hs, hy, hr]
  refine hK _ _ ?_
  rw [List.append_assoc] at hown'
  rcases hor with ⟨b, off, cp, hu, hv', hkb, hkb', hst⟩ | ⟨hb, k', cp, hv', hk', hge⟩
  · subst hv'
    have hT := Turn.of_step hst g tg (fun q e => by cases e; exact hk b hkb)
    refine h _ _ w' _ ⟨hxl, ⟨g', hown', fun q hq => ?_⟩, ao, cap, hv, ?_, fun b2 off2 c2 h2 => ?_⟩ hT
    · rw [hkb'] at hq; cases hq
      rw [Tags.ext_old _ _ _ _ (hown.lt b hkb)]; exact hk b hkb
    · rcases hcell with h0 | ⟨b3, off3, ha3, hg3, hlt3, hc3⟩
      · exact .inl h0
      refine .inr ⟨b3, off3, ha3, by rw [Tags.ext_old _ _ _ _ hlt3]; exact hg3, Nat.lt_of_lt_of_le hlt3 hst.size, fun j q hj => ?_⟩
      rcases hap b off cp (by rw [hu]) with h4 | h4
      · rw [ha3] at h4; cases h4
        rcases hown'.2 with ⟨e1, _⟩ | ⟨b5, off5, cap5, cur5, e5, _, hh5, h35, h45, h55, h65⟩
        · cases e1
        · cases e5
          have hj2 := (List.getElem?_eq_some_iff.1 hj).1
          rw [cell_of_row w' b (off + j) cur5 e (0, 0) hh5]
          have h7 : (xs ++ (more ++ news))[j]? = some q := by rw [List.getElem?_append_left hj2]; exact hj
          rw [← h65, List.getElem?_take] at h7
          split at h7
          · rw [List.getElem?_drop, Array.getElem?_toList] at h7; exact h7
          · cases h7
      · have hne : b3 ≠ b := h4 _ ha3
        exact (hst.cell (a := ⟨b3, off3 + j, none⟩) hlt3 (fun e => hne (by cases e; rfl))).trans (hc3 j q hj)
    · cases h2
      rcases hap b off cp (by rw [hu]) with h4 | h4
      · exact .inl h4
      · exact .inr h4
  · subst hv'
    have hT := (Turn.of_below hb g tg)
    refine h _ _ w' _ ⟨hxl, ⟨g', hown', fun q hq => ?_⟩, ao, cap, hv, ?_, fun b2 off2 c2 h2 => ?_⟩ (hT.mono (by simp))
    · rw [hk'] at hq; cases hq
      exact Tags.ext_new _ _ _ _ hge
    · rcases hcell with h0 | ⟨b3, off3, ha3, hg3, hlt3, hc3⟩
      · exact .inl h0
      refine .inr ⟨b3, off3, ha3, by rw [Tags.ext_old _ _ _ _ hlt3]; exact hg3, Nat.lt_of_lt_of_le hlt3 hb.size, fun j q hj => ?_⟩
      exact (World.cell?_of_block (hb.block b3 hlt3)).trans (hc3 j q hj)
    · cases h2
      rcases hcell with ⟨h0, _⟩ | ⟨b3, off3, ha3, hg3, hlt3, hc3⟩
      · exact .inr fun q hq => by rw [h0] at hq; cases hq
      · refine .inr fun q hq => ?_
        rw [ha3] at hq; cases hq
        show b3 ≠ k'
        omega
end

theorem oneCell_set {w : World} {b o : Nat} {cur : Array Value} {e : TypeId} (u : Value) (h : w.heap[b]? = some (.cells cur e (0, 0))) : (w.setCell ⟨b, o, none⟩ u).heap[b]? = some (.cells (cur.setIfInBounds o u) e (0, 0)) := heap_setCell_same w b o _ _ u h

theorem drop_set_take (l : List Value) (off j n : Nat) (u : Value) (hj : j < n) (_ : off + n ≤ l.length) : ((l.set (off + j) u).drop off).take n = ((l.drop off).take n).set j u := by
  apply List.ext_getElem
  · simp
  · intro i h1 h2
    simp only [List.getElem_take, List.getElem_drop, List.getElem_set]
    by_cases hij : i = j
    · subst hij; simp
    · rw [if_neg (by omega), if_neg (by omega)]

/-- A cell of a list that the call owns. -/
theorem Owns.cell {w : World} {g : Tags} {t : Nat} {e : TypeId} {size : Nat} {v : Value} {n : Nat} {xs : List Value} (h : Owns w g t e size v n xs) (hn : 0 < n) :
    ∃ b off cap, v = .slice (some ⟨b, off, none⟩) n cap ∧ g b = t ∧ n ≤ cap ∧ cap ≤ maxLen ∧ b < w.heap.size ∧ ∀ j, j < n * size → w.cell? ⟨b, off + j, none⟩ = xs[j]? ∧ w.frozen? ⟨b, off + j, none⟩ = false := by
  obtain ⟨k, ho, hk⟩ := h
  rcases ho.2 with ⟨_, rfl, _⟩ | ⟨b, off, cap, cur, rfl, hg, hh, h3, h4, h5, h6⟩
  · exact absurd hn (Nat.lt_irrefl _)
  · refine ⟨b, off, cap, rfl, hk b hg, h3, h4, (Array.getElem?_eq_some_iff.1 hh).1, fun j hj => ⟨?_, frozen_of_row w b (off + j) _ _ hh⟩⟩
    rw [cell_of_row w b (off + j) cur e (0, 0) hh, ← h6, List.getElem?_take, if_pos hj, List.getElem?_drop, Array.getElem?_toList]

/-- A STORE INTO IT. -/
theorem Owns.set {w : World} {g : Tags} {t : Nat} {e : TypeId} {size b off n cap : Nat} {xs : List Value} (h : Owns w g t e size (.slice (some ⟨b, off, none⟩) n cap) n xs) (j : Nat) (hj : j < n * size) (u : Value) :
    Owns (w.setCell ⟨b, off + j, none⟩ u) g t e size (.slice (some ⟨b, off, none⟩) n cap) n (xs.set j u) ∧ Turn w g (w.setCell ⟨b, off + j, none⟩ u) g [t] := by
  obtain ⟨k, ho, hk⟩ := h
  rcases ho.2 with ⟨hv, _⟩ | ⟨b', off', cap', cur, hv, hg, hh, h3, h4, h5, h6⟩
  · cases hv
  · cases hv
    have hb : g b = t := hk b hg
    refine ⟨⟨k, ⟨by rw [List.length_set]; exact ho.1, .inr ⟨b, off, cap, _, rfl, hg, oneCell_set u hh, h3, h4, by simpa using h5, ?_⟩⟩, hk⟩, ?_⟩
    · have h7 : n * size ≤ cap * size := Nat.mul_le_mul_right _ h3
      rw [← h6, Array.toList_setIfInBounds]
      exact drop_set_take _ _ _ _ _ hj (by rw [Array.length_toList]; omega)
    · have := Turn.setCell w g ⟨b, off + j, none⟩ u (by simp) rfl rfl rfl
      rw [hb] at this; exact this

/-- Many are not one of many. -/
theorem not_mem_upto (t m k : Nat) (h : t < k ∨ k + m ≤ t) : t ∉ (List.range m).map (k + ·) := by
  intro hm
  obtain ⟨j, hj, he⟩ := List.mem_map.1 hm
  have := List.mem_range.1 hj
  omega

/-- A block of cells that the call made. -/
def Bx (w : World) (g : Tags) (b : Nat) (ty : TypeId) (t : Nat) (cs : Array Value) : Prop := w.heap[b]? = some (.cells cs ty (0, 0)) ∧ g b = t
theorem Bx.lt {w : World} {g : Tags} {b : Nat} {ty : TypeId} {t : Nat} {cs : Array Value} (h : Bx w g b ty t cs) : b < w.heap.size := (Array.getElem?_eq_some_iff.1 h.1).1
theorem Bx.turn {w w' : World} {g g' : Tags} {T : List Nat} {b : Nat} {ty : TypeId} {t : Nat} {cs : Array Value} (h : Bx w g b ty t cs) (k : Turn w g w' g' T) (ht : t ∉ T) : Bx w' g' b ty t cs :=
  ⟨(k.block b h.lt (by rw [h.2]; exact ht)).trans h.1, (k.old b h.lt).trans h.2⟩
theorem Bx.cell {w : World} {g : Tags} {b : Nat} {ty : TypeId} {t : Nat} {cs : Array Value} (h : Bx w g b ty t cs) (i : Nat) : w.cell? ⟨b, i, none⟩ = cs[i]? ∧ w.frozen? ⟨b, i, none⟩ = false :=
  ⟨cell_of_row w b i _ _ _ h.1, frozen_of_row w b i _ _ h.1⟩
theorem Bx.alloc (w : World) (g : Tags) (ty : TypeId) (t : Nat) (cs : Array Value) : Bx (w.alloc (.cells cs ty)) (g.ext w.heap.size t) w.heap.size ty t cs :=
  ⟨heap_alloc_new w _, Tags.ext_new _ _ _ _ (Nat.le_refl _)⟩
theorem Bx.store {w : World} {g : Tags} {b : Nat} {ty : TypeId} {t : Nat} {cs : Array Value} (h : Bx w g b ty t cs) (i : Nat) (v : Value) :
    Turn w g (w.setCell ⟨b, i, none⟩ v) g [t] ∧ Bx (w.setCell ⟨b, i, none⟩ v) g b ty t (cs.setIfInBounds i v) := by
  refine ⟨?_, heap_setCell_same w b i _ _ v h.1, h.2⟩
  have := Turn.setCell w g ⟨b, i, none⟩ v (by simp) rfl rfl rfl
  rw [h.2] at this; exact this
end Go.My

/- Nodes in new memory: one is appended that is nothing yet, then written. No program in sight. -/
namespace Go.My
open Go.RowKit Go.Nd

def zero5 : List Value := [.int .u8 0, .string ⟨#[]⟩, .slice none 0 0, .slice none 0 0, .slice none 0 0]
/-- All blocks of the lists in nodes. -/
def inner (els : List El) (f1 f2 f3 : Nat → List Nat) : List Nat := (List.range els.length).flatMap fun j => f1 j ++ (f2 j ++ f3 j)

/-- The nodes of l, and behind them one that is nothing yet. -/
def Hole (w : World) (T : TypeId) (lo hi : Nat) (l : List Nd) (b off cap : Nat) : Prop :=
  ∃ (els : List El) (f1 f2 f3 : Nat → List Nat), els.length = (Ns.of l).items.length ∧
    (∀ j (h : j < els.length) (h' : j < (Ns.of l).items.length), (els[j].kind = (Ns.of l).items[j].kind ∧ (Ns.of l).items[j].kind < 256) ∧ els[j].text = (Ns.of l).items[j].text ∧ (Ns.of l).items[j].text.length ≤ 140737488351232) ∧
    (∀ j (h : j < els.length) (h' : j < (Ns.of l).items.length), LF w T (f1 j) els[j].v1 (Ns.of l).items[j].l) ∧ (∀ j (h : j < els.length) (h' : j < (Ns.of l).items.length), LF w T (f2 j) els[j].v2 (Ns.of l).items[j].body) ∧
    (∀ j (h : j < els.length) (h' : j < (Ns.of l).items.length), LF w T (f3 j) els[j].v3 (Ns.of l).items[j].els) ∧
    Own w T 5 (.slice (some ⟨b, off, none⟩) (l.length + 1) cap) (l.length + 1) (elCells els ++ zero5) (some b) ∧ InR lo hi (inner els f1 f2 f3) ∧ b ∉ inner els f1 f2 f3 ∧ lo ≤ b ∧ (l.length + 1) * 96 ≤ 140737488351232

theorem Hole.frame {w w' : World} {T : TypeId} {lo hi : Nat} {l : List Nd} {b off cap : Nat} (h : Hole w T lo hi l b off cap) (hs : ∀ k, (lo ≤ k ∧ k < hi) ∨ k = b → w'.heap[k]? = w.heap[k]?) : Hole w' T lo hi l b off cap := by
  obtain ⟨els, f1, f2, f3, he, hk, g1, g2, g3, ho, hr, hb, hlo, hn⟩ := h
  have mem : ∀ j, j < els.length → ∀ k, k ∈ f1 j ++ (f2 j ++ f3 j) → w'.heap[k]? = w.heap[k]? := fun j hj k hk => hs k (.inl (hr.2 k (List.mem_flatMap.2 ⟨j, List.mem_range.2 hj, hk⟩)))
  exact ⟨els, f1, f2, f3, he, hk, fun j h h' => (g1 j h h').frame fun k hk => mem j h k (List.mem_append_left _ hk), fun j h h' => (g2 j h h').frame fun k hk => mem j h k (List.mem_append_right _ (List.mem_append_left _ hk)),
    fun j h h' => (g3 j h h').frame fun k hk => mem j h k (List.mem_append_right _ (List.mem_append_right _ hk)), ho.frame fun k hk => hs k (.inr (by cases hk; rfl)), hr, hb, hlo, hn⟩

theorem hole_mk {w : World} {T : TypeId} {lo hi : Nat} {v : Value} {l : List Nd} (h : LR w T lo hi v (Ns.of l)) (hn : (l.length + 1) * 96 ≤ 140737488351232) (h1 : lo ≤ hi) (h2 : hi ≤ w.heap.size) :
    ∃ xs k, Own w T 5 v l.length xs k ∧ (∀ b, k = some b → lo ≤ b ∧ b < hi) ∧ ∀ w' v' k', Own w' T 5 v' (l.length + 1) (xs ++ zero5) k' → Step w w' k → (k' = k ∨ ∃ j, k' = some j ∧ w.heap.size ≤ j) → ∃ b off cap, v' = .slice (some ⟨b, off, none⟩) (l.length + 1) cap ∧ Hole w' T lo hi l b off cap ∧ (b < hi ∨ w.heap.size ≤ b) := by
  obtain ⟨F, hF, hr⟩ := h
  cases hF with
  | @mk _ _ els k f1 f2 f3 ho hn' he hk g1 g2 g3 =>
    rw [Ns.len_of] at ho
    have hk1 : ∀ b, k = some b → lo ≤ b ∧ b < hi := fun b hb => hr.2 b (by subst hb; simp)
    refine ⟨elCells els, k, ho, hk1, fun w' v' k' ho' st hk' => ?_⟩
    have hkC : ∀ b, k = some b → b ∉ inner els f1 f2 f3 := fun b hb hm => by
      subst hb
      exact (List.nodup_append.1 hr.1).2.2 b (by simp) b hm rfl
    have hC : InR lo hi (inner els f1 f2 f3) := ⟨(List.nodup_append.1 hr.1).2.1, fun b hb => hr.2 b (List.mem_append_right _ hb)⟩
    have same : ∀ b ∈ inner els f1 f2 f3, w'.heap[b]? = w.heap[b]? := fun b hb => st.block b (by have := (hC.2 b hb).2; omega) fun hbk => hkC b hbk.symm hb
    have mem : ∀ j, j < els.length → ∀ k, k ∈ f1 j ++ (f2 j ++ f3 j) → w'.heap[k]? = w.heap[k]? := fun j hj k hk => same k (List.mem_flatMap.2 ⟨j, List.mem_range.2 hj, hk⟩)
    obtain ⟨q1, q2⟩ := ho'
    rcases q2 with ⟨_, e, _⟩ | ⟨b, off, cap, cur, rfl, rfl, hh⟩
    · exact absurd e (Nat.succ_ne_zero _)
    · refine ⟨b, off, cap, rfl, ⟨els, f1, f2, f3, he, hk, fun j h h' => (g1 j h h').frame fun k hk => mem j h k (List.mem_append_left _ hk), fun j h h' => (g2 j h h').frame fun k hk => mem j h k (List.mem_append_right _ (List.mem_append_left _ hk)),
        fun j h h' => (g3 j h h').frame fun k hk => mem j h k (List.mem_append_right _ (List.mem_append_right _ hk)), ⟨q1, .inr ⟨b, off, cap, cur, rfl, rfl, hh⟩⟩, hC, ?_, ?_, hn⟩, ?_⟩
      · rcases hk' with rfl | ⟨j, hj, hj2⟩
        · exact hkC b rfl
        · cases hj; intro hm; have := (hC.2 b hm).2; omega
      · rcases hk' with rfl | ⟨j, hj, hj2⟩
        · exact (hk1 b rfl).1
        · cases hj; omega
      · rcases hk' with rfl | ⟨j, hj, hj2⟩
        · exact .inl (hk1 b rfl).2
        · cases hj; exact .inr hj2

theorem Own.set {w : World} {e : TypeId} {size b off n cap : Nat} {xs : List Value} (h : Own w e size (.slice (some ⟨b, off, none⟩) n cap) n xs (some b)) (j : Nat) (hj : j < n * size) (u : Value) :
    Own (w.setCell ⟨b, off + j, none⟩ u) e size (.slice (some ⟨b, off, none⟩) n cap) n (xs.set j u) (some b) := by
  rcases h.2 with ⟨hv, _⟩ | ⟨b', off', cap', cur, hv, hg, hh, h3, h4, h5, h6⟩
  · cases hv
  · cases hv
    refine ⟨by rw [List.length_set]; exact h.1, .inr ⟨b, off, cap, _, rfl, rfl, oneCell_set u hh, h3, h4, by simpa using h5, ?_⟩⟩
    have h7 : n * size ≤ cap * size := Nat.mul_le_mul_right _ h3
    rw [← h6, Array.toList_setIfInBounds]
    exact drop_set_take _ _ _ _ _ hj (by rw [Array.length_toList]; omega)

/-- The cells of the one that is nothing yet. -/
theorem Hole.cells {w : World} {T : TypeId} {lo hi : Nat} {l : List Nd} {b off cap : Nat} (h : Hole w T lo hi l b off cap) : ∀ j, j < 5 → w.cell? ⟨b, off + l.length * 5 + j, none⟩ = zero5[j]? ∧ w.frozen? ⟨b, off + l.length * 5 + j, none⟩ = false := by
  obtain ⟨els, f1, f2, f3, he, hk, g1, g2, g3, ho, hr, hb, hlo, hn⟩ := h
  intro j hj
  rcases ho.2 with ⟨hv, _⟩ | ⟨b', off', cap', cur, hv, hg, hh, h3, h4, h5, h6⟩
  · cases hv
  · cases hv
    have hl : els.length = l.length := by rw [he, Ns.items_of]
    have hlt : l.length * 5 + j < (l.length + 1) * 5 := by omega
    refine ⟨?_, frozen_of_row w b _ cur _ hh⟩
    rw [cell_of_row w b _ cur T (0, 0) hh]
    have : (elCells els ++ zero5)[l.length * 5 + j]? = zero5[j]? := by rw [List.getElem?_append_right (by rw [elCells_length, hl]; omega), elCells_length, hl]; congr 1; omega
    rw [← this, ← h6, List.getElem?_take, List.getElem?_drop, if_pos hlt]
    simp [Nat.add_assoc]

theorem Hole.lo {w : World} {T : TypeId} {lo hi : Nat} {l : List Nd} {b off cap : Nat} (h : Hole w T lo hi l b off cap) : lo ≤ b ∧ b < w.heap.size := by
  obtain ⟨els, f1, f2, f3, he, hk, g1, g2, g3, ho, hr, hb, hlo, hn⟩ := h
  exact ⟨hlo, ho.lt b rfl⟩
theorem Hole.five {w : World} {T : TypeId} {lo hi : Nat} {l : List Nd} {b off cap : Nat} (h : Hole w T lo hi l b off cap) :
    (w.cell? ⟨b, off + l.length * 5, none⟩ = some (.int .u8 0) ∧ w.cell? ⟨b, off + l.length * 5 + 1, none⟩ = some (.string ⟨#[]⟩) ∧ w.cell? ⟨b, off + l.length * 5 + 2, none⟩ = some (.slice none 0 0) ∧ w.cell? ⟨b, off + l.length * 5 + 3, none⟩ = some (.slice none 0 0) ∧ w.cell? ⟨b, off + l.length * 5 + 4, none⟩ = some (.slice none 0 0)) ∧
    w.frozen? ⟨b, off + l.length * 5, none⟩ = false ∧ w.frozen? ⟨b, off + l.length * 5 + 1, none⟩ = false ∧ w.frozen? ⟨b, off + l.length * 5 + 2, none⟩ = false ∧ w.frozen? ⟨b, off + l.length * 5 + 3, none⟩ = false ∧ w.frozen? ⟨b, off + l.length * 5 + 4, none⟩ = false :=
  ⟨⟨(h.cells 0 (by decide)).1, (h.cells 1 (by decide)).1, (h.cells 2 (by decide)).1, (h.cells 3 (by decide)).1, (h.cells 4 (by decide)).1⟩, (h.cells 0 (by decide)).2, (h.cells 1 (by decide)).2, (h.cells 2 (by decide)).2, (h.cells 3 (by decide)).2, (h.cells 4 (by decide)).2⟩

theorem set5 (a : List Value) (n : Nat) (ha : a.length = n * 5) (z0 z1 z2 z3 z4 u0 u1 u2 u3 u4 : Value) :
    (((((a ++ [z0, z1, z2, z3, z4]).set (n * 5) u0).set (n * 5 + 1) u1).set (n * 5 + 2) u2).set (n * 5 + 3) u3).set (n * 5 + 4) u4 = a ++ [u0, u1, u2, u3, u4] := by
  rw [List.set_append_right _ _ (by omega), List.set_append_right _ _ (by omega), List.set_append_right _ _ (by omega), List.set_append_right _ _ (by omega), List.set_append_right _ _ (by omega)]
  have e : ∀ j, n * 5 + j - a.length = j := fun j => by omega
  have e0 : n * 5 - a.length = 0 := by omega
  rw [e, e, e, e, e0]
  rfl

/-- It is written. -/
theorem Hole.fill {w : World} {T : TypeId} {lo hi : Nat} {l : List Nd} {b off cap : Nat} {u0 u1 u2 u3 u4 : Value} {x : Nd} (h : Hole w T lo hi l b off cap) (hN : NS w T (fun k => hi ≤ k ∧ k ≠ b) (.agg #[u0, u1, u2, u3, u4]) x) (hlh : lo ≤ hi) :
    LR (((((w.setCell ⟨b, off + l.length * 5, none⟩ u0).setCell ⟨b, off + l.length * 5 + 1, none⟩ u1).setCell ⟨b, off + l.length * 5 + 2, none⟩ u2).setCell ⟨b, off + l.length * 5 + 3, none⟩ u3).setCell ⟨b, off + l.length * 5 + 4, none⟩ u4) T lo w.heap.size (.slice (some ⟨b, off, none⟩) (l.length + 1) cap) (Ns.of (l ++ [x])) := by
  obtain ⟨els, f1, f2, f3, he, hk, g1, g2, g3, ho, hr, hb, hlo, hn⟩ := h
  obtain ⟨e, G, h0, hG, hnd, hS⟩ := hN
  simp only [Value.agg.injEq, Array.mk.injEq, List.cons.injEq, and_true] at h0
  obtain ⟨rfl, rfl, rfl, rfl, rfl⟩ := h0
  have hl : els.length = l.length := by rw [he, Ns.items_of]
  have o0 := ho.set (l.length * 5) (by omega) (.int .u8 (e.kind : Int))
  have o1 := o0.set (l.length * 5 + 1) (by omega) (.string (tx e.text))
  have o2 := o1.set (l.length * 5 + 2) (by omega) e.v1
  have o3 := o2.set (l.length * 5 + 3) (by omega) e.v2
  have o4 := o3.set (l.length * 5 + 4) (by omega) e.v3
  unfold zero5 at o4
  rw [set5 _ _ (by rw [elCells_length, hl])] at o4
  simp only [← Nat.add_assoc] at o4
  have oth : ∀ k, k ≠ b → (((((w.setCell ⟨b, off + l.length * 5, none⟩ (.int .u8 (e.kind : Int))).setCell ⟨b, off + l.length * 5 + 1, none⟩ (.string (tx e.text))).setCell ⟨b, off + l.length * 5 + 2, none⟩ e.v1).setCell ⟨b, off + l.length * 5 + 3, none⟩ e.v2).setCell ⟨b, off + l.length * 5 + 4, none⟩ e.v3).heap[k]? = w.heap[k]? := by
    intro k hk
    have s : ∀ (w : World) (o : Nat) (u : Value), (w.setCell ⟨b, o, none⟩ u).heap[k]? = w.heap[k]? := fun w o u => Below.heap_setCell w ⟨b, o, none⟩ u k (by simpa using hk)
    rw [s, s, s, s, s]
  have main := LF.snoc (w' := (((((w.setCell ⟨b, off + l.length * 5, none⟩ (.int .u8 (e.kind : Int))).setCell ⟨b, off + l.length * 5 + 1, none⟩ (.string (tx e.text))).setCell ⟨b, off + l.length * 5 + 2, none⟩ e.v1).setCell ⟨b, off + l.length * 5 + 3, none⟩ e.v2).setCell ⟨b, off + l.length * 5 + 4, none⟩ e.v3)) (v' := .slice (some ⟨b, off, none⟩) (l.length + 1) cap) (ys := Ns.of (l ++ [x])) (k' := some b) he hk g1 g2 g3
    (hG.frame fun k hk => oth k (hS k hk).2) (by rw [Ns.items_of, Ns.items_of]) (by rw [Ns.len_of]; exact hn) (fun k hk => oth k fun e => hb (by rw [← e]; exact hk)) (by rw [Ns.len_of, elCells_append, elCells_one]; exact o4)
  refine ⟨_, main, ?_⟩
  have hbl : b < w.heap.size := ho.lt b rfl
  have hGl := hG.lt
  refine ⟨List.nodup_append.2 ⟨by simp, List.nodup_append.2 ⟨hr.1, hnd, fun a ha c hc e => ?_⟩, fun a ha c hc e => ?_⟩, fun k hk => ?_⟩
  · subst e; have := (hr.2 a ha).2; have := (hS a hc).1; omega
  · simp at ha; subst ha; subst e
    rcases List.mem_append.1 hc with hc | hc
    · exact hb hc
    · exact (hS _ hc).2 rfl
  · rcases List.mem_append.1 hk with hk | hk
    · simp at hk; omega
    · rcases List.mem_append.1 hk with hk | hk
      · have h3 := hr.2 k hk
        have h4 : k < w.heap.size := by
          obtain ⟨j, hj, hkj⟩ := List.mem_flatMap.1 hk
          have hj' := List.mem_range.1 hj
          rcases List.mem_append.1 hkj with q | q
          · exact (g1 j hj' (he ▸ hj')).lt k q
          · rcases List.mem_append.1 q with q | q
            · exact (g2 j hj' (he ▸ hj')).lt k q
            · exact (g3 j hj' (he ▸ hj')).lt k q
        omega
      · have := (hS k hk).1; have := hGl k hk; omega
end Go.My
