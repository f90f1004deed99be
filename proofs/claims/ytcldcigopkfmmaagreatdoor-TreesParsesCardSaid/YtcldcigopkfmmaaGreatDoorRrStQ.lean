/- Trees, as the document has them: a node in a box of the function's own, on its way. -/
import Derived.Test.YtcldcigopkfmmaaGreatDoorRrSevQ
import Derived.Test.YtcldcigopkfmmaaGreatDoorTrD3
namespace Go.Nd
theorem R.map_rest {α β : Type} (f : α → β) (r : R α) : (r.map f).rest = r.rest := by cases r <;> rfl
theorem R.map_isBad {α β : Type} (f : α → β) (r : R α) : (r.map f).isBad = r.isBad := by cases r <;> rfl
theorem R.Is.map {α β : Type} (f : α → β) {r : R α} {x : α} (h : r.Is x) : (r.map f).Is (f x) := by
  cases r with
  | ok y q => intro z q' e; cases e; rw [h y q rfl]
  | bad q => intro z q' e; cases e
/-- What must stand there. -/
def mustG (bad : Bool) (ts : List Tx) (s : Tx) : R Unit := gate bad ts (must s () ts)
theorem mustG_rest {α : Type} (r : R α) (s : Tx) : (r.then_ fun x q => must s x q).rest = (mustG r.isBad r.rest s).rest ∧ (r.then_ fun x q => must s x q).isBad = (mustG r.isBad r.rest s).isBad := by
  cases r with
  | bad q => exact ⟨rfl, rfl⟩
  | ok x q =>
    show (must s x q).rest = (must s () q).rest ∧ (must s x q).isBad = (must s () q).isBad
    cases q with
    | nil => exact ⟨rfl, rfl⟩
    | cons u q => unfold must; simp only; split <;> exact ⟨rfl, rfl⟩
theorem R.Is.must {α : Type} {r : R α} {x : α} (h : r.Is x) (s : Tx) : (r.then_ fun x q => Nd.must s x q).Is x := by
  cases r with
  | bad q => intro y q' e; cases e
  | ok z q =>
    obtain rfl := h z q rfl
    show (Nd.must s z q).Is z
    cases q with
    | nil => intro y q' e; cases e
    | cons u q => unfold Nd.must; simp only; split
                  · exact R.Is.ok _ _
                  · exact R.Is.bad _ _
end Go.Nd
namespace Go.Proofs.YtcldcigopkfmmaaGreatDoor
open Go.RowKit Go.My Go.Nd

theorem mu_any {w : World} {rb : Nat} {tv : Value} {xs : List To.T} {ts : List Tx} {inn bad : Bool} (h : Rr w rb tv xs ts inn bad) (s : Tx) {Q : Ending → World → Prop} (hQ : ∀ w', Step w w' (some rb) → Rr w' rb tv xs (mustG bad ts s).rest inn (mustG bad ts s).isBad → Q (.returned (.tuple #[])) w') :
    Calls Tryz.prog 107 #[.pointer (some ⟨rb, 0, none⟩), .string (bs s)] w Q := by
  by_cases hh : bad = false ∧ ts.head? = some s
  · obtain ⟨rfl, hh⟩ := hh
    obtain ⟨r, rfl⟩ := head_form hh
    have e : mustG false (s :: r) s = .ok () r := by unfold mustG; rw [gate_ok]; unfold must; simp only; rw [if_pos trivial]
    rw [e] at hQ
    exact mu_yes h hQ
  · have e : mustG bad ts s = .bad ts := by
      unfold mustG
      cases bad with
      | true => rfl
      | false =>
        rw [gate_ok]
        cases ts with
        | nil => rfl
        | cons u r => unfold must; simp only; rw [if_neg fun e => hh ⟨rfl, by rw [e]; rfl⟩]
    rw [e] at hQ
    exact mu_no h s (by
      cases bad with
      | true => rfl
      | false => exact No.head (fun e => hh ⟨rfl, e⟩) _) hQ

theorem hide_world {P : World → Prop} {w : World} (h : P w) : ∃ w', w' = w ∧ P w' := ⟨w, rfl, h⟩

theorem row5_alloc {w : World} {c : Nat} {v0 v1 v2 v3 v4 : Value} {T : TypeId} (h : w.heap[c]? = some (.cells #[v0, v1, v2, v3, v4] T (0, 0))) (o : Obj) : (w.alloc o).heap[c]? = some (.cells #[v0, v1, v2, v3, v4] T (0, 0)) :=
  ((Below.alloc (Below.refl _ w) (Nat.le_refl _) o).block c (heap_lt h)).trans h

/-- In the middle of a function that puts a node together in box b3; the result's cell is c; r: what was read so far. -/
structure RwSt (w : World) (rb : Nat) (tv : Value) (xs : List To.T) (inn : Bool) (c b3 : Nat) (r : R Nd) (x : Nd) (cs : Array Value) (wr : World) : Prop where
  hA : RA w rb c wr
  rd : Rr wr rb tv xs r.rest inn r.isBad
  hb : c < b3
  box : wr.heap[b3]? = some (.cells cs TN (0, 0))
  node : NS wr TN (fun b => c < b ∧ b ≠ b3) (.agg cs) x
  is : r.Is x

theorem RwSt.below {w : World} {rb : Nat} {tv : Value} {xs : List To.T} {inn : Bool} {c b3 : Nat} {r : R Nd} {x : Nd} {cs : Array Value} {wr w' : World} (h : RwSt w rb tv xs inn c b3 r x cs wr) (hb : Below wr.heap.size wr w') : RwSt w rb tv xs inn c b3 r x cs w' :=
  ⟨h.hA.below hb, h.rd.later hb, h.hb, (hb.block _ (heap_lt h.box)).trans h.box, h.node.later hb, h.is⟩
/-- A step of the reader. -/
theorem RwSt.step {w : World} {rb : Nat} {tv : Value} {xs : List To.T} {inn : Bool} {c b3 : Nat} {r r' : R Nd} {x : Nd} {cs : Array Value} {wr w' : World} (h : RwSt w rb tv xs inn c b3 r x cs wr) (hs : Step wr w' (some rb)) (hr : Rr w' rb tv xs r'.rest inn r'.isBad) (hi : r'.Is x) : RwSt w rb tv xs inn c b3 r' x cs w' := by
  have hrb := h.hA.hrb
  have hcb := h.hb
  exact ⟨h.hA.step hs, hr, hcb, (hs.kept (heap_lt h.box) (by omega)).trans h.box, (NS.over h.node hs fun b hb => by omega).mono fun b hb _ => hb.1, hi⟩
/-- The node that a call gave, in a new box. -/
theorem RwSt.start {w : World} {rb : Nat} {tv : Value} {xs : List To.T} {inn : Bool} {c : Nat} {r : R Nd} {x : Nd} {v0 v1 v2 v3 v4 : Value} {w0 w1 : World} (h : RA w rb c w0) (hs : Step w0 w1 (some rb)) (hr : Rr w1 rb tv xs r.rest inn r.isBad) (hN : NR w1 TN w0.heap.size w1.heap.size (.agg #[v0, v1, v2, v3, v4]) x) (hi : r.Is x) :
    RwSt w rb tv xs inn c w1.heap.size r x #[v0, v1, v2, v3, v4] (w1.alloc (.cells #[v0, v1, v2, v3, v4] TN)) := by
  obtain ⟨hA, hn, hz⟩ := Put.new w1 #[v0, v1, v2, v3, v4] TN
  have hlt := h.lt
  have hs1 := hs.size
  exact ⟨(h.step hs).below hA, hr.later hA, by omega, hn, NS.later (hN.ns fun b h1 h2 => by omega) hA, hi⟩
/-- Its end: the box is read, and written into the result's cell. -/
theorem RwSt.fin {w : World} {rb : Nat} {tv : Value} {xs : List To.T} {inn : Bool} {c b3 : Nat} {r : R Nd} {x : Nd} {cs : Array Value} {wr w' : World} (h : RwSt w rb tv xs inn c b3 r x cs wr) (hp : Put wr w' c cs TN) : GotR w rb tv xs inn r (.returned (.agg cs)) w' :=
  h.hA.finR h.rd h.node (fun _ hb => hb.1) hp h.is

/-- A sign, and one more. -/
theorem RwSt.bin {w : World} {rb : Nat} {tv : Value} {xs : List To.T} {inn : Bool} {c b3 : Nat} {r r2 : R Nd} {x z : Nd} {s : Tx} {c0 c1 c2 c3 c4 d0 d1 d2 d3 d4 : Value} {w2 w6 w8 : World} (h : RwSt w rb tv xs inn c b3 r x #[c0, c1, c2, c3, c4] w2) (hs6 : Step w2 w6 (some rb)) (h6 : Rr w6 rb tv xs r2.rest inn r2.isBad)
    (hN : NR w6 TN w2.heap.size w6.heap.size (.agg #[d0, d1, d2, d3, d4]) z) (hz : r2.Is z) (hsl : s.length ≤ 65536)
    (hp : Put (w6.alloc (.cells #[c0, c1, c2, c3, c4, d0, d1, d2, d3, d4] TN)) w8 b3 #[.int .u8 5, .string (bs s), .slice (some ⟨w6.heap.size, 0, none⟩) 2 2, .slice none 0 0, .slice none 0 0] TN) :
    RwSt w rb tv xs inn c b3 (r2.map (Nd.bin s x)) (Nd.bin s x z) #[.int .u8 5, .string (bs s), .slice (some ⟨w6.heap.size, 0, none⟩) 2 2, .slice none 0 0, .slice none 0 0] w8 := by
  have hrb := h.hA.hrb
  have hcb := h.hb
  have hlt := h.hA.lt
  have hb3 := heap_lt h.box
  have hz6 := hs6.size
  obtain ⟨hA, hn, hzz⟩ := Put.new w6 #[c0, c1, c2, c3, c4, d0, d1, d2, d3, d4] TN
  have nx : NS w6 TN (fun b => (c < b ∧ b ≠ b3) ∧ b < w2.heap.size) (.agg #[c0, c1, c2, c3, c4]) x := NS.over h.node hs6 fun b hb => by omega
  have nz : NS w6 TN (fun b => w2.heap.size ≤ b) (.agg #[d0, d1, d2, d3, d4]) z := hN.ns fun b h1 _ => h1
  obtain ⟨F, hF, hnd, hS⟩ := NS.two nx nz fun b h1 h2 => by omega
  have hF8 : LF w8 TN F (.slice (some ⟨w6.heap.size, 0, none⟩) 2 2) (Ns.of [x, z]) := hF.frame fun b hb => hp.oth b (by have := hS b hb; omega)
  have hA8 : RA w rb c w8 := (((h.hA.step hs6).below hA).put hp hcb)
  refine ⟨hA8, ?_, hcb, hp.row, ⟨⟨5, s, .slice (some ⟨w6.heap.size, 0, none⟩) 2 2, .slice none 0 0, .slice none 0 0⟩, F, rfl, ⟨F, [], [], by simp, ⟨⟨rfl, (by decide : (5 : Nat) < 256)⟩, rfl, (by show s.length ≤ _; omega)⟩, hF8, LF.nil _ _, LF.nil _ _⟩, hnd, fun b hb => by have := hS b hb; omega⟩, hz.map _⟩
  rw [R.map_rest, R.map_isBad]
  exact (h6.later hA).put hp (by omega)
end Go.Proofs.YtcldcigopkfmmaaGreatDoor
