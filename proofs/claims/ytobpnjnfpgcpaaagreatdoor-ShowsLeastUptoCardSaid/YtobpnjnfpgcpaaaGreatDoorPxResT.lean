/- Trees: the reader: a function that gives a node: its result's cell, from its start to its end. -/
import Derived.Test.YtobpnjnfpgcpaaaGreatDoorPxRowT
namespace Go.Proofs.YtobpnjnfpgcpaaaGreatDoor
open Go.RowKit Go.My Go.Nd

/-- In the middle of a function that gives a node: the result's cell c holds nothing yet. -/
structure RA (w : World) (rb c : Nat) (w1 : World) : Prop where
  hc : c = w.heap.size
  hrb : rb < c
  st : Step w w1 (some rb)
  row : w1.heap[c]? = some (.cells #[.int .u8 0, .string ⟨#[]⟩, .slice none 0 0, .slice none 0 0, .slice none 0 0] TN (0, 0))

theorem RA.start {w : World} {rb : Nat} (h : rb < w.heap.size) : RA w rb w.heap.size (w.alloc (.cells #[.int .u8 0, .string ⟨#[]⟩, .slice none 0 0, .slice none 0 0, .slice none 0 0] TN)) :=
  ⟨rfl, h, Step.of_below (Put.new w _ TN).1, (Put.new w _ TN).2.1⟩
theorem RA.lt {w : World} {rb c : Nat} {w1 : World} (h : RA w rb c w1) : c < w1.heap.size := heap_lt h.row
theorem RA.step {w : World} {rb c : Nat} {w1 w2 : World} (h : RA w rb c w1) (hs : Step w1 w2 (some rb)) : RA w rb c w2 :=
  ⟨h.hc, h.hrb, h.st.trans hs, (hs.kept h.lt (Nat.ne_of_gt h.hrb)).trans h.row⟩
theorem RA.below {w : World} {rb c : Nat} {w1 w2 : World} (h : RA w rb c w1) (hs : Below w1.heap.size w1 w2) : RA w rb c w2 := h.step (Step.of_below hs)
/-- What is written into a block that is newer than the result's. -/
theorem RA.put {w : World} {rb c : Nat} {w1 w2 : World} {b : Nat} {cs : Array Value} {T : TypeId} (h : RA w rb c w1) (hp : Put w1 w2 b cs T) (hb : c < b) : RA w rb c w2 :=
  ⟨h.hc, h.hrb, h.st.put hp (by have := h.hc; omega), (hp.oth c (by omega)).trans h.row⟩
theorem RA.bad {w : World} {rb c : Nat} {w1 : World} {tv : Value} {xs : List To.T} {inn : Bool} {r : List Tx} (h : RA w rb c w1) (h1 : Rd w1 rb tv xs r inn) : Got w rb tv xs inn (.bad r) (.panicked wrongChain) w1 := ⟨h.st, h1, rfl⟩
theorem RA.fin {w : World} {rb c : Nat} {w1 w2 : World} {tv : Value} {xs : List To.T} {inn : Bool} {r : List Tx} {x : Nd} {cs : Array Value} {S : Nat → Prop} (h : RA w rb c w1) (h1 : Rd w1 rb tv xs r inn) (hN : NS w1 TN S (.agg cs) x) (hS : ∀ b, S b → c < b) (hp : Put w1 w2 c cs TN) :
    Got w rb tv xs inn (.ok x r) (.returned (.agg cs)) w2 := by
  have hc := h.hc
  refine ⟨h.st.put hp (by omega), h1.put hp h.hrb, _, rfl, ?_⟩
  exact (NS.frame hN fun b hb' _ => hp.oth b (by have := hS b hb'; omega)).nr fun b hb' => by have := hS b hb'; omega
/-- The node that a call gives, whatever was new at its start. -/
theorem NR.past {w w1 w2 : World} {rb c : Nat} {v : Value} {x : Nd} (h : RA w rb c w1) (hN : NR w2 TN w1.heap.size w2.heap.size v x) : NS w2 TN (fun b => c < b) v x :=
  hN.ns fun b h1 _ => by have := h.lt; omega
end Go.Proofs.YtobpnjnfpgcpaaaGreatDoor
