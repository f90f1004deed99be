/- Arguments, opened: programs as trees. No program in sight. -/
import Derived.Test.YtiefpffccmdcoaaDoorArgs2
import Derived.Test.YtiefpffccmdcoaaDoorNdMem
namespace Go.My
open Go.RowKit Go.Nd

/-- The types of a node, as the program numbers them: a list of nodes, a node, its kind, a string. -/
structure NodeTypes (P : Program) (tl tn tk ts : TypeId) : Prop where
  l : P.underlying tl = some (.slice tn)
  n : ∃ f0 f1 f2 f3 f4, P.underlying tn = some (.struct #[f0, f1, f2, f3, f4]) ∧ f0.type = tk ∧ f0.offset = 0 ∧ f1.type = ts ∧ f1.offset = 1 ∧ f2.type = tl ∧ f2.offset = 2 ∧ f3.type = tl ∧ f3.offset = 3 ∧ f4.type = tl ∧ f4.offset = 4
  k : P.underlying tk = some (.int .u8)
  s : P.underlying ts = some .string
  cn : P.cellsOf tn = 5
  ck : P.cellsOf tk = 1
  cs : P.cellsOf ts = 1
  cl : P.cellsOf tl = 1
  bn : P.bytesOf tn = 96

theorem list5 {cs : List Value} (h : cs.length = 5) : ∃ c0 c1 c2 c3 c4, cs = [c0, c1, c2, c3, c4] := by
  match cs, h with
  | [c0, c1, c2, c3, c4], _ => exact ⟨c0, c1, c2, c3, c4, rfl⟩
theorem list5' {α : Type} {cs : List α} (h : cs.length = 5) : ∃ c0 c1 c2 c3 c4, cs = [c0, c1, c2, c3, c4] := by
  match cs, h with
  | [c0, c1, c2, c3, c4], _ => exact ⟨c0, c1, c2, c3, c4, rfl⟩

/-- The five cells of one node, read. -/
theorem node_cells {H : Type} {enc : TypeId × Value → H} {P : Program} {W : World} {tl tn tk ts : TypeId} (T : NodeTypes P tl tn tk ts) {n : Nat} {cs : List Value} {y : DataW H × List MemPlace}
    (h : DataW.trod enc P W 0 (fun _ => true) true n tn cs = some y) (hw : Light P tn y.1) :
    ∃ (m k : Nat) (t : List UInt8) (v1 v2 v3 : Value) (y1 y2 y3 : DataW H × List MemPlace), n = m + 1 ∧ cs = [.int .u8 (k : Int), .string (tx t), v1, v2, v3] ∧ k < 256 ∧ t.length ≤ 140737488351232 ∧
      DataW.trod enc P W 0 (fun _ => true) true m tl [v1] = some y1 ∧ DataW.trod enc P W 0 (fun _ => true) true m tl [v2] = some y2 ∧ DataW.trod enc P W 0 (fun _ => true) true m tl [v3] = some y3 ∧
      Light P tl y1.1 ∧ Light P tl y2.1 ∧ Light P tl y3.1 := by
  obtain ⟨f0, f1, f2, f3, f4, hn, e0, o0, e1, o1, e2, o2, e3, o3, e4, o4⟩ := T.n
  obtain ⟨xs, m, rfl, rfl, hc, hx, hf⟩ := DataW.trod_struct hn h
  rw [T.cn] at hc
  obtain ⟨c0, c1, c2, c3, c4, rfl⟩ := list5 hc
  obtain ⟨y0, y1, y2, y3, y4, rfl⟩ := list5' (show xs.length = 5 from hx)
  have g0 := hf 0 f0 rfl
  have g1 := hf 1 f1 rfl
  have g2 := hf 2 f2 rfl
  have g3 := hf 3 f3 rfl
  have g4 := hf 4 f4 rfl
  rw [e0, o0, T.ck] at g0
  rw [e1, o1, T.cs] at g1
  rw [e2, o2, T.cl] at g2
  rw [e3, o3, T.cl] at g3
  rw [e4, o4, T.cl] at g4
  obtain ⟨z, hz, hy0, hwf⟩ := DataW.trod_int T.k (show DataW.trod enc P W 0 (fun _ => true) true m tk [c0] = some y0 from g0)
  obtain ⟨s, hs, hy1, _⟩ := DataW.trod_string T.s (show DataW.trod enc P W 0 (fun _ => true) true m ts [c1] = some y1 from g1)
  have hl := hw.fields hn
  have l1 := hl 1 ts y1.1 (by simp [e1]) rfl
  have l2 := hl 2 tl y2.1 (by simp [e2]) rfl
  have l3 := hl 3 tl y3.1 (by simp [e3]) rfl
  have l4 := hl 4 tl y4.1 (by simp [e4]) rfl
  have hz' : c0 = .int .u8 z := by simpa using hz
  have hs' : c1 = .string s := by simpa using hs
  simp [Lit.wf, IntKind.min, IntKind.max, IntKind.signed, IntKind.bits] at hwf
  refine ⟨m, z.toNat, s.data.toList, c2, c3, c4, y2, y3, y4, rfl, ?_, by omega, ?_, g2, g3, g4, l2, l3, l4⟩
  · have : ((z.toNat : Nat) : Int) = z := by omega
    rw [hz', hs', this]; rfl
  · have := l1 s.data.toList.length (by rw [hy1]; simp [DataW.weights])
    simpa [reachBytes] using this

/-- A list of nodes that comes in. -/
theorem nodes_of_trod {H : Type} {enc : TypeId × Value → H} {P : Program} {W : World} {tl tn tk ts : TypeId} (T : NodeTypes P tl tn tk ts) :
    ∀ (n : Nat) (v : Value) (y : DataW H × List MemPlace), DataW.trod enc P W 0 (fun _ => true) true n tl [v] = some y → Light P tl y.1 → ∃ xs : Ns, Nodes W (fun b => b < W.heap.size) false v xs := by
  intro n
  induction n using Nat.strongRecOn with
  | _ n ih =>
    intro v y h hw
    rcases DataW.trod_slice T.l h with ⟨hv, hy⟩ | ⟨a, len, cap, elems, rest, n', rfl, hv, hy, _, hlc, hcm, hel, helem, hrest, _⟩
    · obtain rfl : v = .slice none 0 0 := by simpa using hv
      exact ⟨.nil, none, 0, rfl, ⟨Nat.le_refl _, Nat.zero_le _, by decide, fun e => by cases e⟩, .nil none (fun e => by cases e)⟩
    · obtain rfl : v = .slice (some a) len cap := by simpa using hv
      rw [hy] at hw
      obtain ⟨hb, hd⟩ := hw.slice T.l
      rw [T.bn] at hb
      obtain ⟨hrl, _⟩ := hrest rfl
      have hlen : len * 96 ≤ 140737488351232 := by
        have h1 : (elems.map (·.1)).length = len := by simpa using hel
        rw [h1] at hb
        have h2 : len * 96 ≤ (len + (rest.map (·.1)).length) * 96 := Nat.mul_le_mul_right _ (Nat.le_add_right _ _)
        exact Nat.le_trans h2 hb
      rw [T.cn] at helem
      -- each node
      have each : ∀ i, i < len → ∃ (k : Nat) (t : List UInt8) (l body els : Ns) (a1 a2 a3 : Option Addr) (c1 c2 c3 : Nat), k < 256 ∧ t.length ≤ 140737488351232 ∧ (∀ j, j < 5 → W.cell? ((a.add (i * 5)).add j) = [Value.int .u8 (k : Int), .string (tx t), .slice a1 l.len c1, .slice a2 body.len c2, .slice a3 els.len c3][j]?) ∧
          Room false l.len c1 ∧ Room false body.len c2 ∧ Room false els.len c3 ∧ NodesAt W (fun b => b < W.heap.size) false a1 l ∧ NodesAt W (fun b => b < W.heap.size) false a2 body ∧ NodesAt W (fun b => b < W.heap.size) false a3 els := by
        intro i hi
        have h1 := helem i hi
        have hie : i < elems.length := by omega
        rw [List.getElem?_eq_getElem hie] at h1
        cases hc : W.cells? 0 (a.add (i * 5)) 5 with
        | none => rw [hc] at h1; cases h1
        | some cs =>
          rw [hc] at h1
          have h1' : DataW.trod enc P W 0 (fun _ => true) true n' tn cs = some elems[i] := h1
          obtain ⟨m, k, t, v1, v2, v3, y1, y2, y3, rfl, rfl, hk, ht, q1, q2, q3, l1, l2, l3⟩ := node_cells T h1' (hd _ (List.mem_map.2 ⟨_, List.getElem_mem hie, rfl⟩))
          obtain ⟨x1, a1, c1, e1, r1, n1⟩ := ih m (by omega) v1 y1 q1 l1
          obtain ⟨x2, a2, c2, e2, r2, n2⟩ := ih m (by omega) v2 y2 q2 l2
          obtain ⟨x3, a3, c3, e3, r3, n3⟩ := ih m (by omega) v3 y3 q3 l3
          subst e1 e2 e3
          exact ⟨k, t, x1, x2, x3, a1, a2, a3, c1, c2, c3, hk, ht, (World.cells?_some hc).2.2, r1, r2, r3, n1, n2, n3⟩
      by_cases h0 : len = 0
      · subst h0
        exact ⟨.nil, some a, cap, rfl, ⟨Nat.zero_le _, hcm, by decide, fun e => by cases e⟩, .nil _ (fun e => by cases e)⟩
      · obtain ⟨b, off, spot⟩ := a
        have hspot : spot = none := by
          obtain ⟨_, _, _, _, _, _, _, _, _, _, _, _, _, hcell, _⟩ := each 0 (by omega)
          simpa [Addr.add] using World.cell?_spot (hcell 0 (by decide))
        subst hspot
        have all : ∀ j, j ≤ len → ∃ xs : Ns, xs.len = j ∧ NodesAt W (fun b => b < W.heap.size) false (some ⟨b, off + (len - j) * 5, none⟩) xs := by
          intro j
          induction j with
          | zero => intro _; exact ⟨.nil, rfl, .nil _ (fun e => by cases e)⟩
          | succ j ihj =>
            intro hj
            obtain ⟨xs, hx, hN⟩ := ihj (by omega)
            obtain ⟨k, t, l, body, els, a1, a2, a3, c1, c2, c3, hk, ht, hcell, r1, r2, r3, n1, n2, n3⟩ := each (len - (j + 1)) (by omega)
            have e5 : off + (len - j) * 5 = off + (len - (j + 1)) * 5 + 5 := by
              have : len - j = len - (j + 1) + 1 := by omega
              rw [this, Nat.succ_mul]; omega
            rw [e5] at hN
            have q : ∀ o, o < 5 → W.cell? ⟨b, off + (len - (j + 1)) * 5 + o, none⟩ = [Value.int .u8 (k : Int), .string (tx t), .slice a1 l.len c1, .slice a2 body.len c2, .slice a3 els.len c3][o]? := by
              intro o ho
              have := hcell o ho
              rw [add_none, add_none] at this
              exact this
            have d0 := q 0 (by decide)
            rw [Nat.add_zero] at d0
            exact ⟨.cons k t l body els xs, by show (Ns.items _).length = _; rw [Ns.items_cons, List.length_cons]; exact congrArg (· + 1) hx,
              .cons (World.block_lt_of_cell? W _ d0) hk ht d0 (q 1 (by decide)) (q 2 (by decide)) (q 3 (by decide)) (q 4 (by decide)) r1 r2 r3 n1 n2 n3 hN⟩
        obtain ⟨xs, hx, hN⟩ := all len (Nat.le_refl _)
        rw [Nat.sub_self, Nat.zero_mul, Nat.add_zero] at hN
        subst hx
        exact ⟨xs, _, cap, rfl, ⟨hlc, hcm, hlen, fun e => by cases e⟩, hN⟩
end Go.My
