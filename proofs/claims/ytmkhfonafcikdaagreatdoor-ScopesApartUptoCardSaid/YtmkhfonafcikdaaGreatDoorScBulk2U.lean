/- NdBulk once more, each node and each function counted twice: so many nodes at most are half the bulk. Printed from NdBulk. -/
import Derived.Test.YtmkhfonafcikdaaGreatDoorTrB3
import Derived.Test.YtmkhfonafcikdaaGreatDoorScChkU
namespace Go.Nd
/-- How many nodes there are, twice, and bytes in them. -/
def Ns.sz2 : Ns → Nat
  | .nil => 0
  | .cons _ t l b e r => 2 + t.length + l.sz2 + b.sz2 + e.sz2 + r.sz2
def fsz2 (f : Fn) : Nat := 2 + f.name.length + (f.args.map (·.length + 1)).sum + f.body.sz2
def psz2 (p : Pr) : Nat := (p.funcs.map fsz2).sum + p.body.sz2
theorem sz_sz2 : ∀ xs : Ns, xs.sz + xs.flat.length ≤ xs.sz2 := by
  intro xs
  induction xs with
  | nil => exact Nat.le_refl _
  | cons k t l b e r ihl ihb ihe ihr =>
    show 1 + t.length + l.sz + b.sz + e.sz + r.sz + (_ :: (l.flat ++ (b.flat ++ (e.flat ++ r.flat)))).length ≤ 2 + t.length + l.sz2 + b.sz2 + e.sz2 + r.sz2
    simp only [List.length_cons, List.length_append]
    omega
theorem fsz_fsz2 (f : Fn) : fsz f + 1 ≤ fsz2 f := by
  have := sz_sz2 f.body
  unfold fsz fsz2; omega
theorem fs_fs2 (fs : List Fn) : (fs.map fsz).sum + fs.length ≤ (fs.map fsz2).sum := by
  induction fs with
  | nil => exact Nat.le_refl _
  | cons f fs ih =>
    have := fsz_fsz2 f
    simp only [List.map_cons, List.sum_cons, List.length_cons]; omega
theorem psz_psz2 (p : Pr) : psz p + p.funcs.length + p.body.flat.length ≤ psz2 p := by
  have h1 := fs_fs2 p.funcs
  have h2 := sz_sz2 p.body
  unfold psz psz2; omega
/-- Half of it. -/
theorem half_of_psz2 {p : Pr} (h : psz2 p ≤ 1048576) : psz p ≤ 1048576 ∧ p.funcs.length ≤ 524288 ∧ p.body.flat.length ≤ 524288 := by
  have h1 := psz_psz2 p
  have h2 := fs_len p.funcs
  have h3 := flat_sz p.body
  unfold psz at h1 ⊢
  omega
end Go.Nd
namespace Go.Proofs.YtmkhfonafcikdaaGreatDoor
open Go.RowKit Go.My Go.Nd

theorem node_cellsV {H : Type} {enc : TypeId × Value → H} {P : Program} {W : World} {tl tn tk ts : TypeId} (T : NodeTypes P tl tn tk ts) {n : Nat} {cs : List Value} {y : DataW H × List MemPlace}
    (h : DataW.trod enc P W 0 (fun _ => true) true n tn cs = some y) (hw : Light P tn y.1) :
    ∃ (m k : Nat) (t : List UInt8) (v1 v2 v3 : Value) (y1 y2 y3 : DataW H × List MemPlace), n = m + 1 ∧ cs = [.int .u8 (k : Int), .string (tx t), v1, v2, v3] ∧ k < 256 ∧ t.length ≤ 140737488351232 ∧
      DataW.trod enc P W 0 (fun _ => true) true m tl [v1] = some y1 ∧ DataW.trod enc P W 0 (fun _ => true) true m tl [v2] = some y2 ∧ DataW.trod enc P W 0 (fun _ => true) true m tl [v3] = some y3 ∧
      Light P tl y1.1 ∧ Light P tl y2.1 ∧ Light P tl y3.1 ∧ 2 + t.length + Rows.uptoBulk y1.1 + Rows.uptoBulk y2.1 + Rows.uptoBulk y3.1 ≤ Rows.uptoBulk y.1 := by
  obtain ⟨f0, f1, f2, f3, f4, hn, e0, o0, e1, o1, e2, o2, e3, o3, e4, o4⟩ := T.n
  obtain ⟨xs, m, rfl, rfl, hc, hx, hf⟩ := DataW.trod_struct hn h
  rw [T.cn] at hc
  obtain ⟨c0, c1, c2, c3, c4, rfl⟩ := list5 hc
  obtain ⟨y0, y1, y2, y3, y4, rfl⟩ := list5' (show xs.length = 5 from hx)
  have g0 := hf 0 f0 rfl
  have g1 := hf 1 f1 rfl
  have g2 := hf 2 f2 rfl
  have g3 := hf 3 f3 rfl
  have g4 := hf 4 f4 rfl
  rw [e0, o0, T.ck] at g0
  rw [e1, o1, T.cs] at g1
  rw [e2, o2, T.cl] at g2
  rw [e3, o3, T.cl] at g3
  rw [e4, o4, T.cl] at g4
  obtain ⟨z, hz, hy0, hwf⟩ := DataW.trod_int T.k (show DataW.trod enc P W 0 (fun _ => true) true m tk [c0] = some y0 from g0)
  obtain ⟨s, hs, hy1, _⟩ := DataW.trod_string T.s (show DataW.trod enc P W 0 (fun _ => true) true m ts [c1] = some y1 from g1)
  have hl := hw.fields hn
  have l1 := hl 1 ts y1.1 (by simp [e1]) rfl
  have l2 := hl 2 tl y2.1 (by simp [e2]) rfl
  have l3 := hl 3 tl y3.1 (by simp [e3]) rfl
  have l4 := hl 4 tl y4.1 (by simp [e4]) rfl
  have hz' : c0 = .int .u8 z := by simpa using hz
  have hs' : c1 = .string s := by simpa using hs
  simp [Lit.wf, IntKind.min, IntKind.max, IntKind.signed, IntKind.bits] at hwf
  refine ⟨m, z.toNat, s.data.toList, c2, c3, c4, y2, y3, y4, rfl, ?_, by omega, ?_, g2, g3, g4, l2, l3, l4, ?_⟩
  · have : ((z.toNat : Nat) : Int) = z := by omega
    rw [hz', hs', this]; rfl
  · have := l1 s.data.toList.length (by rw [hy1]; simp [DataW.weights])
    simpa [reachBytes] using this
  · have := bulk_one y0.1
    simp only [List.map_cons, List.map_nil, Rows.uptoBulk, Rows.uptoBulkAll]
    rw [hy1]
    simp only [Rows.uptoBulk]
    omega
theorem nodes_of_trodV {H : Type} {enc : TypeId × Value → H} {P : Program} {W : World} {tl tn tk ts : TypeId} (T : NodeTypes P tl tn tk ts) :
    ∀ (n : Nat) (v : Value) (y : DataW H × List MemPlace), DataW.trod enc P W 0 (fun _ => true) true n tl [v] = some y → Light P tl y.1 → ∃ xs : Ns, Nodes W (fun b => b < W.heap.size) false v xs ∧ xs.sz2 ≤ Rows.uptoBulk y.1 := by
  intro n
  induction n using Nat.strongRecOn with
  | _ n ih =>
    intro v y h hw
    rcases DataW.trod_slice T.l h with ⟨hv, hy⟩ | ⟨a, len, cap, elems, rest, n', rfl, hv, hy, _, hlc, hcm, hel, helem, hrest, _⟩
    · obtain rfl : v = .slice none 0 0 := by simpa using hv
      exact ⟨.nil, ⟨none, 0, rfl, ⟨Nat.le_refl _, Nat.zero_le _, by decide, fun e => by cases e⟩, .nil none (fun e => by cases e)⟩, Nat.zero_le _⟩
    · obtain rfl : v = .slice (some a) len cap := by simpa using hv
      rw [hy] at hw
      obtain ⟨hb, hd⟩ := hw.slice T.l
      rw [T.bn] at hb
      obtain ⟨hrl, _⟩ := hrest rfl
      have hlen : len * 96 ≤ 140737488351232 := by
        have h1 : (elems.map (·.1)).length = len := by simpa using hel
        rw [h1] at hb
        have h2 : len * 96 ≤ (len + (rest.map (·.1)).length) * 96 := Nat.mul_le_mul_right _ (Nat.le_add_right _ _)
        exact Nat.le_trans h2 hb
      rw [T.cn] at helem
      have hbulk : Rows.uptoBulkAll (elems.map (·.1)) ≤ Rows.uptoBulk y.1 := by rw [hy]; simp only [Rows.uptoBulk]; omega
      -- each node
      have each : ∀ i (hie : i < elems.length), i < len → ∃ (k : Nat) (t : List UInt8) (l body els : Ns) (a1 a2 a3 : Option Addr) (c1 c2 c3 : Nat), k < 256 ∧ t.length ≤ 140737488351232 ∧ (∀ j, j < 5 → W.cell? ((a.add (i * 5)).add j) = [Value.int .u8 (k : Int), .string (tx t), .slice a1 l.len c1, .slice a2 body.len c2, .slice a3 els.len c3][j]?) ∧
          Room false l.len c1 ∧ Room false body.len c2 ∧ Room false els.len c3 ∧ NodesAt W (fun b => b < W.heap.size) false a1 l ∧ NodesAt W (fun b => b < W.heap.size) false a2 body ∧ NodesAt W (fun b => b < W.heap.size) false a3 els ∧ 2 + t.length + l.sz2 + body.sz2 + els.sz2 ≤ Rows.uptoBulk (elems[i]).1 := by
        intro i hie hi
        have h1 := helem i hi
        rw [List.getElem?_eq_getElem hie] at h1
        cases hc : W.cells? 0 (a.add (i * 5)) 5 with
        | none => rw [hc] at h1; cases h1
        | some cs =>
          rw [hc] at h1
          have h1' : DataW.trod enc P W 0 (fun _ => true) true n' tn cs = some elems[i] := h1
          obtain ⟨m, k, t, v1, v2, v3, y1, y2, y3, rfl, rfl, hk, ht, q1, q2, q3, l1, l2, l3, hbk⟩ := node_cellsV T h1' (hd _ (List.mem_map.2 ⟨_, List.getElem_mem hie, rfl⟩))
          obtain ⟨x1, ⟨a1, c1, e1, r1, n1⟩, b1⟩ := ih m (by omega) v1 y1 q1 l1
          obtain ⟨x2, ⟨a2, c2, e2, r2, n2⟩, b2⟩ := ih m (by omega) v2 y2 q2 l2
          obtain ⟨x3, ⟨a3, c3, e3, r3, n3⟩, b3⟩ := ih m (by omega) v3 y3 q3 l3
          subst e1 e2 e3
          exact ⟨k, t, x1, x2, x3, a1, a2, a3, c1, c2, c3, hk, ht, (World.cells?_some hc).2.2, r1, r2, r3, n1, n2, n3, by omega⟩
      by_cases h0 : len = 0
      · subst h0
        exact ⟨.nil, ⟨some a, cap, rfl, ⟨Nat.zero_le _, hcm, by decide, fun e => by cases e⟩, .nil _ (fun e => by cases e)⟩, Nat.zero_le _⟩
      · obtain ⟨b, off, spot⟩ := a
        have hspot : spot = none := by
          obtain ⟨_, _, _, _, _, _, _, _, _, _, _, _, _, hcell, _⟩ := each 0 (by omega) (by omega)
          simpa [Addr.add] using World.cell?_spot (hcell 0 (by decide))
        subst hspot
        have all : ∀ j, j ≤ len → ∃ xs : Ns, xs.len = j ∧ NodesAt W (fun b => b < W.heap.size) false (some ⟨b, off + (len - j) * 5, none⟩) xs ∧ xs.sz2 ≤ Rows.uptoBulkAll ((elems.drop (len - j)).map (·.1)) := by
          intro j
          induction j with
          | zero => intro _; exact ⟨.nil, rfl, .nil _ (fun e => by cases e), Nat.zero_le _⟩
          | succ j ihj =>
            intro hj
            obtain ⟨xs, hx, hN, hB⟩ := ihj (by omega)
            obtain ⟨k, t, l, body, els, a1, a2, a3, c1, c2, c3, hk, ht, hcell, r1, r2, r3, n1, n2, n3, hbk⟩ := each (len - (j + 1)) (by omega) (by omega)
            have e6 : len - j = len - (j + 1) + 1 := by omega
            have e5 : off + (len - j) * 5 = off + (len - (j + 1)) * 5 + 5 := by
              rw [e6, Nat.succ_mul]; omega
            rw [e5] at hN
            have q : ∀ o, o < 5 → W.cell? ⟨b, off + (len - (j + 1)) * 5 + o, none⟩ = [Value.int .u8 (k : Int), .string (tx t), .slice a1 l.len c1, .slice a2 body.len c2, .slice a3 els.len c3][o]? := by
              intro o ho
              have := hcell o ho
              rw [add_none, add_none] at this
              exact this
            have d0 := q 0 (by decide)
            rw [Nat.add_zero] at d0
            refine ⟨.cons k t l body els xs, by show (Ns.items _).length = _; rw [Ns.items_cons, List.length_cons]; exact congrArg (· + 1) hx,
              .cons (World.block_lt_of_cell? W _ d0) hk ht d0 (q 1 (by decide)) (q 2 (by decide)) (q 3 (by decide)) (q 4 (by decide)) r1 r2 r3 n1 n2 n3 hN, ?_⟩
            rw [List.drop_eq_getElem_cons (show len - (j + 1) < elems.length by omega), ← e6, List.map_cons]
            simp only [Rows.uptoBulkAll]
            show 2 + t.length + l.sz2 + body.sz2 + els.sz2 + xs.sz2 ≤ _
            omega
        obtain ⟨xs, hx, hN, hB⟩ := all len (Nat.le_refl _)
        rw [Nat.sub_self, Nat.zero_mul, Nat.add_zero] at hN
        rw [Nat.sub_self, List.drop_zero] at hB
        subst hx
        exact ⟨xs, ⟨_, cap, rfl, ⟨hlc, hcm, hlen, fun e => by cases e⟩, hN⟩, by omega⟩
theorem fn_cellsV {H : Type} {enc : TypeId × Value → H} {P : Program} {W : World} {tF tf ta tl tn tk ts : TypeId} (T : FnTypes P tF tf ta tl tn tk ts) {n : Nat} {cs : List Value} {y : DataW H × List MemPlace}
    (h : DataW.trod enc P W 0 (fun _ => true) true n tf cs = some y) (hw : Light P tf y.1) :
    ∃ (f : Nd.Fn) (v1 v2 : Value), cs = [.string (tx f.name), v1, v2] ∧ f.name.length ≤ 140737488351232 ∧ TextsIn W (fun b => b < W.heap.size) false v1 f.args ∧ Nodes W (fun b => b < W.heap.size) false v2 f.body ∧ fsz2 f ≤ Rows.uptoBulk y.1 := by
  obtain ⟨f0, f1, f2, hn, e0, o0, e1, o1, e2, o2⟩ := T.f
  obtain ⟨xs, m, rfl, rfl, hc, hx, hf⟩ := DataW.trod_struct hn h
  rw [T.cf] at hc
  obtain ⟨c0, c1, c2, rfl⟩ := list3 hc
  obtain ⟨y0, y1, y2, rfl⟩ := list3' (show xs.length = 3 from hx)
  have g0 := hf 0 f0 rfl
  have g1 := hf 1 f1 rfl
  have g2 := hf 2 f2 rfl
  rw [e0, o0, T.node.cs] at g0
  rw [e1, o1, T.ca] at g1
  rw [e2, o2, T.node.cl] at g2
  have hl := hw.fields hn
  have l0 := hl 0 ts y0.1 (by simp [e0]) rfl
  have l1 := hl 1 ta y1.1 (by simp [e1]) rfl
  have l2 := hl 2 tl y2.1 (by simp [e2]) rfl
  have g0' := show DataW.trod enc P W 0 (fun _ => true) true m ts [c0] = some y0 from g0
  obtain ⟨s, hs, hy1, _⟩ := DataW.trod_string T.node.s g0'
  have htl := l0 s.data.toList.length (by rw [hy1]; simp [DataW.weights])
  obtain ⟨ags, has, bas⟩ := texts_of_trodU T.text (show DataW.trod enc P W 0 (fun _ => true) true m ta [c1] = some y1 from g1) l1
  obtain ⟨bd, hbd, bbd⟩ := nodes_of_trodV T.node m c2 y2 (show DataW.trod enc P W 0 (fun _ => true) true m tl [c2] = some y2 from g2) l2
  have ht' : c0 = .string s := by simpa using hs
  refine ⟨⟨s.data.toList, ags, bd⟩, c1, c2, by rw [ht']; rfl, by simpa [reachBytes] using htl, has, hbd, ?_⟩
  simp only [List.map_cons, List.map_nil, Rows.uptoBulk, Rows.uptoBulkAll]
  rw [hy1]
  simp only [Rows.uptoBulk]
  unfold fsz2
  simp only
  omega
open Go.ChangeShapes Go.WideShapes Go.ChangeAt Go.Deep in
theorem funcs_of_trodV {H : Type} {enc : TypeId × Value → H} {P : Program} {W : World} {tF tf ta tl tn tk ts : TypeId} (T : FnTypes P tF tf ta tl tn tk ts) {n : Nat} {v : Value} {y : DataW H × List MemPlace}
    (hf : DataW.trod enc P W 0 (fun _ => true) true n tF [v] = some y) (hw : Light P tF y.1) : ∃ l : List Nd.Fn, FuncsIn W (fun b => b < W.heap.size) false v l ∧ (l.map fsz2).sum ≤ Rows.uptoBulk y.1 := by
  rcases DataW.trod_slice T.l hf with ⟨hvv, hy⟩ | ⟨a, len, cap, elems, rest, n', rfl, hvv, hy, _, hlc, hcm, hel, helem, hrest, _⟩
  · obtain rfl : v = .slice none 0 0 := by simpa using hvv
    exact ⟨[], ⟨none, 0, rfl, Nat.le_refl _, Nat.zero_le _, by decide, (fun e => by cases e), fun i hi => absurd hi (Nat.not_lt_zero _)⟩, Nat.zero_le _⟩
  · obtain rfl : v = .slice (some a) len cap := by simpa using hvv
    rw [hy] at hw
    obtain ⟨hb, hd⟩ := hw.slice T.l
    rw [T.bf] at hb
    obtain ⟨hrl, _⟩ := hrest rfl
    have hlen : len * 64 ≤ 140737488351232 := by
      have h1 : (elems.map (·.1)).length = len := by simpa using hel
      rw [h1] at hb
      have h2 : len * 64 ≤ (len + (rest.map (·.1)).length) * 64 := Nat.mul_le_mul_right _ (Nat.le_add_right _ _)
      first | exact Nat.le_trans h2 hb | (unfold reachBytes at hb; omega)
    rw [T.cf] at helem
    have hbulk : Rows.uptoBulkAll (elems.map (·.1)) ≤ Rows.uptoBulk y.1 := by rw [hy]; simp only [Rows.uptoBulk]; omega
    have each : ∀ i, i < len → ∃ x : Nd.Fn, ∃ v1 v2, x.name.length ≤ 140737488351232 ∧ TextsIn W (fun b => b < W.heap.size) false v1 x.args ∧ Nodes W (fun b => b < W.heap.size) false v2 x.body ∧ (∀ j, j < 3 → W.cell? ((a.add (i * 3)).add j) = [Value.string (tx x.name), v1, v2][j]?) ∧ ∀ (h : i < elems.length), fsz2 x ≤ Rows.uptoBulk (elems[i]).1 := by
      intro i hi
      have h1 := helem i hi
      have hie : i < elems.length := by omega
      rw [List.getElem?_eq_getElem hie] at h1
      cases hc : W.cells? 0 (a.add (i * 3)) 3 with
      | none => rw [hc] at h1; cases h1
      | some cs =>
        rw [hc] at h1
        have h1' : DataW.trod enc P W 0 (fun _ => true) true n' tf cs = some elems[i] := h1
        obtain ⟨f, v1, v2, rfl, ht, h2, h3, hbk⟩ := fn_cellsV T h1' (hd _ (List.mem_map.2 ⟨_, List.getElem_mem hie, rfl⟩))
        exact ⟨f, v1, v2, ht, h2, h3, (World.cells?_some hc).2.2, fun _ => hbk⟩
    have : Inhabited Nd.Fn := ⟨⟨[], [], .nil⟩⟩
    obtain ⟨y', hy'⟩ := choose_lt each
    refine ⟨(List.range len).map y', ⟨some a, cap, by simp, by simp; exact hlc, hcm, by simpa using hlen, (fun e => by cases e), fun i hi => ?_⟩, ?_⟩
    · have hi2 : i < len := by simpa using hi
      simp only [List.getElem_map, List.getElem_range]
      obtain ⟨v1, v2, h1, h2, h3, h4, _⟩ := hy' i hi2
      obtain ⟨b, off, spot⟩ := a
      have c0 := h4 0 (by decide)
      have hspot : spot = none := by
        obtain ⟨_, _, _, _, _, h5, _⟩ := hy' 0 (by omega)
        simpa [Addr.add] using World.cell?_spot (h5 0 (by decide))
      subst hspot
      have c1 := h4 1 (by decide)
      have c2 := h4 2 (by decide)
      rw [add_none, add_none] at c0 c1 c2
      rw [Nat.add_zero] at c0
      exact ⟨b, off, v1, v2, rfl, World.block_lt_of_cell? W _ c0, h1, c0, c1, c2, h2, h3⟩
    · have := sum_bulk' (elems.map (·.1)) len (by simpa using hel) y' fsz2 (fun i hi => by
        have hi2 : i < elems.length := by simpa using hi
        obtain ⟨_, _, _, _, _, _, h⟩ := hy' i (by omega)
        rw [List.getElem_map]
        exact h hi2)
      omega
end Go.Proofs.YtmkhfonafcikdaaGreatDoor
