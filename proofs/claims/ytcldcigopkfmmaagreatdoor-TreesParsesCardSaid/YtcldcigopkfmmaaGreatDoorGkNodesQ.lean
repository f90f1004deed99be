/- A book is told a list of nodes: it, and all lists in it. -/
import Derived.Test.YtcldcigopkfmmaaGreatDoorGkHeldQ
namespace Go.Proofs.YtcldcigopkfmmaaGreatDoor
open Go.RowKit Go.My Go.Nd

theorem elCells_at (els : List El) (i : Nat) (hi : i < els.length) : (elCells els)[i * 5]? = some (.int .u8 (els[i].kind : Int)) ∧ (elCells els)[i * 5 + 1]? = some (.string (tx els[i].text)) ∧ (elCells els)[i * 5 + 2]? = some els[i].v1 ∧ (elCells els)[i * 5 + 3]? = some els[i].v2 ∧ (elCells els)[i * 5 + 4]? = some els[i].v3 := by
  induction els generalizing i with
  | nil => exact absurd hi (Nat.not_lt_zero _)
  | cons x els ih =>
    rw [elCells_cons]
    cases i with
    | zero => exact ⟨rfl, rfl, rfl, rfl, rfl⟩
    | succ i =>
      have := ih i (by simpa using hi)
      rw [show (i + 1) * 5 = i * 5 + 5 by omega]
      exact this
theorem own_cells {w : World} {e : TypeId} {size n : Nat} {v : Value} {xs : List Value} {k : Option Nat} (h : Go.My.Own w e size v n xs k) (hn : 0 < n) : ∃ b off cap, v = .slice (some ⟨b, off, none⟩) n cap ∧ k = some b ∧ ∀ j u, xs[j]? = some u → w.cell? ⟨b, off + j, none⟩ = some u := by
  obtain ⟨h1, h2⟩ := h
  rcases h2 with ⟨_, h0, _⟩ | ⟨b, off, cap, cur, rfl, rfl, hh, h3, h4, h5, h6⟩
  · omega
  · refine ⟨b, off, cap, rfl, rfl, fun j u hu => ?_⟩
    have hj : j < n * size := by rw [← h1]; exact (List.getElem?_eq_some_iff.1 hu).1
    rw [cell_of_row w b (off + j) cur e (0, 0) hh, ← hu, ← h6, List.getElem?_take, if_pos hj, List.getElem?_drop, Array.getElem?_toList]

def AddSaid (xs : Ns) : Prop := ∀ (w : World) (g : Tags) (bp tot : Nat) (cs : Array Value) (hT hN hF : List Ent) (v : Value) (F : List Nat), Bk3 w g bp tot cs hT hN hF → LF w TN F v xs → Low g F → tot + xs.cn < 1000000000 → ∀ (Q : Ending → World → Prop),
  (∀ w' g' cs' es, Turn w g w' g' bookT → Bk3 w' g' bp (tot + xs.cn) cs' hT (hN ++ es) hF → HeldK kNode w' es F → Q (.returned (.tuple #[])) w') → Calls Tryz.prog 65 #[.pointer (some ⟨bp, 0, none⟩), v] w Q

/-- A node is told. -/
theorem node_add {x : Nd} (i1 : AddSaid x.l) (i2 : AddSaid x.body) (i3 : AddSaid x.els) {w : World} {g : Tags} {bp tot : Nat} {cs : Array Value} {hT hN hF : List Ent} {k : Nat} {t : ByteArray} {v1 v2 v3 : Value} {F1 F2 F3 : List Nat} (hB : Bk3 w g bp tot cs hT hN hF)
    (l1 : LF w TN F1 v1 x.l) (l2 : LF w TN F2 v2 x.body) (l3 : LF w TN F3 v3 x.els) (hg : Low g (F1 ++ (F2 ++ F3))) (ht : tot + nd3 x < 1000000000) {Q : Ending → World → Prop}
    (h : ∀ w' g' cs' es, Turn w g w' g' bookT → Bk3 w' g' bp (tot + nd3 x) cs' hT (hN ++ es) hF → HeldK kNode w' es (F1 ++ (F2 ++ F3)) → Q (.returned (.tuple #[])) w') :
    Calls Tryz.prog 118 #[.pointer (some ⟨bp, 0, none⟩), .agg #[.int .u8 (k : Int), .string t, v1, v2, v3]] w Q := by
  obtain ⟨a1, c1, rfl⟩ := l1.form
  obtain ⟨a2, c2, rfl⟩ := l2.form
  obtain ⟨a3, c3, rfl⟩ := l3.form
  have H := Lib.hid h
  have T0 := Turn.alloc w g 900 (.cells #[.int .u8 (k : Int), .string t, .slice a1 x.l.len c1, .slice a2 x.body.len c2, .slice a3 x.els.len c3] 74)
  have hA := Below.alloc (Below.refl w.heap.size w) (Nat.le_refl _) (.cells #[.int .u8 (k : Int), .string t, .slice a1 x.l.len c1, .slice a2 x.body.len c2, .slice a3 x.els.len c3] 74)
  have b0 := Bx.alloc w g 74 900 #[.int .u8 (k : Int), .string t, .slice a1 x.l.len c1, .slice a2 x.body.len c2, .slice a3 x.els.len c3]
  have e1 : ∀ {F v xs}, LF w TN F v xs → LF (w.alloc (.cells #[.int .u8 (k : Int), .string t, .slice a1 x.l.len c1, .slice a2 x.body.len c2, .slice a3 x.els.len c3] 74)) TN F v xs := fun h => h.frame fun b hb => hA.block b (h.lt b hb)
  have X0 := Lib.hid (And.intro T0 (And.intro (hB.next T0) (And.intro b0 (And.intro (e1 l1) (And.intro (e1 l2) (e1 l3))))))
  have L0 := Lib.hid (hg.turn T0 fun b hb => by
    rcases List.mem_append.1 hb with hb | hb
    · exact l1.lt b hb
    · rcases List.mem_append.1 hb with hb | hb
      · exact l2.lt b hb
      · exact l3.lt b hb)
  have HT := Lib.hid (And.intro ht (And.intro i1 (And.intro i2 i3)))
  clear T0 hA b0 e1 h hB l1 l2 l3 hg ht i1 i2 i3
  go_enter Tryz.func118, Tryz.ntmps118
  obtain ⟨bx, hbx⟩ : ∃ bx, bx = w.heap.size := ⟨_, rfl⟩
  rw [← hbx] at X0 L0
  go_upto_region 1 with fail
  rw [← hbx]
  generalize hw1 : w.alloc (.cells #[.int .u8 (k : Int), .string t, .slice a1 x.l.len c1, .slice a2 x.body.len c2, .slice a3 x.els.len c3] 74) = w1 at *
  generalize g.ext bx 900 = g1 at *
  clear hw1 hbx
  have p2 : w1.cell? ⟨bx, 2, none⟩ = some (.slice a1 x.l.len c1) := (X0.out.2.2.1.cell 2).1
  go_wp2_with fail
  clear p2
  refine HT.out.2.1 w1 g1 bp tot cs hT hN hF _ F1 X0.out.2.1 X0.out.2.2.2.1 L0.out.left (by have := HT.out.1; unfold nd3 at this; omega) _ fun w2 g2 cs2 es1 T2 B2 h1 => ?_
  have s2 : ∀ {F v xs}, LF w1 TN F v xs → Low g1 F → LF w2 TN F v xs := fun h hl => h.frame (hl.keep T2 h.lt)
  have X1 := Lib.hid (And.intro (X0.out.1.trans T2 (V := bookT) (by simp) (fun _ h => h)) (And.intro B2 (And.intro (X0.out.2.2.1.turn T2 (by decide)) (And.intro (s2 X0.out.2.2.2.2.1 L0.out.right.left) (s2 X0.out.2.2.2.2.2 L0.out.right.right)))))
  have L1 := Lib.hid (L0.out.turn T2 fun b hb => by
    rcases List.mem_append.1 hb with hb | hb
    · exact X0.out.2.2.2.1.lt b hb
    · rcases List.mem_append.1 hb with hb | hb
      · exact X0.out.2.2.2.2.1.lt b hb
      · exact X0.out.2.2.2.2.2.lt b hb)
  have HH1 := Lib.hid h1
  clear T2 B2 h1 s2 X0
  have p3 : w2.cell? ⟨bx, 3, none⟩ = some (.slice a2 x.body.len c2) := (X1.out.2.2.1.cell 3).1
  go_wp2_with fail
  clear p3
  refine HT.out.2.2.1 w2 g2 bp (tot + x.l.cn) cs2 hT (hN ++ es1) hF _ F2 X1.out.2.1 X1.out.2.2.2.1 L1.out.right.left (by have := HT.out.1; unfold nd3 at this; omega) _ fun w3 g3 cs3 es2 T3 B3 h2 => ?_
  have X2 := Lib.hid (And.intro (X1.out.1.trans T3 (V := bookT) (fun _ h => h) (fun _ h => h)) (And.intro B3 (And.intro (X1.out.2.2.1.turn T3 (by decide)) (X1.out.2.2.2.2.frame (L1.out.right.right.keep T3 X1.out.2.2.2.2.lt)))))
  have L2 := Lib.hid (L1.out.right.right.turn T3 X1.out.2.2.2.2.lt)
  have HH2 := Lib.hid (And.intro (HH1.out.frame (L1.out.left.keep T3 HH1.out.lt)) h2)
  have LL := Lib.hid (And.intro (L1.out.left.turn T3 HH1.out.lt) (L1.out.right.left.turn T3 X1.out.2.2.2.1.lt))
  clear T3 B3 h2 X1 HH1 L1
  have p4 : w3.cell? ⟨bx, 4, none⟩ = some (.slice a3 x.els.len c3) := (X2.out.2.2.1.cell 4).1
  go_wp2_with fail
  clear p4
  refine HT.out.2.2.2 w3 g3 bp (tot + x.l.cn + x.body.cn) cs3 hT (hN ++ es1 ++ es2) hF _ F3 X2.out.2.1 X2.out.2.2.2 L2.out (by have := HT.out.1; unfold nd3 at this; omega) _ fun w4 g4 cs4 es3 T4 B4 h3 => ?_
  have X3 := Lib.hid (H.out w4 g4 cs4 (es1 ++ (es2 ++ es3)) (X2.out.1.trans T4 (V := bookT) (fun _ h => h) (fun _ h => h)) (by
    have := B4
    rw [List.append_assoc, List.append_assoc] at this
    unfold nd3
    rw [show tot + (x.l.cn + x.body.cn + x.els.cn) = tot + x.l.cn + x.body.cn + x.els.cn by omega]
    exact this) ((HH2.out.1.frame (LL.out.1.keep T4 HH2.out.1.lt)).app ((HH2.out.2.frame (LL.out.2.keep T4 HH2.out.2.lt)).app h3)))
  clear T4 B4 h3
  go_wp2_with fail
  go_end0
  exact X3.out

def AnAt (w : World) (g : Tags) (bp tot : Nat) (hT hN hF : List Ent) (xs : Ns) (n : Nat) (f1 f2 f3 : Nat → List Nat) (gk : Nat) (v4 : Value) (wr : World) : Prop :=
  ∃ (i : Nat) (g' : Tags) (cs' : Array Value) (es : List Ent), i ≤ n ∧ gk = n - i ∧ v4 = .int .i64 (i : Int) ∧ Turn w g wr g' bookT ∧ Bk3 wr g' bp (tot + ((xs.items.take i).map nd3).sum) cs' hT (hN ++ es) hF ∧ HeldK kNode wr es ((List.range i).flatMap fun j => f1 j ++ (f2 j ++ f3 j))

set_option maxHeartbeats 4000000 in
theorem nodes_add : ∀ xs, AddSaid xs := by
  refine Ns.each fun xs ih w g bp tot cs hT hN hF v F hB hL hg ht Q h => ?_
  obtain ⟨av, cv, rfl⟩ := hL.form
  have hltF := hL.lt
  cases hL with
  | @mk _ _ els k f1 f2 f3 ho hn he hk g1 g2 g3 =>
    have H := Lib.hid h
    have HB := Lib.hid hB
    have IH := Lib.hid ih
    have HT := Lib.hid ht
    have HG := Lib.hid (And.intro hg hltF)
    have HO := Lib.hid (And.intro ho (And.intro hk (And.intro g1 (And.intro g2 g3))))
    have hlen : xs.len = xs.items.length := rfl
    have l1 : xs.len ≤ 1000000000 := by have := cn_len xs; omega
    have HE := Lib.hid (And.intro he l1)
    have l2 : (xs.len : Int) ≤ 1000000000 := by omega
    clear h hB ih ht hg hltF ho hk g1 g2 g3 hn he l1 hlen
    go_enter Tryz.func65, Tryz.ntmps65
    go_wp2_with fail
    go_loopg [4] xs.len (fun gk v4 wr => AnAt w g bp tot hT hN hF xs xs.len f1 f2 f3 gk v4 wr)
    case atStart => exact ⟨0, g, cs, [], Nat.zero_le _, rfl, rfl, Turn.refl _ _ _, by simpa using HB.out, HeldK.nil _ _⟩
    case round =>
      obtain ⟨i, g', cs', es, hi, rfl, rfl, hT1, hB1, hH1⟩ := hrel
      have i0 : (0 : Int) ≤ (i : Int) := by omega
      have hkeep := fun b (hb : b ∈ k.toList ++ (List.range els.length).flatMap fun j => f1 j ++ (f2 j ++ f3 j)) => HG.out.1.keep hT1 HG.out.2 b hb
      have hlow := HG.out.1.turn hT1 HG.out.2
      have hown := HO.out.1.frame (w' := wr) fun b hb => hkeep b (List.mem_append_left _ (by rw [hb]; simp))
      have X := Lib.hid (And.intro hT1 (And.intro hB1 (And.intro hH1 hown)))
      have HK := Lib.hid (And.intro hkeep hlow)
      clear hT1 hB1 hH1 hkeep hlow
      by_cases hlt : i < xs.len
      · have i1 : (i : Int) < (xs.len : Int) := by omega
        have hie : i < els.length := by rw [HE.out.1]; exact hlt
        have hix : i < xs.items.length := hlt
        obtain ⟨b, off, cap, hv, _, hc⟩ := own_cells hown (by omega)
        cases hv
        obtain ⟨r0, r1, r2, r3, r4⟩ := elCells_at els i hie
        have d0 := hc _ _ r0
        have d1 := hc _ _ r1
        have d2 := hc _ _ r2
        have d3 := hc _ _ r3
        have d4 := hc _ _ r4
        rw [← Nat.add_assoc] at d1 d2 d3 d4
        have m : ∀ b, b ∈ f1 i ++ (f2 i ++ f3 i) → b ∈ k.toList ++ (List.range els.length).flatMap fun j => f1 j ++ (f2 j ++ f3 j) := fun b hb => List.mem_append_right _ (List.mem_flatMap.2 ⟨i, List.mem_range.2 hie, hb⟩)
        have q1 := (HO.out.2.2.1 i hie hix).frame (w' := wr) fun b hb => HK.out.1 b (m b (List.mem_append_left _ hb))
        have q2 := (HO.out.2.2.2.1 i hie hix).frame (w' := wr) fun b hb => HK.out.1 b (m b (List.mem_append_right _ (List.mem_append_left _ hb)))
        have q3 := (HO.out.2.2.2.2 i hie hix).frame (w' := wr) fun b hb => HK.out.1 b (m b (List.mem_append_right _ (List.mem_append_right _ hb)))
        have ql : Low g' (f1 i ++ (f2 i ++ f3 i)) := fun b hb => HK.out.2 b (m b hb)
        have hs1 := sum_take nd3 xs.items i hix
        have hs2 := sum_take_le nd3 xs.items (i + 1)
        have hcn := cn_items xs
        obtain ⟨y, hy⟩ : ∃ y, y = xs.items[i] := ⟨_, rfl⟩
        have hIH := IH.out _ (List.getElem_mem hix)
        rw [← hy] at q1 q2 q3 hs1 hIH
        generalize els[i] = el at *
        obtain ⟨ek, et, e1, e2, e3⟩ := el
        simp only at d0 d1 d2 d3 d4 q1 q2 q3
        have Y := Lib.hid (And.intro q1 (And.intro q2 (And.intro q3 (And.intro ql (And.intro hlt (And.intro hs1 (And.intro hIH (show tot + ((xs.items.take i).map nd3).sum + nd3 y < 1000000000 by have := HT.out; omega))))))))
        obtain ⟨z1, y1, rfl⟩ := q1.form
        obtain ⟨z2, y2, rfl⟩ := q2.form
        obtain ⟨z3, y3, rfl⟩ := q3.form
        clear q1 q2 q3 ql m hc r0 r1 r2 r3 r4 hs1 hs2 hcn hown hIH hy hix hie hi hlt
        go_wp2_with fail
        refine node_add Y.out.2.2.2.2.2.2.1.1 Y.out.2.2.2.2.2.2.1.2.1 Y.out.2.2.2.2.2.2.1.2.2 X.out.2.1 Y.out.1 Y.out.2.1 Y.out.2.2.1 Y.out.2.2.2.1 Y.out.2.2.2.2.2.2.2 fun w2 g2 cs2 es2 T2 B2 h2 => ?_
        have hold : ∀ b ∈ (List.range i).flatMap (fun j => f1 j ++ (f2 j ++ f3 j)), g' b < 800 := fun b hb => HK.out.2 b (List.mem_append_right _ (by
          obtain ⟨j, hj, hb⟩ := List.mem_flatMap.1 hb
          have h1 := List.mem_range.1 hj
          have h2 := Y.out.2.2.2.2.1
          have h3 := HE.out.1
          have h4 : xs.len = xs.items.length := rfl
          exact List.mem_flatMap.2 ⟨j, List.mem_range.2 (by omega), hb⟩))
        have X2 := Lib.hid (And.intro (X.out.1.trans T2 (V := bookT) (fun _ h => h) (fun _ h => h)) (And.intro (show Bk3 w2 g2 bp (tot + ((xs.items.take (i + 1)).map nd3).sum) cs2 hT (hN ++ (es ++ es2)) hF by
          rw [Y.out.2.2.2.2.2.1, ← Nat.add_assoc, ← List.append_assoc]; exact B2) (show HeldK kNode w2 (es ++ es2) ((List.range (i + 1)).flatMap fun j => f1 j ++ (f2 j ++ f3 j)) by
          rw [List.range_succ, List.flatMap_append, List.flatMap_singleton]
          exact (X.out.2.2.1.frame (Low.keep hold T2 X.out.2.2.1.lt)).app h2)))
        have HLT := Lib.hid Y.out.2.2.2.2.1
        clear T2 B2 h2 hold X Y HK
        go_wp2_with fail
        go_roundg (xs.len - (i + 1))
        case measure => have := HLT.out; omega
        case rel => exact ⟨i + 1, g2, cs2, es ++ es2, HLT.out, rfl, by go_num, X2.out.1, X2.out.2.1, X2.out.2.2⟩
      · obtain rfl : i = xs.len := by omega
        have e0 : xs.items.take xs.len = xs.items := List.take_length
        have hcn := cn_items xs
        have B1 := X.out.2.1
        rw [e0] at B1
        have Y := Lib.hid (And.intro B1 (show tot + (xs.items.map nd3).sum < 1000000000 by have := HT.out; omega))
        have HC := Lib.hid hcn
        clear hlt hi hown e0 hcn B1
        go_wp2_with fail
        refine keep_Node Y.out.1.n Y.out.1.num Y.out.2 (by have := Y.out.1.len; have := Y.out.2; omega) av xs.len cv HE.out.2 fun w2 g2 cs2 T B c0 N => ?_
        have T2 := T.mono (book_sub (κ := kNode) (by decide))
        have B3 : Bk3 w2 g2 bp (tot + (xs.items.map nd3).sum + 1) cs2 hT (hN ++ es ++ [⟨av, xs.len, cv, none, 0, 0, tot + (xs.items.map nd3).sum + 1⟩]) hF :=
          ⟨Y.out.1.t.other B T (by decide) (by decide) (by decide) N, B, Y.out.1.f.other B T (by decide) (by decide) (by decide) N, c0, (fun i i0 i3 i8 i9 i12 => (N i i0 i8).trans (Y.out.1.none_ i i0 i3 i8 i9 i12)), (by have h := Y.out.1.len; refine ⟨by omega, ?_, by omega⟩; rw [List.length_append, List.length_singleton]; omega)⟩
        have hown2 := X.out.2.2.2.frame (w' := w2) fun b hb => HK.out.2 |>.keep T2 (fun b hb => Nat.lt_of_lt_of_le (HG.out.2 b hb) X.out.1.size) b (List.mem_append_left _ (by rw [hb]; simp))
        have hone := HeldK.one (κ := kNode) (e := ⟨av, xs.len, cv, none, 0, 0, tot + (xs.items.map nd3).sum + 1⟩) hown2
        have hlow2 : ∀ b ∈ (List.range xs.len).flatMap (fun j => f1 j ++ (f2 j ++ f3 j)), g' b < 800 := fun b hb => HK.out.2 b (List.mem_append_right _ (by
          have h3 := HE.out.1
          have h4 : xs.len = xs.items.length := rfl
          rw [h3, ← h4]; exact hb))
        have hall := (X.out.2.2.1.frame (Low.keep hlow2 T2 X.out.2.2.1.lt)).app hone
        have Z := Lib.hid (H.out w2 g2 cs2 (es ++ [⟨av, xs.len, cv, none, 0, 0, tot + (xs.items.map nd3).sum + 1⟩]) (X.out.1.trans T2 (V := bookT) (fun _ h => h) (fun _ h => h)) (by rw [HC.out, ← List.append_assoc, ← Nat.add_assoc]; exact B3) (hall.perm (by
          have h3 := HE.out.1
          have h4 : xs.len = xs.items.length := rfl
          rw [h3, ← h4]; exact List.perm_append_comm)))
        clear T B c0 N T2 B3 hown2 hone hlow2 hall X Y HK HC
        go_wp2_with fail
        go_end0
        exact Z.out
end Go.Proofs.YtcldcigopkfmmaaGreatDoor
