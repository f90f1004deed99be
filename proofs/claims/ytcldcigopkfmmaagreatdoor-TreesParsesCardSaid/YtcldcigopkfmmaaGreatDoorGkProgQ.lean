/- A book is told a program: its functions, its body, and all lists in them. -/
import Derived.Test.YtcldcigopkfmmaaGreatDoorGkNodesQ
namespace Go.Nd
def fn3 (f : Nd.Fn) : Nat := 1 + f.body.cn
def pr3 (p : Pr) : Nat := (p.funcs.map fn3).sum + 1 + p.body.cn
theorem fn3_len (l : List Nd.Fn) : l.length ≤ (l.map fn3).sum := by
  induction l with
  | nil => exact Nat.le_refl _
  | cons x l ih => simp only [List.length_cons, List.map_cons, List.sum_cons, fn3] at *; omega
end Go.Nd
namespace Go.Proofs.YtcldcigopkfmmaaGreatDoor
open Go.RowKit Go.My Go.Nd

theorem fvCells_at (els : List FV) (i : Nat) (hi : i < els.length) : (els.flatMap FV.cells)[i * 3]? = some (.string (tx els[i].f.name)) ∧ (els.flatMap FV.cells)[i * 3 + 1]? = some els[i].va ∧ (els.flatMap FV.cells)[i * 3 + 2]? = some els[i].vb := by
  induction els generalizing i with
  | nil => exact absurd hi (Nat.not_lt_zero _)
  | cons x els ih =>
    have e : (x :: els).flatMap FV.cells = .string (tx x.f.name) :: x.va :: x.vb :: els.flatMap FV.cells := by simp [FV.cells]
    rw [e]
    cases i with
    | zero => exact ⟨rfl, rfl, rfl⟩
    | succ i =>
      have := ih i (by simpa using hi)
      rw [show (i + 1) * 3 = i * 3 + 3 by omega]
      exact this
theorem TF.lt {w : World} {F : List Nat} {v : Value} {l : List Tx} (h : TF w F v l) : ∀ b ∈ F, b < w.heap.size := by
  obtain ⟨k, rfl, h1, _⟩ := h
  intro b hb
  exact h1.lt b (by simpa using hb)
theorem TF.form {w : World} {F : List Nat} {v : Value} {l : List Tx} (h : TF w F v l) : ∃ a c, v = .slice a l.length c := by obtain ⟨k, _, h, _⟩ := h; exact own_form h
theorem TF.held {w : World} {F : List Nat} {l : List Tx} {a : Option Addr} {c num : Nat} (h : TF w F (.slice a l.length c) l) : HeldK kText w [⟨a, l.length, c, none, 0, 0, num⟩] F := by
  obtain ⟨k, rfl, h, _⟩ := h
  exact HeldK.one (κ := kText) (e := ⟨a, l.length, c, none, 0, 0, num⟩) h
/-- Entries of the three kinds, and their blocks. -/
def Held3 (w : World) (eT eN eF : List Ent) (F : List Nat) : Prop := ∃ FT FN FF, HeldK kText w eT FT ∧ HeldK kNode w eN FN ∧ HeldK kFunc w eF FF ∧ (FT ++ (FN ++ FF)).Perm F
theorem Held3.nil (w : World) : Held3 w [] [] [] [] := ⟨[], [], [], HeldK.nil _ _, HeldK.nil _ _, HeldK.nil _ _, List.Perm.refl _⟩
theorem Held3.app {w : World} {a b c d e f : List Ent} {F G : List Nat} (h : Held3 w a b c F) (k : Held3 w d e f G) : Held3 w (a ++ d) (b ++ e) (c ++ f) (F ++ G) := by
  obtain ⟨F1, F2, F3, h1, h2, h3, hp⟩ := h
  obtain ⟨G1, G2, G3, k1, k2, k3, kp⟩ := k
  refine ⟨F1 ++ G1, F2 ++ G2, F3 ++ G3, h1.app k1, h2.app k2, h3.app k3, List.perm_iff_count.2 fun x => ?_⟩
  have a1 := hp.count_eq x
  have a2 := kp.count_eq x
  simp only [List.count_append] at *
  omega
theorem Held3.lt {w : World} {a b c : List Ent} {F : List Nat} (h : Held3 w a b c F) : ∀ x ∈ F, x < w.heap.size := by
  obtain ⟨F1, F2, F3, h1, h2, h3, hp⟩ := h
  intro x hx
  rcases List.mem_append.1 (hp.mem_iff.2 hx) with h | h
  · exact h1.lt x h
  · rcases List.mem_append.1 h with h | h
    · exact h2.lt x h
    · exact h3.lt x h
theorem Held3.frame {w w' : World} {a b c : List Ent} {F : List Nat} (h : Held3 w a b c F) (hs : ∀ x ∈ F, w'.heap[x]? = w.heap[x]?) : Held3 w' a b c F := by
  obtain ⟨F1, F2, F3, h1, h2, h3, hp⟩ := h
  exact ⟨F1, F2, F3, h1.frame fun x hx => hs x (hp.mem_iff.1 (List.mem_append_left _ hx)), h2.frame fun x hx => hs x (hp.mem_iff.1 (List.mem_append_right _ (List.mem_append_left _ hx))), h3.frame fun x hx => hs x (hp.mem_iff.1 (List.mem_append_right _ (List.mem_append_right _ hx))), hp⟩
theorem Held3.perm {w : World} {a b c : List Ent} {F G : List Nat} (h : Held3 w a b c F) (p : F.Perm G) : Held3 w a b c G := by
  obtain ⟨F1, F2, F3, h1, h2, h3, hp⟩ := h
  exact ⟨F1, F2, F3, h1, h2, h3, hp.trans p⟩
theorem HeldK.text {w : World} {a : List Ent} {F : List Nat} (h : HeldK kText w a F) : Held3 w a [] [] F := ⟨F, [], [], h, HeldK.nil _ _, HeldK.nil _ _, by simp⟩
theorem HeldK.node {w : World} {a : List Ent} {F : List Nat} (h : HeldK kNode w a F) : Held3 w [] a [] F := ⟨[], F, [], HeldK.nil _ _, h, HeldK.nil _ _, by simp⟩
theorem HeldK.func {w : World} {a : List Ent} {F : List Nat} (h : HeldK kFunc w a F) : Held3 w [] [] a F := ⟨[], [], F, HeldK.nil _ _, HeldK.nil _ _, h, by simp⟩

/-- A function is told. -/
theorem func_add {f : Nd.Fn} {w : World} {g : Tags} {bp tot : Nat} {cs : Array Value} {hT hN hF : List Ent} {t : ByteArray} {v1 v2 : Value} {F1 F2 : List Nat} (hB : Bk3 w g bp tot cs hT hN hF)
    (l1 : TF w F1 v1 f.args) (hn : f.args.length ≤ 1000000000) (l2 : LF w TN F2 v2 f.body) (hg : Low g (F1 ++ F2)) (ht : tot + fn3 f < 1000000000) {Q : Ending → World → Prop}
    (h : ∀ w' g' cs' eT eN, Turn w g w' g' bookT → Bk3 w' g' bp (tot + fn3 f) cs' (hT ++ eT) (hN ++ eN) hF → Held3 w' eT eN [] (F1 ++ F2) → Q (.returned (.tuple #[])) w') :
    Calls Tryz.prog 116 #[.pointer (some ⟨bp, 0, none⟩), .agg #[.string t, v1, v2]] w Q := by
  obtain ⟨a1, c1, rfl⟩ := l1.form
  obtain ⟨a2, c2, rfl⟩ := l2.form
  have H := Lib.hid h
  have T0 := Turn.alloc w g 900 (.cells #[.string t, .slice a1 f.args.length c1, .slice a2 f.body.len c2] 70)
  have hA := Below.alloc (Below.refl w.heap.size w) (Nat.le_refl _) (.cells #[.string t, .slice a1 f.args.length c1, .slice a2 f.body.len c2] 70)
  have b0 := Bx.alloc w g 70 900 #[.string t, .slice a1 f.args.length c1, .slice a2 f.body.len c2]
  have X0 := Lib.hid (And.intro T0 (And.intro (hB.next T0) (And.intro b0 (And.intro (l1.frame fun b hb => hA.block b (l1.lt b hb)) (l2.frame fun b hb => hA.block b (l2.lt b hb))))))
  have L0 := Lib.hid (hg.turn T0 fun b hb => by
    rcases List.mem_append.1 hb with hb | hb
    · exact l1.lt b hb
    · exact l2.lt b hb)
  have HT := Lib.hid (And.intro ht hn)
  clear T0 hA b0 h hB l1 l2 hg ht hn
  go_enter Tryz.func116, Tryz.ntmps116
  obtain ⟨bx, hbx⟩ : ∃ bx, bx = w.heap.size := ⟨_, rfl⟩
  rw [← hbx] at X0 L0
  go_upto_region 1 with fail
  rw [← hbx]
  generalize hw1 : w.alloc (.cells #[.string t, .slice a1 f.args.length c1, .slice a2 f.body.len c2] 70) = w1 at *
  generalize g.ext bx 900 = g1 at *
  clear hw1 hbx
  have p1 : w1.cell? ⟨bx, 1, none⟩ = some (.slice a1 f.args.length c1) := (X0.out.2.2.1.cell 1).1
  go_wp2_with fail
  clear p1
  refine texts_add X0.out.2.1 (by have := HT.out.1; unfold fn3 at this; omega) a1 f.args.length c1 HT.out.2 fun w2 g2 cs2 T2 B2 => ?_
  have X1 := Lib.hid (And.intro (X0.out.1.trans T2 (V := bookT) (by simp) (fun _ h => h)) (And.intro B2 (And.intro (X0.out.2.2.1.turn T2 (by decide)) (And.intro (X0.out.2.2.2.1.frame (L0.out.left.keep T2 X0.out.2.2.2.1.lt)) (X0.out.2.2.2.2.frame (L0.out.right.keep T2 X0.out.2.2.2.2.lt))))))
  have L1 := Lib.hid (And.intro (L0.out.left.turn T2 X0.out.2.2.2.1.lt) (L0.out.right.turn T2 X0.out.2.2.2.2.lt))
  clear T2 B2 X0 L0
  have p2 : w2.cell? ⟨bx, 2, none⟩ = some (.slice a2 f.body.len c2) := (X1.out.2.2.1.cell 2).1
  go_wp2_with fail
  clear p2
  refine nodes_add f.body w2 g2 bp (tot + 1) cs2 (hT ++ [⟨a1, f.args.length, c1, none, 0, 0, tot + 1⟩]) hN hF _ F2 X1.out.2.1 X1.out.2.2.2.2 L1.out.2 (by have := HT.out.1; unfold fn3 at this; omega) _ fun w3 g3 cs3 es T3 B3 h3 => ?_
  have X2 := Lib.hid (H.out w3 g3 cs3 [⟨a1, f.args.length, c1, none, 0, 0, tot + 1⟩] es (X1.out.1.trans T3 (V := bookT) (fun _ h => h) (fun _ h => h)) (by unfold fn3; rw [← Nat.add_assoc]; exact B3) (by
    have k1 := (HeldK.text (TF.held (num := tot + 1) (X1.out.2.2.2.1.frame (L1.out.1.keep T3 X1.out.2.2.2.1.lt)))).app (HeldK.node h3)
    simpa using k1))
  clear T3 B3 h3
  go_wp2_with fail
  go_end0
  exact X2.out

def AfAt (w : World) (g : Tags) (bp tot : Nat) (hT hN hF : List Ent) (els : List FV) (gk : Nat) (v4 : Value) (wr : World) : Prop :=
  ∃ (i : Nat) (g' : Tags) (cs' : Array Value) (eT eN : List Ent), i ≤ els.length ∧ gk = els.length - i ∧ v4 = .int .i64 (i : Int) ∧ Turn w g wr g' bookT ∧ Bk3 wr g' bp (tot + ((els.take i).map fun x => fn3 x.f).sum) cs' (hT ++ eT) (hN ++ eN) hF ∧ Held3 wr eT eN [] ((els.take i).flatMap fun x => x.F1 ++ x.F2)

set_option maxHeartbeats 4000000 in
/-- A list of functions is told. -/
theorem funcs_add {fs : List Nd.Fn} {w : World} {g : Tags} {bp tot : Nat} {cs : Array Value} {hT hN hF : List Ent} {v : Value} {F : List Nat} (hB : Bk3 w g bp tot cs hT hN hF)
    (hL : FsF w F v fs) (hn : ∀ f ∈ fs, f.args.length ≤ 1000000000) (hg : Low g F) (ht : tot + (fs.map fn3).sum + 1 < 1000000000) {Q : Ending → World → Prop}
    (h : ∀ w' g' cs' eT eN eF, Turn w g w' g' bookT → Bk3 w' g' bp (tot + (fs.map fn3).sum + 1) cs' (hT ++ eT) (hN ++ eN) (hF ++ eF) → Held3 w' eT eN eF F → Q (.returned (.tuple #[])) w') :
    Calls Tryz.prog 64 #[.pointer (some ⟨bp, 0, none⟩), v] w Q := by
  obtain ⟨els, k, rfl, rfl, ho, hl, hok⟩ := hL
  obtain ⟨av, cv, rfl⟩ := own_form ho
  have hlt : ∀ b ∈ k.toList ++ els.flatMap (fun x => x.F1 ++ x.F2), b < w.heap.size := fun b hb => by
    rcases List.mem_append.1 hb with hb | hb
    · exact ho.lt b (by simpa using hb)
    · obtain ⟨x, hx, hb⟩ := List.mem_flatMap.1 hb
      rcases List.mem_append.1 hb with hb | hb
      · exact (hok x hx).args.lt b hb
      · exact (hok x hx).body.lt b hb
  have H := Lib.hid h
  have HB := Lib.hid hB
  have HT := Lib.hid (And.intro ht hn)
  have HG := Lib.hid (And.intro hg hlt)
  have HO := Lib.hid (And.intro ho hok)
  have hl1 : els.length ≤ 1000000000 := by have := fn3_len (els.map (·.f)); rw [List.length_map] at this; omega
  have HL1 := Lib.hid hl1
  have l2 : (els.length : Int) ≤ 1000000000 := by omega
  clear h hB ht hn hg hlt ho hok hl hl1
  go_enter Tryz.func64, Tryz.ntmps64
  go_wp2_with fail
  go_loopg [4] els.length (fun gk v4 wr => AfAt w g bp tot hT hN hF els gk v4 wr)
  case atStart => exact ⟨0, g, cs, [], [], Nat.zero_le _, rfl, rfl, Turn.refl _ _ _, by simpa using HB.out, by simpa using Held3.nil w⟩
  case round =>
    obtain ⟨i, g', cs', eT, eN, hi, rfl, rfl, hT1, hB1, hH1⟩ := hrel
    have i0 : (0 : Int) ≤ (i : Int) := by omega
    have hkeep := HG.out.1.keep hT1 HG.out.2
    have hlow := HG.out.1.turn hT1 HG.out.2
    have hown := HO.out.1.frame (w' := wr) fun b hb => hkeep b (List.mem_append_left _ (by rw [hb]; simp))
    have X := Lib.hid (And.intro hT1 (And.intro hB1 (And.intro hH1 hown)))
    have HK := Lib.hid (And.intro hkeep hlow)
    clear hT1 hB1 hH1 hkeep hlow
    by_cases hlt : i < els.length
    · have i1 : (i : Int) < (els.length : Int) := by omega
      obtain ⟨b, off, cap, hv, _, hc⟩ := own_cells hown (by omega)
      cases hv
      obtain ⟨r0, r1, r2⟩ := fvCells_at els i hlt
      have d0 := hc _ _ r0
      have d1 := hc _ _ r1
      have d2 := hc _ _ r2
      rw [← Nat.add_assoc] at d1 d2
      have m : ∀ b, b ∈ els[i].F1 ++ els[i].F2 → b ∈ k.toList ++ els.flatMap (fun x => x.F1 ++ x.F2) := fun b hb => List.mem_append_right _ (List.mem_flatMap.2 ⟨els[i], List.getElem_mem hlt, hb⟩)
      have hx := (HO.out.2 _ (List.getElem_mem hlt)).frame (w' := wr) fun b hb => HK.out.1 b (m b hb)
      have ql : Low g' (els[i].F1 ++ els[i].F2) := fun b hb => HK.out.2 b (m b hb)
      have hs1 := sum_take (fun x : FV => fn3 x.f) els i hlt
      have hs2 := sum_take_le (fun x : FV => fn3 x.f) els (i + 1)
      have hs3 : (els.map fun x => fn3 x.f).sum = ((els.map (·.f)).map fn3).sum := by rw [List.map_map]; rfl
      have hs4 : (els.take (i + 1)).flatMap (fun x => x.F1 ++ x.F2) = (els.take i).flatMap (fun x => x.F1 ++ x.F2) ++ (els[i].F1 ++ els[i].F2) := by rw [List.take_succ_eq_append_getElem hlt, List.flatMap_append, List.flatMap_singleton]
      have han := HT.out.2 _ (List.mem_map.2 ⟨els[i], List.getElem_mem hlt, rfl⟩)
      have hold : ∀ b ∈ (els.take i).flatMap (fun x => x.F1 ++ x.F2), g' b < 800 := fun b hb => HK.out.2 b (List.mem_append_right _ (by
        obtain ⟨x, hx, hb⟩ := List.mem_flatMap.1 hb
        exact List.mem_flatMap.2 ⟨x, List.mem_of_mem_take hx, hb⟩))
      generalize els[i] = x at *
      obtain ⟨⟨xn, xa, xb⟩, va, vb, F1, F2⟩ := x
      simp only at d0 d1 d2 ql hs1 hs4 han
      have Y := Lib.hid (And.intro hx (And.intro ql (And.intro hs1 (And.intro hs4 (And.intro han (And.intro hold (And.intro hlt (show tot + ((els.take i).map fun x => fn3 x.f).sum + fn3 ⟨xn, xa, xb⟩ < 1000000000 by have := HT.out.1; omega))))))))
      obtain ⟨z1, y1, e1⟩ := hx.args.form
      obtain ⟨z2, y2, e2⟩ := hx.body.form
      simp only at e1 e2
      subst e1
      subst e2
      clear hx ql hs1 hs2 hs3 hs4 han hold m hc r0 r1 r2 hown hi hlt
      go_wp2_with fail
      refine func_add (f := ⟨xn, xa, xb⟩) X.out.2.1 Y.out.1.args Y.out.2.2.2.2.1 Y.out.1.body Y.out.2.1 Y.out.2.2.2.2.2.2.2 fun w2 g2 cs2 eT2 eN2 T2 B2 h2 => ?_
      have X2 := Lib.hid (And.intro (X.out.1.trans T2 (V := bookT) (fun _ h => h) (fun _ h => h)) (And.intro (show Bk3 w2 g2 bp (tot + ((els.take (i + 1)).map fun x => fn3 x.f).sum) cs2 (hT ++ (eT ++ eT2)) (hN ++ (eN ++ eN2)) hF by
        rw [Y.out.2.2.1, ← Nat.add_assoc, ← List.append_assoc, ← List.append_assoc]; exact B2) (show Held3 w2 (eT ++ eT2) (eN ++ eN2) [] ((els.take (i + 1)).flatMap fun x => x.F1 ++ x.F2) by
        rw [Y.out.2.2.2.1]
        exact (X.out.2.2.1.frame (Low.keep Y.out.2.2.2.2.2.1 T2 X.out.2.2.1.lt)).app h2)))
      have HLT := Lib.hid Y.out.2.2.2.2.2.2.1
      clear T2 B2 h2 X Y HK
      go_wp2_with fail
      go_roundg (els.length - (i + 1))
      case measure => have := HLT.out; omega
      case rel => exact ⟨i + 1, g2, cs2, eT ++ eT2, eN ++ eN2, HLT.out, rfl, by go_num, X2.out.1, X2.out.2.1, X2.out.2.2⟩
    · obtain rfl : i = els.length := by omega
      have e0 : els.take els.length = els := List.take_length
      have hs3 : (els.map fun x => fn3 x.f).sum = ((els.map (·.f)).map fn3).sum := by rw [List.map_map]; rfl
      have B1 := X.out.2.1
      have H1 := X.out.2.2.1
      rw [e0] at B1 H1
      rw [hs3] at B1
      have hold : ∀ b ∈ els.flatMap (fun x => x.F1 ++ x.F2), g' b < 800 := fun b hb => HK.out.2 b (List.mem_append_right _ hb)
      have Y := Lib.hid (And.intro B1 (And.intro H1 hold))
      clear hlt hi hown e0 B1 H1 hs3 hold
      go_wp2_with fail
      refine keep_Func Y.out.1.f Y.out.1.num (by have := HT.out.1; omega) (by have := Y.out.1.len; have := HT.out.1; omega) av els.length cv HL1.out fun w2 g2 cs2 T B c0 N => ?_
      have T2 := T.mono (book_sub (κ := kFunc) (by decide))
      have B3 : Bk3 w2 g2 bp (tot + ((els.map (·.f)).map fn3).sum + 1) cs2 (hT ++ eT) (hN ++ eN) (hF ++ [⟨av, els.length, cv, none, 0, 0, tot + ((els.map (·.f)).map fn3).sum + 1⟩]) :=
        ⟨Y.out.1.t.other B T (by decide) (by decide) (by decide) N, Y.out.1.n.other B T (by decide) (by decide) (by decide) N, B, c0, (fun i i0 i3 i8 i9 i12 => (N i i0 i9).trans (Y.out.1.none_ i i0 i3 i8 i9 i12)), (by have h := Y.out.1.len; refine ⟨by omega, by omega, ?_⟩; rw [List.length_append, List.length_singleton]; omega)⟩
      have hown2 := X.out.2.2.2.frame (w' := w2) fun b hb => HK.out.2 |>.keep T2 (fun b hb => Nat.lt_of_lt_of_le (HG.out.2 b hb) X.out.1.size) b (List.mem_append_left _ (by rw [hb]; simp))
      have hone := (HeldK.one (κ := kFunc) (e := ⟨av, els.length, cv, none, 0, 0, tot + ((els.map (·.f)).map fn3).sum + 1⟩) hown2).func
      have hall := (Y.out.2.1.frame (Low.keep Y.out.2.2 T2 Y.out.2.1.lt)).app hone
      have Z := Lib.hid (H.out w2 g2 cs2 eT eN [⟨av, els.length, cv, none, 0, 0, tot + ((els.map (·.f)).map fn3).sum + 1⟩] (X.out.1.trans T2 (V := bookT) (fun _ h => h) (fun _ h => h)) B3 ((by simpa using hall : Held3 w2 eT eN [⟨av, els.length, cv, none, 0, 0, tot + ((els.map (·.f)).map fn3).sum + 1⟩] _).perm List.perm_append_comm))
      clear T B c0 N T2 B3 hown2 hone hall X Y HK
      go_wp2_with fail
      go_end0
      exact Z.out

/-- A program is told. -/
theorem prog_add {p : Pr} {w : World} {g : Tags} {bp tot : Nat} {cs : Array Value} {hT hN hF : List Ent} {v1 v2 : Value} {F1 F2 : List Nat} (hB : Bk3 w g bp tot cs hT hN hF)
    (l1 : FsF w F1 v1 p.funcs) (hn : ∀ f ∈ p.funcs, f.args.length ≤ 1000000000) (l2 : LF w TN F2 v2 p.body) (h1 : ∀ b ∈ F1, b < w.heap.size) (hg : Low g (F1 ++ F2)) (ht : tot + pr3 p < 1000000000) {Q : Ending → World → Prop}
    (h : ∀ w' g' cs' eT eN eF, Turn w g w' g' bookT → Bk3 w' g' bp (tot + pr3 p) cs' (hT ++ eT) (hN ++ eN) (hF ++ eF) → Held3 w' eT eN eF (F1 ++ F2) → Q (.returned (.tuple #[])) w') :
    Calls Tryz.prog 13 #[.pointer (some ⟨bp, 0, none⟩), .agg #[v1, v2]] w Q := by
  obtain ⟨a1, c1, rfl⟩ : ∃ a c, v1 = .slice a p.funcs.length c := by
    obtain ⟨els, k, _, e, ho, _⟩ := l1
    have := own_form ho
    rwa [show els.length = p.funcs.length by rw [← e, List.length_map]] at this
  obtain ⟨a2, c2, rfl⟩ := l2.form
  have H := Lib.hid h
  have T0 := Turn.alloc w g 900 (.cells #[.slice a1 p.funcs.length c1, .slice a2 p.body.len c2] 47)
  have hA := Below.alloc (Below.refl w.heap.size w) (Nat.le_refl _) (.cells #[.slice a1 p.funcs.length c1, .slice a2 p.body.len c2] 47)
  have b0 := Bx.alloc w g 47 900 #[.slice a1 p.funcs.length c1, .slice a2 p.body.len c2]
  have X0 := Lib.hid (And.intro T0 (And.intro (hB.next T0) (And.intro b0 (And.intro (l1.frame fun b hb => hA.block b (h1 b hb)) (l2.frame fun b hb => hA.block b (l2.lt b hb))))))
  have L0 := Lib.hid (hg.turn T0 fun b hb => by
    rcases List.mem_append.1 hb with hb | hb
    · exact h1 b hb
    · exact l2.lt b hb)
  have HT := Lib.hid (And.intro ht (And.intro hn (fun b hb => Nat.lt_of_lt_of_le (h1 b hb) T0.size)))
  clear T0 hA b0 h hB l1 l2 hg ht hn h1
  go_enter Tryz.func13, Tryz.ntmps13
  obtain ⟨bx, hbx⟩ : ∃ bx, bx = w.heap.size := ⟨_, rfl⟩
  rw [← hbx] at X0 L0
  go_upto_region 1 with fail
  rw [← hbx]
  generalize hw1 : w.alloc (.cells #[.slice a1 p.funcs.length c1, .slice a2 p.body.len c2] 47) = w1 at *
  generalize g.ext bx 900 = g1 at *
  clear hw1 hbx
  have p1 : w1.cell? ⟨bx, 0, none⟩ = some (.slice a1 p.funcs.length c1) := (X0.out.2.2.1.cell 0).1
  go_wp2_with fail
  clear p1
  refine funcs_add X0.out.2.1 X0.out.2.2.2.1 HT.out.2.1 L0.out.left (by have := HT.out.1; have := cn_pos p.body; unfold pr3 at *; omega) fun w2 g2 cs2 eT eN eF T2 B2 h2 => ?_
  have X1 := Lib.hid (And.intro (X0.out.1.trans T2 (V := bookT) (by simp) (fun _ h => h)) (And.intro B2 (And.intro (X0.out.2.2.1.turn T2 (by decide)) (And.intro h2 (X0.out.2.2.2.2.frame (L0.out.right.keep T2 X0.out.2.2.2.2.lt))))))
  have L1 := Lib.hid (And.intro (L0.out.left.turn T2 HT.out.2.2) (L0.out.right.turn T2 X0.out.2.2.2.2.lt))
  clear T2 B2 h2 X0 L0
  have p2 : w2.cell? ⟨bx, 1, none⟩ = some (.slice a2 p.body.len c2) := (X1.out.2.2.1.cell 1).1
  go_wp2_with fail
  clear p2
  refine nodes_add p.body w2 g2 bp (tot + (p.funcs.map fn3).sum + 1) cs2 (hT ++ eT) (hN ++ eN) (hF ++ eF) _ F2 X1.out.2.1 X1.out.2.2.2.2 L1.out.2 (by have := HT.out.1; unfold pr3 at this; omega) _ fun w3 g3 cs3 es T3 B3 h3 => ?_
  have X2 := Lib.hid (H.out w3 g3 cs3 eT (eN ++ es) eF (X1.out.1.trans T3 (V := bookT) (fun _ h => h) (fun _ h => h)) (by unfold pr3; rw [← List.append_assoc, show tot + ((p.funcs.map fn3).sum + 1 + p.body.cn) = tot + (p.funcs.map fn3).sum + 1 + p.body.cn by omega]; exact B3) (by
    have k1 := (X1.out.2.2.2.1.frame (L1.out.1.keep T3 X1.out.2.2.2.1.lt)).app (HeldK.node h3)
    simpa using k1))
  clear T3 B3 h3
  go_wp2_with fail
  go_end0
  exact X2.out
end Go.Proofs.YtcldcigopkfmmaaGreatDoor
