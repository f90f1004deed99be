/- Links: the walk of run: a talk, so many rounds. -/
import Derived.Test.YtoedalocfepkoaaLiWire
namespace Go.Proofs.Ytoedalocfepkoaa
open Go.RowKit Go.My

theorem wire_t {w : World} {g : Tags} {to_ tb tl : Nat} (tn tt : Nat) {told late way : Value} {ps ls : List (List UInt8)} {ws : List UInt8} (hT : Lists w g to_ tb told ps) (hL : Lists w g tl tb late ls) (hW : Bytes w g 0 way ws) (h1 : ps.length ≤ 1000) (h2 : ls.length ≤ 1000) (h3 : ws.length ≤ 1000)
    (hd : to_ ≠ tb ∧ tl ≠ tb ∧ tb ≠ 0 ∧ to_ ≠ 0 ∧ tl ≠ 0) {N T : List (List UInt8)} {W : List UInt8} (hN : (Li.wire ps ws).1 ++ ls = N) (hTt : (Li.wire ps ws).2.1 = T) (hWw : (Li.wire ps ws).2.2 = W) {Q : Ending → World → Prop}
    (h : ∀ an cn at_ ct aw cw w' g', Turn w g w' g' [] → Lists w' g' tn tb (.slice an N.length cn) N → Lists w' g' tt tb (.slice at_ T.length ct) T → Bytes w' g' 0 (.slice aw W.length cw) W → Q (.returned (.tuple #[.slice an N.length cn, .slice at_ T.length ct, .slice aw W.length cw])) w') :
    Calls Try.prog 26 #[told, late, way] w Q := by
  obtain ⟨s, hs⟩ : ∃ s : Nat → Nat, s = fun y => if y = tb then 3 else if y = 0 then 4 else 5 := ⟨_, rfl⟩
  obtain ⟨r, hr⟩ : ∃ r : Nat → Nat, r = fun x => if x = 1 then tn else if x = 2 then tt else if x = 3 then tb else if x = 4 then 0 else 1000 := ⟨_, rfl⟩
  have s1 : s to_ = 5 := by rw [hs]; simp [hd.1, hd.2.2.2.1]
  have s2 : s tb = 3 := by rw [hs]; simp
  have s3 : s tl = 5 := by rw [hs]; simp [hd.2.1, hd.2.2.2.2]
  have s4 : s 0 = 4 := by rw [hs]; simp [Ne.symm hd.2.2.1]
  have sr : ∀ y, s y = 3 ∨ s y = 4 ∨ s y = 5 := by
    intro y; rw [hs]
    by_cases e : y = tb
    · simp [e]
    · by_cases e2 : y = 0
      · simp [e, e2]; omega
      · simp [e, e2]
  have sb : ∀ y, s y = 3 → y = tb := by
    intro y hy; rw [hs] at hy
    by_cases e : y = tb
    · exact e
    · by_cases e2 : y = 0 <;> simp [e, e2] at hy
      omega
  have sz : ∀ y, s y = 4 → y = 0 := by
    intro y hy; rw [hs] at hy
    by_cases e : y = tb
    · simp [e] at hy
    · by_cases e2 : y = 0
      · exact e2
      · simp [e, e2] at hy
  have a := hT.named s
  have b := hL.named s
  have c := hW.named s
  rw [s1, s2] at a
  rw [s3, s2] at b
  rw [s4] at c
  refine (wire_0 1 2 a b c h1 h2 h3 (by decide) (by decide)).mono ?_
  rintro e w' ⟨an, cn, at_, ct, aw, cw, g0, rfl, hLn, hLt, hBw, hTu⟩
  rw [hN] at hLn ⊢
  rw [hTt] at hLt ⊢
  rw [hWw] at hBw ⊢
  refine h an cn at_ ct aw cw w' (g.back g0 w.heap.size r) (Turn.back s r hTu (fun t => ?_)) (hLn.back hTu (fun z hz => ?_) ?_ sb ?_) (hLt.back hTu (fun z hz => ?_) ?_ sb ?_) (hBw.back hTu sz ?_)
  · rcases sr t with h | h | h <;> rw [h] <;> decide
  · rcases sr z with h | h | h <;> rw [h] at hz <;> cases hz
  · rw [hr]; rfl
  · rw [hr]; rfl
  · rcases sr z with h | h | h <;> rw [h] at hz <;> cases hz
  · rw [hr]; rfl
  · rw [hr]; rfl
  · rw [hr]; rfl

/-- A talk's own block. -/
def Box3 (w : World) (g : Tags) (xb : Nat) (v0 v1 v2 : Value) : Prop := w.heap[xb]? = some (.cells #[v0, v1, v2] 39 (0, 0)) ∧ g xb = 70
theorem Box3.turn {w w' : World} {g g' : Tags} {T : List Nat} {xb : Nat} {v0 v1 v2 : Value} (h : Box3 w g xb v0 v1 v2) (k : Turn w g w' g' T) (ht : 70 ∉ T) : Box3 w' g' xb v0 v1 v2 := by
  have hlt : xb < w.heap.size := (Array.getElem?_eq_some_iff.1 h.1).1
  exact ⟨(k.block xb hlt (by rw [h.2]; exact ht)).trans h.1, (k.old xb hlt).trans h.2⟩
theorem Box3.cell {w : World} {g : Tags} {xb : Nat} {v0 v1 v2 : Value} (h : Box3 w g xb v0 v1 v2) : w.cell? ⟨xb, 0, none⟩ = some v0 ∧ w.cell? ⟨xb, 1, none⟩ = some v1 ∧ w.cell? ⟨xb, 2, none⟩ = some v2 := by
  refine ⟨?_, ?_, ?_⟩ <;> rw [cell_of_row w xb _ _ _ _ h.1] <;> rfl

/-- What a part of a round leaves alone. -/
structure Keep (w0 : World) (lv tv bv : Value) (L : List (List UInt8)) (xb te eb : Nat) (s : Li.St) (q x1 y1 : Nat) (v1 : Value) (l1 : List (List UInt8)) (x2 y2 : Nat) (v2 : Value) (l2 : List (List UInt8)) (x3 y3 : Nat) (v3 : Value) (l3 : List (List UInt8)) (x4 y4 : Nat) (v4 : Value) (l4 : List (List UInt8)) (vt : Value) (there : List UInt8) (vb : Value) (back : List UInt8) (wr : World) (gr : Tags) : Prop where
  left : Frames wr gr 0 lv L
  box : Box3 wr gr xb lv tv bv
  since : Since w0 wr gr
  fin : EndIs wr gr te eb s q
  a1 : Lists wr gr x1 y1 v1 l1
  a2 : Lists wr gr x2 y2 v2 l2
  a3 : Lists wr gr x3 y3 v3 l3
  a4 : Lists wr gr x4 y4 v4 l4
  there : Bytes wr gr 0 vt there
  back : Bytes wr gr 0 vb back

theorem Keep.turn {w0 : World} {lv tv bv : Value} {L : List (List UInt8)} {xb te eb : Nat} {s : Li.St} {q x1 y1 : Nat} {v1 : Value} {l1 : List (List UInt8)} {x2 y2 : Nat} {v2 : Value} {l2 : List (List UInt8)} {x3 y3 : Nat} {v3 : Value} {l3 : List (List UInt8)} {x4 y4 : Nat} {v4 : Value} {l4 : List (List UInt8)} {vt : Value} {there : List UInt8} {vb : Value} {back : List UInt8} {wr : World} {gr : Tags}
    (h : Keep w0 lv tv bv L xb te eb s q x1 y1 v1 l1 x2 y2 v2 l2 x3 y3 v3 l3 x4 y4 v4 l4 vt there vb back wr gr) {w' : World} {g' : Tags} {T : List Nat} (k : Turn wr gr w' g' T)
    (hT : ∀ x ∈ T, x ≠ 0 ∧ x ≠ 70 ∧ (x < te ∨ te + 3 < x) ∧ x ≠ x1 ∧ x ≠ y1 ∧ x ≠ x2 ∧ x ≠ y2 ∧ x ≠ x3 ∧ x ≠ y3 ∧ x ≠ x4 ∧ x ≠ y4) :
    Keep w0 lv tv bv L xb te eb s q x1 y1 v1 l1 x2 y2 v2 l2 x3 y3 v3 l3 x4 y4 v4 l4 vt there vb back w' g' :=
  ⟨h.left.turn k (fun m => (hT _ m).1 rfl), h.box.turn k (fun m => (hT _ m).2.1 rfl), h.since.turn k (fun m => (hT _ m).1 rfl), h.fin.turn k (fun x m => (hT x m).2.2.1),
    h.a1.turn k (fun m => (hT _ m).2.2.2.1 rfl) (fun m => (hT _ m).2.2.2.2.1 rfl), h.a2.turn k (fun m => (hT _ m).2.2.2.2.2.1 rfl) (fun m => (hT _ m).2.2.2.2.2.2.1 rfl),
    h.a3.turn k (fun m => (hT _ m).2.2.2.2.2.2.2.1 rfl) (fun m => (hT _ m).2.2.2.2.2.2.2.2.1 rfl), h.a4.turn k (fun m => (hT _ m).2.2.2.2.2.2.2.2.2.1 rfl) (fun m => (hT _ m).2.2.2.2.2.2.2.2.2.2 rfl),
    h.there.turn k (fun m => (hT _ m).1 rfl), h.back.turn k (fun m => (hT _ m).1 rfl)⟩

def fillTo (L : List (List UInt8)) (s : Li.Ts) (k : Nat) : Li.St := { s.a with waits := s.a.waits ++ (L.drop s.next).take k }

theorem fill_next (L : List (List UInt8)) (s : Li.Ts) (k : Nat) (h : s.next + k < L.length) : sent (fillTo L s k) L[s.next + k] = fillTo L s (k + 1) := by
  unfold sent fillTo
  have hk : k < (L.drop s.next).length := by rw [List.length_drop]; omega
  rw [List.take_succ_eq_append_getElem hk, List.getElem_drop]
  simp

theorem fill_len (L : List (List UInt8)) (s : Li.Ts) (k : Nat) (h : s.next + k ≤ L.length) : (fillTo L s k).waits.length = s.a.waits.length + k := by
  unfold fillTo
  simp only [List.length_append, List.length_take, List.length_drop]
  omega

/-- Some more are sent. -/
def FillAt (X : World → Tags → Prop) (L : List (List UInt8)) (s : Li.Ts) (ea qa gk : Nat) (vn : Value) (wr : World) : Prop :=
  ∃ (k : Nat) (gr : Tags), k ≤ Li.fills L s ∧ gk = Li.fills L s - k ∧ vn = .int .i64 ((s.next + k : Nat) : Int) ∧ EndIs wr gr 10 ea (fillTo L s k) qa ∧ X wr gr

/-- At the head of a round. -/
def RunAt (w0 : World) (lv tv bv : Value) (L : List (List UInt8)) (xb ea eb rounds : Nat) (fin : Li.Ts) (gk : Nat) (v1 v2 v3 vn vt vb vi : Value) (wr : World) : Prop :=
  ∃ (i : Nat) (gr : Tags) (s : Li.Ts) (qa qb : Nat), i ≤ rounds ∧ gk = rounds - i ∧ vi = .int .i64 (i : Int) ∧ vn = .int .i64 (s.next : Int) ∧ Li.Runs L gk s fin ∧ EndIs wr gr 10 ea s.a qa ∧
    Keep w0 lv tv bv L xb 20 eb s.b qb 40 23 v1 s.all 60 31 v2 s.late 62 33 v3 s.lateBack 62 33 v3 s.lateBack vt s.there vb s.back wr gr ∧ qa ≤ 1000 * i ∧ qb ≤ 1000 * i ∧ s.there.length ≤ 400 ∧ s.back.length ≤ 400

theorem box_at {w : World} {g : Tags} {xb : Nat} {lv tv bv : Value} (h : xb = w.heap.size) : Box3 (w.alloc (.cells #[lv, tv, bv] 39)) (g.ext w.heap.size 70) xb lv tv bv := by
  subst h
  exact ⟨_root_.Go.heap_alloc_new w _, Tags.ext_new _ _ _ _ (Nat.le_refl _)⟩

theorem packets_len (s : Li.St) : (Li.packets s).length ≤ s.waits.length + 1 := by
  unfold Li.packets
  rw [List.length_append, Li.datas_len']
  split <;> simp

theorem filled_to (L : List (List UInt8)) (s : Li.Ts) : Li.filled L s = fillTo L s (Li.fills L s) := rfl
theorem fill_zero (L : List (List UInt8)) (s : Li.Ts) : fillTo L s 0 = s.a := by unfold fillTo; simp

theorem EndIs.few {w : World} {g : Tags} {t eb : Nat} {s : Li.St} {q : Nat} (h : EndIs w g t eb s q) : s.waits.length ≤ 16 := by
  obtain ⟨_, _, _, h⟩ := h
  exact h.few

set_option maxRecDepth 100000 in
set_option maxHeartbeats 8000000 in
theorem run_t {w : World} {lv tv bv : Value} {L : List (List UInt8)} {there back : List UInt8} (rounds : Nat) (hl : Frames w (fun _ => 0) 0 lv L) (ht : Bytes w (fun _ => 0) 0 tv there) (hb : Bytes w (fun _ => 0) 0 bv back) (h60 : L.length ≤ 60) (hs : ∀ x ∈ L, x.length ≤ 65536) (h1 : there.length ≤ 400) (h2 : back.length ≤ 400) (h3 : rounds ≤ 1000) {ri : Int} (hri : ri = (rounds : Int))
    {fin : Li.Ts} (hR : Li.Runs L rounds (Li.start there back) fin) {Q : Ending → World → Prop}
    (h : ∀ ea aa ca w' g' q, Since w w' g' → EndIs w' g' 10 ea fin.a q → Lists w' g' 40 23 (.slice aa fin.all.length ca) fin.all → Q (.returned (.tuple #[.pointer (some ⟨ea, 0, none⟩), .slice aa fin.all.length ca, .bool true])) w') :
    Calls Try.prog 15 #[.agg #[lv, tv, bv], .int .i64 ri] w Q := by
  subst hri
  obtain ⟨la, lc, rfl⟩ := frames_form hl
  obtain ⟨ta, tc, rfl⟩ := bytes_form ht
  obtain ⟨ba, bc, rfl⟩ := bytes_form hb
  have H := Lib.hid h
  have T0 := Turn.alloc w (fun _ => 0) 70 (.cells #[.slice la L.length lc, .slice ta there.length tc, .slice ba back.length bc] 39)
  obtain ⟨xb, hxb⟩ : ∃ xb, xb = w.heap.size := ⟨_, rfl⟩
  have C0 := Lib.hid (And.intro ((Since.start w).turn T0 (by decide)) (And.intro (hl.turn T0 (by decide)) (And.intro (ht.turn T0 (by decide)) (And.intro (hb.turn T0 (by decide)) (box_at (lv := .slice la L.length lc) (tv := .slice ta there.length tc) (bv := .slice ba back.length bc) (g := fun _ => 0) hxb)))))
  have HR := Lib.hid (And.intro hR hs)
  have i60 : (L.length : Int) ≤ 60 := by omega
  have ir : (rounds : Int) ≤ 1000 := by omega
  clear hl ht hb h hs hR T0
  go_enter Try.func15, Try.ntmps15
  go_wp2_with fail
  rw [← hxb] at C0 ⊢
  refine new_t _ (Tags.ext (fun _ => 0) xb 70) 10 fun ea w2 g2 T2 E2 => ?_
  have C2 := Lib.hid (And.intro (C0.out.1.turn T2 (by decide)) (And.intro (C0.out.2.1.turn T2 (by decide)) (And.intro (C0.out.2.2.1.turn T2 (by decide)) (And.intro (C0.out.2.2.2.1.turn T2 (by decide)) (And.intro (C0.out.2.2.2.2.turn T2 (by decide)) E2)))))
  clear T2 E2 C0 hxb
  go_wp2_with fail
  refine new_t w2 g2 20 fun eb w3 g3 T3 E3 => ?_
  have C3 := Lib.hid (And.intro (C2.out.1.turn T3 (by decide)) (And.intro (C2.out.2.1.turn T3 (by decide)) (And.intro (C2.out.2.2.1.turn T3 (by decide)) (And.intro (C2.out.2.2.2.1.turn T3 (by decide)) (And.intro (C2.out.2.2.2.2.1.turn T3 (by decide)) (And.intro (C2.out.2.2.2.2.2.turn T3 (by decide)) E3))))))
  clear T3 E3 C2
  obtain ⟨x0, x1, x2⟩ := C3.out.2.2.2.2.1.cell
  go_wp2_with fail
  have HS := Lib.hid (show RunAt w (.slice la L.length lc) (.slice ta there.length tc) (.slice ba back.length bc) L xb ea eb rounds fin rounds (.slice none 0 0) (.slice none 0 0) (.slice none 0 0) (.int .i64 0) (.slice ta there.length tc) (.slice ba back.length bc) (.int .i64 0) w3 from
    ⟨0, g3, Li.start there back, 0, 0, Nat.zero_le _, rfl, rfl, rfl, HR.out.1, C3.out.2.2.2.2.2.1, ⟨C3.out.2.1, C3.out.2.2.2.2.1, C3.out.1, C3.out.2.2.2.2.2.2, Lists.nil _ _ _ _, Lists.nil _ _ _ _, Lists.nil _ _ _ _, Lists.nil _ _ _ _, C3.out.2.2.1, C3.out.2.2.2.1⟩, Nat.zero_le _, Nat.zero_le _, h1, h2⟩)
  clear C3 x0 x1 x2
  go_loopg [9, 10, 11, 12, 13, 14, 15] rounds (fun gk v1 v2 v3 vn vt vb vi wr => RunAt w (.slice la L.length lc) (.slice ta there.length tc) (.slice ba back.length bc) L xb ea eb rounds fin gk v1 v2 v3 vn vt vb vi wr)
  case atStart => exact HS.out
  case round =>
    obtain ⟨i, gr, s, qa, qb, hi, rfl, rfl, rfl, hRu, hEa, hK, hqa, hqb, hth, hbk⟩ := hrel
    obtain ⟨va, vc, rfl⟩ := hK.a1.form
    obtain ⟨ea2, ec2, rfl⟩ := hK.a2.form
    obtain ⟨ea3, ec3, rfl⟩ := hK.a3.form
    obtain ⟨ta2, tc2, rfl⟩ := bytes_form hK.there
    obtain ⟨ba2, bc2, rfl⟩ := bytes_form hK.back
    have i0 : (0 : Int) ≤ (i : Int) := by omega
    clear HS
    by_cases hir : i < rounds
    · have i1 : (i : Int) < (rounds : Int) := by omega
      obtain ⟨z, hz⟩ : ∃ z, rounds - i = z + 1 := ⟨rounds - i - 1, by omega⟩
      rw [hz] at hRu
      obtain ⟨m, hRo, hRm⟩ := hRu
      obtain ⟨d, b1, a1, hf1, hf2, hm, hpl⟩ := hRo.fed
      have hw16 := hRo.waits
      have hnx := hRo.next
      have hlate := hRo.late
      have hall := hRo.all
      have HM := Lib.hid (And.intro hf1 (And.intro hf2 (And.intro hm (And.intro hpl (And.intro hall hRm)))))
      clear hRo hf1 hf2 hm hpl hall hRm
      obtain ⟨sn, hsn⟩ : ∃ sn, sn = s.next := ⟨_, rfl⟩
      obtain ⟨fl, hfl⟩ : ∃ fl, fl = Li.fills L s := ⟨_, rfl⟩
      have hfl2 : fl = min (16 - s.a.waits.length) (L.length - s.next) := hfl
      have HFL := Lib.hid (And.intro hsn (And.intro hfl hfl2))
      rw [← hsn]
      clear hsn hfl hfl2
      go_wp2_with fail
      have FS := Lib.hid (show FillAt (Keep w (.slice la L.length lc) (.slice ta there.length tc) (.slice ba back.length bc) L xb 20 eb s.b qb 40 23 (.slice va s.all.length vc) s.all 60 31 (.slice ea2 s.late.length ec2) s.late 62 33 (.slice ea3 s.lateBack.length ec3) s.lateBack 62 33 (.slice ea3 s.lateBack.length ec3) s.lateBack (.slice ta2 s.there.length tc2) s.there (.slice ba2 s.back.length bc2) s.back) L s ea qa fl (.int .i64 (sn : Int)) wr from
        ⟨0, gr, Nat.zero_le _, HFL.out.2.1, by rw [HFL.out.1]; rfl, by rw [fill_zero]; exact hEa, hK⟩)
      clear hEa hK
      go_loopg [12] fl (fun gk vn wr => FillAt (Keep w (.slice la L.length lc) (.slice ta there.length tc) (.slice ba back.length bc) L xb 20 eb s.b qb 40 23 (.slice va s.all.length vc) s.all 60 31 (.slice ea2 s.late.length ec2) s.late 62 33 (.slice ea3 s.lateBack.length ec3) s.lateBack 62 33 (.slice ea3 s.lateBack.length ec3) s.lateBack (.slice ta2 s.there.length tc2) s.there (.slice ba2 s.back.length bc2) s.back) L s ea qa gk vn wr)
      case atStart => exact FS.out
      case round =>
        obtain ⟨k, g4, hk, hgk, rfl, hE4, hK4⟩ := hrel
        obtain ⟨nk, hnk⟩ : ∃ nk, nk = s.next + k := ⟨_, rfl⟩
        rw [← hnk]
        have hfl := HFL.out.2.2
        have hfl1 := HFL.out.2.1
        rw [← hfl1] at hk hgk
        obtain ⟨x0, _, _⟩ := hK4.box.cell
        have hnk1 : (nk : Int) ≤ 60 := by omega
        have hnk0 : (0 : Int) ≤ (nk : Int) := by omega
        clear FS
        by_cases hkf : k < fl
        · have hlt : nk < L.length := by omega
          have hlt1 : (nk : Int) < (L.length : Int) := by omega
          have hwl := fill_len L s k (by omega)
          obtain ⟨lb, lo, hla, _, hlc⟩ := FramesIn.cells hK4.left (by omega)
          subst hla
          obtain ⟨lu, hlu, hlub⟩ := hlc nk hlt
          obtain ⟨lua, luc, rfl⟩ := bytes_form hlub
          obtain ⟨wl, hwl1⟩ : ∃ wl, wl = (fillTo L s k).waits.length := ⟨_, rfl⟩
          have hwl2 : (wl : Int) < 16 := by omega
          have hwl3 : wl < 16 := by omega
          have H4 := Lib.hid (And.intro hE4 (And.intro hK4 (And.intro hlub (And.intro hwl1 (And.intro hnk hgk)))))
          clear hE4 hK4 hlub hwl1 hnk hgk hlc hwl hfl hfl1
          go_wp2_with fail
          refine waits_t H4.out.1 ?_
          rw [← H4.out.2.2.2.1]
          go_wp2_with fail
          refine send_ok H4.out.1 H4.out.2.2.1 (HR.out.2 _ (List.getElem_mem hlt)) (by rw [← H4.out.2.2.2.1]; exact hwl3) (by decide) fun w5 g5 T5 E5 => ?_
          have e5 : sent (fillTo L s k) L[nk] = fillTo L s (k + 1) := by have h := H4.out.2.2.2.2.1; subst h; exact fill_next L s k (by omega)
          rw [e5] at E5
          have X5 := Lib.hid (And.intro E5 (H4.out.2.1.turn T5 (by decide)))
          clear T5 E5 e5
          go_wp2_with fail
          go_roundg (fl - (k + 1))
          case measure => have := H4.out.2.2.2.2.2; omega
          case rel => exact ⟨k + 1, g5, by rw [← HFL.out.2.1]; omega, by rw [← HFL.out.2.1], by rw [← Nat.add_assoc, ← H4.out.2.2.2.2.1]; go_num, X5.out.1, X5.out.2⟩
        · obtain rfl : k = fl := by omega
          have hwl := fill_len L s k (by omega)
          have hfd : fillTo L s k = Li.filled L s := by rw [filled_to, hfl1]
          obtain ⟨wl, hwl1⟩ : ∃ wl, wl = (fillTo L s k).waits.length := ⟨_, rfl⟩
          have H4 := Lib.hid (And.intro hE4 (And.intro hK4 (And.intro hwl1 (And.intro hnk hfd))))
          have hcase : (nk < L.length ∧ wl = 16) ∨ L.length ≤ nk := by omega
          have hfew := hE4.few
          have hpk := packets_len (Li.filled L s)
          rw [← hfd] at hpk
          obtain ⟨ps, hps⟩ : ∃ ps, ps = Li.packets (Li.filled L s) := ⟨_, rfl⟩
          rw [hfd, ← hps] at hpk
          rw [hfd] at hfew
          have hpl : ps.length ≤ 17 := by omega
          have HPS := Lib.hid (And.intro hps HM.out)
          clear hE4 hK4 hwl1 hnk hfd hfl hfl1 hwl hgk hkf hk hpk hps hfew HM
          rcases hcase with ⟨hc1, hc2⟩ | hc
          · have hlt1 : (nk : Int) < (L.length : Int) := by omega
            go_wp2_with fail
            refine waits_t H4.out.1 ?_
            rw [← H4.out.2.2.1, hc2]
            clear hc1 hc2
            go_wp2_with fail
            refine packets_k 30 31 (by rw [← H4.out.2.2.2.2]; exact H4.out.1) (by decide) (by decide) (by decide) (by decide) (by decide) (by decide) HPS.out.1.symm fun ap cp w5 g5 T5 L5 E5 => ?_
            have C5 := Lib.hid (And.intro L5 (And.intro (show EndIs w5 g5 10 ea (Li.quiet (Li.filled L s)) qa from E5) (H4.out.2.1.turn T5 (by decide))))
            have HNK := Lib.hid H4.out.2.2.2.1
            clear T5 L5 E5 H4
            go_wp2_with fail
            obtain ⟨N1, hN1⟩ : ∃ N1, N1 = (Li.wire ps s.there).1 ++ s.late := ⟨_, rfl⟩
            obtain ⟨T1, hT1⟩ : ∃ T1, T1 = (Li.wire ps s.there).2.1 := ⟨_, rfl⟩
            obtain ⟨W1, hW1⟩ : ∃ W1, W1 = (Li.wire ps s.there).2.2 := ⟨_, rfl⟩
            have hsz := Li.wire_size ps s.there
            have hN1l : N1.length ≤ 200 := by rw [hN1, List.length_append]; omega
            have hT1l : T1.length ≤ 100 := by rw [hT1]; omega
            have hW1l : W1.length ≤ 400 := by rw [hW1, hsz.2.2, List.length_drop]; omega
            have HW1 := Lib.hid (And.intro hN1 (And.intro hT1 hW1))
            clear hN1 hT1 hW1 hsz
            refine wire_t 50 60 C5.out.1 C5.out.2.2.a2 C5.out.2.2.there (by omega) (by omega) (by omega) (by decide) HW1.out.1.symm HW1.out.2.1.symm HW1.out.2.2.symm fun an cn at_ ct aw cw w6 g6 T6 N6 L6 B6 => ?_
            have K6 := C5.out.2.2.turn T6 (by decide)
            have X6 := Lib.hid (And.intro K6.fin (And.intro K6.a1 (show Keep w (.slice la L.length lc) (.slice ta there.length tc) (.slice ba back.length bc) L xb 10 ea (Li.quiet (Li.filled L s)) qa 50 31 (.slice an N1.length cn) N1 60 31 (.slice at_ T1.length ct) T1 62 33 (.slice ea3 s.lateBack.length ec3) s.lateBack 62 33 (.slice ea3 s.lateBack.length ec3) s.lateBack (.slice aw W1.length cw) W1 (.slice ba2 s.back.length bc2) s.back w6 g6 from ⟨K6.left, K6.box, K6.since, C5.out.2.1.turn T6 (by decide), N6, L6, K6.a3, K6.a3, B6, K6.back⟩)))
            clear T6 N6 L6 B6 K6 C5
            have hN1i : (N1.length : Int) ≤ 200 := by omega
            go_wp2_with fail
            have hfd1 : Li.feed s.b N1 = (d, true, b1) := by have h := HPS.out.2.1; rw [← HPS.out.1, ← HW1.out.1] at h; exact h
            have FS := Lib.hid (feed_start X6.out.1 X6.out.2.1 X6.out.2.2 hfd1)
            have hall1 : s.all.length + d.length ≤ 100 := by have h := HPS.out.2.2.2.2.2.1; rw [HPS.out.2.2.2.1] at h; simpa using h
            clear hfd1 X6
            go_loopg [9, 17] N1.length (fun gk vo vk wr => FeedAt (Keep w (.slice la L.length lc) (.slice ta there.length tc) (.slice ba back.length bc) L xb 10 ea (Li.quiet (Li.filled L s)) qa 50 31 (.slice an N1.length cn) N1 60 31 (.slice at_ T1.length ct) T1 62 33 (.slice ea3 s.lateBack.length ec3) s.lateBack 62 33 (.slice ea3 s.lateBack.length ec3) s.lateBack (.slice aw W1.length cw) W1 (.slice ba2 s.back.length bc2) s.back) 20 eb 40 23 N1 (s.all ++ d) b1 qb gk vo vk wr)
            case atStart => exact FS.out
            case round =>
              obtain ⟨k9, g7, s6, d6, r6, q6, hk6, rfl, rfl, hE6, hO6, hX6, hf6, hd6, hq6⟩ := hrel
              obtain ⟨oa, oc, rfl⟩ := hO6.form
              have k90 : (0 : Int) ≤ (k9 : Int) := by omega
              clear FS
              by_cases hk3 : k9 < N1.length
              · have k91 : (k9 : Int) < (N1.length : Int) := by omega
                obtain ⟨fs, s7, r7, hc7, hr7, hf7⟩ := Li.feed_step hf6 hk3
                have hlen7 : d6.length + fs.length ≤ 100 := by
                  have h := congrArg List.length hd6
                  rw [hr7] at h
                  simp only [List.length_append] at h
                  omega
                obtain ⟨pb, po, rfl, hpc⟩ := lists_cells hX6.a1 (by omega)
                obtain ⟨pu, hpu, hpub⟩ := hpc k9 hk3
                obtain ⟨pa, pcc, rfl⟩ := bytes_form hpub
                have H6 := Lib.hid (And.intro hE6 (And.intro hO6 (And.intro hX6 (And.intro hd6 (And.intro hpub (And.intro hc7 (And.intro hr7 hf7)))))))
                clear hE6 hO6 hX6 hd6 hpub hc7 hr7 hf7 hf6 hpc
                go_wp2_with fail
                refine came_k 51 H6.out.1 H6.out.2.2.2.2.1 (by omega) (by decide) (by decide) H6.out.2.2.2.2.2.1 rfl fun al cl w7 g7 T7 L7 E7 => ?_
                have X7 := Lib.hid (And.intro E7 (And.intro (H6.out.2.1.turn T7 (by decide) (by decide)) (And.intro L7 (H6.out.2.2.1.turn T7 (by decide)))))
                clear T7 L7 E7
                go_wp2_with (refine append_own rfl (.tmp 84) (.tmp 85) rfl (g := g7) (t := 40) (t' := 23) (tx := 51) rfl X7.out.2.1 rfl X7.out.2.2.1 (by decide) (by omega) ?_; intro a8 c8 w8 g8 L8 T8; have X8 := Lib.hid (And.intro L8 T8); clear L8 T8)
                go_roundg (N1.length - (k9 + 1))
                case measure => omega
                case rel => exact ⟨k9 + 1, g8, s7, d6 ++ fs, r7, q6 + 1, by omega, rfl, by go_num, X7.out.1.turn X8.out.2 (by decide), X8.out.1, X7.out.2.2.2.turn X8.out.2 (by decide), H6.out.2.2.2.2.2.2.2, by rw [List.append_assoc, ← H6.out.2.2.2.2.2.2.1]; exact H6.out.2.2.2.1, by omega⟩
              · obtain rfl : k9 = N1.length := by omega
                obtain ⟨rfl, rfl⟩ := Li.feed_done hf6
                rw [List.append_nil] at hd6
                have H6 := Lib.hid (And.intro hE6 (And.intro hO6 (And.intro hX6 hd6)))
                obtain ⟨qs, hqs⟩ : ∃ qs, qs = Li.packets s6 := ⟨_, rfl⟩
                have hql := HPS.out.2.2.2.2.1
                rw [← hqs] at hql
                have HQS := Lib.hid hqs
                clear hE6 hO6 hX6 hf6 hk3 hk6 hd6 hqs
                go_wp2_with fail
                refine packets_k 32 33 H6.out.1 (by decide) (by decide) (by decide) (by decide) (by decide) (by decide) HQS.out.symm fun aq cq w9 g9 T9 L9 E9 => ?_
                have C9 := Lib.hid (And.intro L9 (And.intro (show EndIs w9 g9 20 eb (Li.quiet s6) q6 from E9) (And.intro (H6.out.2.1.turn T9 (by decide) (by decide)) (H6.out.2.2.1.turn T9 (by decide)))))
                have HD6 := Lib.hid H6.out.2.2.2
                clear T9 L9 E9 H6
                go_wp2_with fail
                obtain ⟨N2, hN2⟩ : ∃ N2, N2 = (Li.wire qs s.back).1 ++ s.lateBack := ⟨_, rfl⟩
                obtain ⟨T2, hT2⟩ : ∃ T2, T2 = (Li.wire qs s.back).2.1 := ⟨_, rfl⟩
                obtain ⟨W2, hW2⟩ : ∃ W2, W2 = (Li.wire qs s.back).2.2 := ⟨_, rfl⟩
                have hsz := Li.wire_size qs s.back
                have hN2l : N2.length ≤ 300 := by rw [hN2, List.length_append]; omega
                have hW2l : W2.length ≤ 400 := by rw [hW2, hsz.2.2, List.length_drop]; omega
                have HW2 := Lib.hid (And.intro hN2 (And.intro hT2 hW2))
                clear hN2 hT2 hW2 hsz
                refine wire_t 52 62 C9.out.1 C9.out.2.2.2.a3 C9.out.2.2.2.back (by omega) (by omega) (by omega) (by decide) HW2.out.1.symm HW2.out.2.1.symm HW2.out.2.2.symm fun bn bcn bt bct bw bcw w10 g10 T10 N10 L10 B10 => ?_
                have K10 := C9.out.2.2.2.turn T10 (by decide)
                have X10 := Lib.hid (And.intro K10.fin (show Keep w (.slice la L.length lc) (.slice ta there.length tc) (.slice ba back.length bc) L xb 20 eb (Li.quiet s6) q6 40 23 (.slice oa d6.length oc) d6 60 31 (.slice at_ T1.length ct) T1 62 33 (.slice bt T2.length bct) T2 52 33 (.slice bn N2.length bcn) N2 (.slice aw W1.length cw) W1 (.slice bw W2.length bcw) W2 w10 g10 from ⟨K10.left, K10.box, K10.since, C9.out.2.1.turn T10 (by decide), C9.out.2.2.1.turn T10 (by decide) (by decide), K10.a2, L10, N10, K10.there, B10⟩))
                clear T10 N10 L10 B10 K10 C9
                have hN2i : (N2.length : Int) ≤ 300 := by omega
                go_wp2_with fail
                have hfd2 : Li.feed (Li.quiet (Li.filled L s)) N2 = ([], true, a1) := by have h := HPS.out.2.2.1; rw [← HQS.out, ← HW2.out.1] at h; exact h
                have FS := Lib.hid (feed_start (tl := 54) (tb := 13) X10.out.1 (Lists.nil _ _ _ _) X10.out.2 hfd2)
                clear hfd2 X10
                go_loopg [20] N2.length (fun gk vk wr => FeedAt (Keep w (.slice la L.length lc) (.slice ta there.length tc) (.slice ba back.length bc) L xb 20 eb (Li.quiet s6) q6 40 23 (.slice oa d6.length oc) d6 60 31 (.slice at_ T1.length ct) T1 62 33 (.slice bt T2.length bct) T2 52 33 (.slice bn N2.length bcn) N2 (.slice aw W1.length cw) W1 (.slice bw W2.length bcw) W2) 10 ea 54 13 N2 ([] ++ []) a1 qa gk (.slice none 0 0) vk wr)
                case atStart => exact FS.out
                case round =>
                  obtain ⟨k11, g11, s11, d11, r11, q11, hk11, rfl, rfl, hE11, hO11, hX11, hf11, hd11, hq11⟩ := hrel
                  have k110 : (0 : Int) ≤ (k11 : Int) := by omega
                  have hd0 : d11 = [] := List.eq_nil_of_length_eq_zero (by have h := congrArg List.length hd11; simp only [List.length_append, List.length_nil] at h; omega)
                  have hr0 : r11 = [] := List.eq_nil_of_length_eq_zero (by have h := congrArg List.length hd11; simp only [List.length_append, List.length_nil] at h; omega)
                  clear FS hd11
                  subst hd0
                  subst hr0
                  by_cases hk12 : k11 < N2.length
                  · have k111 : (k11 : Int) < (N2.length : Int) := by omega
                    obtain ⟨fs, s12, r12, hc12, hr12, hf12⟩ := Li.feed_step hf11 hk12
                    have hfs : fs = [] := List.eq_nil_of_length_eq_zero (by have h := congrArg List.length hr12; simp only [List.length_append, List.length_nil] at h; omega)
                    have hr13 : r12 = [] := List.eq_nil_of_length_eq_zero (by have h := congrArg List.length hr12; simp only [List.length_append, List.length_nil] at h; omega)
                    clear hr12
                    subst hfs
                    subst hr13
                    obtain ⟨pb, po, rfl, hpc⟩ := lists_cells hX11.a4 (by omega)
                    obtain ⟨pu, hpu, hpub⟩ := hpc k11 hk12
                    obtain ⟨pa, pcc, rfl⟩ := bytes_form hpub
                    have H11 := Lib.hid (And.intro hE11 (And.intro hX11 (And.intro hpub (And.intro hc12 hf12))))
                    clear hE11 hO11 hX11 hpub hc12 hf12 hf11 hpc
                    go_wp2_with fail
                    refine came_k 51 H11.out.1 H11.out.2.2.1 (by omega) (by decide) (by decide) H11.out.2.2.2.1 rfl fun al cl w12 g12 T12 L12 E12 => ?_
                    have X12 := Lib.hid (And.intro E12 (H11.out.2.1.turn T12 (by decide)))
                    clear T12 L12 E12
                    go_wp2_with fail
                    go_roundg (N2.length - (k11 + 1))
                    case measure => omega
                    case rel => exact ⟨k11 + 1, g12, s12, [], [], q11 + 1, by omega, rfl, by go_num, X12.out.1, Lists.nil _ _ _ _, X12.out.2, H11.out.2.2.2.2, rfl, by omega⟩
                  · obtain rfl : k11 = N2.length := by omega
                    obtain ⟨_, rfl⟩ := Li.feed_done hf11
                    have H12 := Lib.hid (And.intro hE11 hX11)
                    clear hE11 hO11 hX11 hf11 hk12 hk11
                    have hm2 : m = ⟨s11, Li.quiet s6, d6, T1, T2, nk, W1, W2⟩ := by
                      have h := HPS.out.2.2.2.1
                      rw [h, HD6.out, ← HPS.out.1, ← HW1.out.2.1, ← HW1.out.2.2, ← HQS.out, ← HW2.out.2.1, ← HW2.out.2.2, HNK.out, HFL.out.2.1]
                    have hrun : Li.Runs L z ⟨s11, Li.quiet s6, d6, T1, T2, nk, W1, W2⟩ fin := by rw [← hm2]; exact HPS.out.2.2.2.2.2.2
                    have HRU := Lib.hid hrun
                    clear hm2 hrun
                    go_wp2_with fail
                    go_roundg z
                    case measure => omega
                    case rel => exact ⟨i + 1, g11, ⟨s11, Li.quiet s6, d6, T1, T2, nk, W1, W2⟩, q11, q6, by omega, by omega, by go_num, rfl, HRU.out, H12.out.1, ⟨H12.out.2.left, H12.out.2.box, H12.out.2.since, H12.out.2.fin, H12.out.2.a1, H12.out.2.a2, H12.out.2.a3, H12.out.2.a3, H12.out.2.there, H12.out.2.back⟩, by omega, by omega, hW1l, hW2l⟩
          · have hlt1 : (L.length : Int) ≤ (nk : Int) := by omega
            clear hc
            go_wp2_with fail
            refine packets_k 30 31 (by rw [← H4.out.2.2.2.2]; exact H4.out.1) (by decide) (by decide) (by decide) (by decide) (by decide) (by decide) HPS.out.1.symm fun ap cp w5 g5 T5 L5 E5 => ?_
            have C5 := Lib.hid (And.intro L5 (And.intro (show EndIs w5 g5 10 ea (Li.quiet (Li.filled L s)) qa from E5) (H4.out.2.1.turn T5 (by decide))))
            have HNK := Lib.hid H4.out.2.2.2.1
            clear T5 L5 E5 H4
            go_wp2_with fail
            obtain ⟨N1, hN1⟩ : ∃ N1, N1 = (Li.wire ps s.there).1 ++ s.late := ⟨_, rfl⟩
            obtain ⟨T1, hT1⟩ : ∃ T1, T1 = (Li.wire ps s.there).2.1 := ⟨_, rfl⟩
            obtain ⟨W1, hW1⟩ : ∃ W1, W1 = (Li.wire ps s.there).2.2 := ⟨_, rfl⟩
            have hsz := Li.wire_size ps s.there
            have hN1l : N1.length ≤ 200 := by rw [hN1, List.length_append]; omega
            have hT1l : T1.length ≤ 100 := by rw [hT1]; omega
            have hW1l : W1.length ≤ 400 := by rw [hW1, hsz.2.2, List.length_drop]; omega
            have HW1 := Lib.hid (And.intro hN1 (And.intro hT1 hW1))
            clear hN1 hT1 hW1 hsz
            refine wire_t 50 60 C5.out.1 C5.out.2.2.a2 C5.out.2.2.there (by omega) (by omega) (by omega) (by decide) HW1.out.1.symm HW1.out.2.1.symm HW1.out.2.2.symm fun an cn at_ ct aw cw w6 g6 T6 N6 L6 B6 => ?_
            have K6 := C5.out.2.2.turn T6 (by decide)
            have X6 := Lib.hid (And.intro K6.fin (And.intro K6.a1 (show Keep w (.slice la L.length lc) (.slice ta there.length tc) (.slice ba back.length bc) L xb 10 ea (Li.quiet (Li.filled L s)) qa 50 31 (.slice an N1.length cn) N1 60 31 (.slice at_ T1.length ct) T1 62 33 (.slice ea3 s.lateBack.length ec3) s.lateBack 62 33 (.slice ea3 s.lateBack.length ec3) s.lateBack (.slice aw W1.length cw) W1 (.slice ba2 s.back.length bc2) s.back w6 g6 from ⟨K6.left, K6.box, K6.since, C5.out.2.1.turn T6 (by decide), N6, L6, K6.a3, K6.a3, B6, K6.back⟩)))
            clear T6 N6 L6 B6 K6 C5
            have hN1i : (N1.length : Int) ≤ 200 := by omega
            go_wp2_with fail
            have hfd1 : Li.feed s.b N1 = (d, true, b1) := by have h := HPS.out.2.1; rw [← HPS.out.1, ← HW1.out.1] at h; exact h
            have FS := Lib.hid (feed_start X6.out.1 X6.out.2.1 X6.out.2.2 hfd1)
            have hall1 : s.all.length + d.length ≤ 100 := by have h := HPS.out.2.2.2.2.2.1; rw [HPS.out.2.2.2.1] at h; simpa using h
            clear hfd1 X6
            go_loopg [9, 17] N1.length (fun gk vo vk wr => FeedAt (Keep w (.slice la L.length lc) (.slice ta there.length tc) (.slice ba back.length bc) L xb 10 ea (Li.quiet (Li.filled L s)) qa 50 31 (.slice an N1.length cn) N1 60 31 (.slice at_ T1.length ct) T1 62 33 (.slice ea3 s.lateBack.length ec3) s.lateBack 62 33 (.slice ea3 s.lateBack.length ec3) s.lateBack (.slice aw W1.length cw) W1 (.slice ba2 s.back.length bc2) s.back) 20 eb 40 23 N1 (s.all ++ d) b1 qb gk vo vk wr)
            case atStart => exact FS.out
            case round =>
              obtain ⟨k9, g7, s6, d6, r6, q6, hk6, rfl, rfl, hE6, hO6, hX6, hf6, hd6, hq6⟩ := hrel
              obtain ⟨oa, oc, rfl⟩ := hO6.form
              have k90 : (0 : Int) ≤ (k9 : Int) := by omega
              clear FS
              by_cases hk3 : k9 < N1.length
              · have k91 : (k9 : Int) < (N1.length : Int) := by omega
                obtain ⟨fs, s7, r7, hc7, hr7, hf7⟩ := Li.feed_step hf6 hk3
                have hlen7 : d6.length + fs.length ≤ 100 := by
                  have h := congrArg List.length hd6
                  rw [hr7] at h
                  simp only [List.length_append] at h
                  omega
                obtain ⟨pb, po, rfl, hpc⟩ := lists_cells hX6.a1 (by omega)
                obtain ⟨pu, hpu, hpub⟩ := hpc k9 hk3
                obtain ⟨pa, pcc, rfl⟩ := bytes_form hpub
                have H6 := Lib.hid (And.intro hE6 (And.intro hO6 (And.intro hX6 (And.intro hd6 (And.intro hpub (And.intro hc7 (And.intro hr7 hf7)))))))
                clear hE6 hO6 hX6 hd6 hpub hc7 hr7 hf7 hf6 hpc
                go_wp2_with fail
                refine came_k 51 H6.out.1 H6.out.2.2.2.2.1 (by omega) (by decide) (by decide) H6.out.2.2.2.2.2.1 rfl fun al cl w7 g7 T7 L7 E7 => ?_
                have X7 := Lib.hid (And.intro E7 (And.intro (H6.out.2.1.turn T7 (by decide) (by decide)) (And.intro L7 (H6.out.2.2.1.turn T7 (by decide)))))
                clear T7 L7 E7
                go_wp2_with (refine append_own rfl (.tmp 84) (.tmp 85) rfl (g := g7) (t := 40) (t' := 23) (tx := 51) rfl X7.out.2.1 rfl X7.out.2.2.1 (by decide) (by omega) ?_; intro a8 c8 w8 g8 L8 T8; have X8 := Lib.hid (And.intro L8 T8); clear L8 T8)
                go_roundg (N1.length - (k9 + 1))
                case measure => omega
                case rel => exact ⟨k9 + 1, g8, s7, d6 ++ fs, r7, q6 + 1, by omega, rfl, by go_num, X7.out.1.turn X8.out.2 (by decide), X8.out.1, X7.out.2.2.2.turn X8.out.2 (by decide), H6.out.2.2.2.2.2.2.2, by rw [List.append_assoc, ← H6.out.2.2.2.2.2.2.1]; exact H6.out.2.2.2.1, by omega⟩
              · obtain rfl : k9 = N1.length := by omega
                obtain ⟨rfl, rfl⟩ := Li.feed_done hf6
                rw [List.append_nil] at hd6
                have H6 := Lib.hid (And.intro hE6 (And.intro hO6 (And.intro hX6 hd6)))
                obtain ⟨qs, hqs⟩ : ∃ qs, qs = Li.packets s6 := ⟨_, rfl⟩
                have hql := HPS.out.2.2.2.2.1
                rw [← hqs] at hql
                have HQS := Lib.hid hqs
                clear hE6 hO6 hX6 hf6 hk3 hk6 hd6 hqs
                go_wp2_with fail
                refine packets_k 32 33 H6.out.1 (by decide) (by decide) (by decide) (by decide) (by decide) (by decide) HQS.out.symm fun aq cq w9 g9 T9 L9 E9 => ?_
                have C9 := Lib.hid (And.intro L9 (And.intro (show EndIs w9 g9 20 eb (Li.quiet s6) q6 from E9) (And.intro (H6.out.2.1.turn T9 (by decide) (by decide)) (H6.out.2.2.1.turn T9 (by decide)))))
                have HD6 := Lib.hid H6.out.2.2.2
                clear T9 L9 E9 H6
                go_wp2_with fail
                obtain ⟨N2, hN2⟩ : ∃ N2, N2 = (Li.wire qs s.back).1 ++ s.lateBack := ⟨_, rfl⟩
                obtain ⟨T2, hT2⟩ : ∃ T2, T2 = (Li.wire qs s.back).2.1 := ⟨_, rfl⟩
                obtain ⟨W2, hW2⟩ : ∃ W2, W2 = (Li.wire qs s.back).2.2 := ⟨_, rfl⟩
                have hsz := Li.wire_size qs s.back
                have hN2l : N2.length ≤ 300 := by rw [hN2, List.length_append]; omega
                have hW2l : W2.length ≤ 400 := by rw [hW2, hsz.2.2, List.length_drop]; omega
                have HW2 := Lib.hid (And.intro hN2 (And.intro hT2 hW2))
                clear hN2 hT2 hW2 hsz
                refine wire_t 52 62 C9.out.1 C9.out.2.2.2.a3 C9.out.2.2.2.back (by omega) (by omega) (by omega) (by decide) HW2.out.1.symm HW2.out.2.1.symm HW2.out.2.2.symm fun bn bcn bt bct bw bcw w10 g10 T10 N10 L10 B10 => ?_
                have K10 := C9.out.2.2.2.turn T10 (by decide)
                have X10 := Lib.hid (And.intro K10.fin (show Keep w (.slice la L.length lc) (.slice ta there.length tc) (.slice ba back.length bc) L xb 20 eb (Li.quiet s6) q6 40 23 (.slice oa d6.length oc) d6 60 31 (.slice at_ T1.length ct) T1 62 33 (.slice bt T2.length bct) T2 52 33 (.slice bn N2.length bcn) N2 (.slice aw W1.length cw) W1 (.slice bw W2.length bcw) W2 w10 g10 from ⟨K10.left, K10.box, K10.since, C9.out.2.1.turn T10 (by decide), C9.out.2.2.1.turn T10 (by decide) (by decide), K10.a2, L10, N10, K10.there, B10⟩))
                clear T10 N10 L10 B10 K10 C9
                have hN2i : (N2.length : Int) ≤ 300 := by omega
                go_wp2_with fail
                have hfd2 : Li.feed (Li.quiet (Li.filled L s)) N2 = ([], true, a1) := by have h := HPS.out.2.2.1; rw [← HQS.out, ← HW2.out.1] at h; exact h
                have FS := Lib.hid (feed_start (tl := 54) (tb := 13) X10.out.1 (Lists.nil _ _ _ _) X10.out.2 hfd2)
                clear hfd2 X10
                go_loopg [20] N2.length (fun gk vk wr => FeedAt (Keep w (.slice la L.length lc) (.slice ta there.length tc) (.slice ba back.length bc) L xb 20 eb (Li.quiet s6) q6 40 23 (.slice oa d6.length oc) d6 60 31 (.slice at_ T1.length ct) T1 62 33 (.slice bt T2.length bct) T2 52 33 (.slice bn N2.length bcn) N2 (.slice aw W1.length cw) W1 (.slice bw W2.length bcw) W2) 10 ea 54 13 N2 ([] ++ []) a1 qa gk (.slice none 0 0) vk wr)
                case atStart => exact FS.out
                case round =>
                  obtain ⟨k11, g11, s11, d11, r11, q11, hk11, rfl, rfl, hE11, hO11, hX11, hf11, hd11, hq11⟩ := hrel
                  have k110 : (0 : Int) ≤ (k11 : Int) := by omega
                  have hd0 : d11 = [] := List.eq_nil_of_length_eq_zero (by have h := congrArg List.length hd11; simp only [List.length_append, List.length_nil] at h; omega)
                  have hr0 : r11 = [] := List.eq_nil_of_length_eq_zero (by have h := congrArg List.length hd11; simp only [List.length_append, List.length_nil] at h; omega)
                  clear FS hd11
                  subst hd0
                  subst hr0
                  by_cases hk12 : k11 < N2.length
                  · have k111 : (k11 : Int) < (N2.length : Int) := by omega
                    obtain ⟨fs, s12, r12, hc12, hr12, hf12⟩ := Li.feed_step hf11 hk12
                    have hfs : fs = [] := List.eq_nil_of_length_eq_zero (by have h := congrArg List.length hr12; simp only [List.length_append, List.length_nil] at h; omega)
                    have hr13 : r12 = [] := List.eq_nil_of_length_eq_zero (by have h := congrArg List.length hr12; simp only [List.length_append, List.length_nil] at h; omega)
                    clear hr12
                    subst hfs
                    subst hr13
                    obtain ⟨pb, po, rfl, hpc⟩ := lists_cells hX11.a4 (by omega)
                    obtain ⟨pu, hpu, hpub⟩ := hpc k11 hk12
                    obtain ⟨pa, pcc, rfl⟩ := bytes_form hpub
                    have H11 := Lib.hid (And.intro hE11 (And.intro hX11 (And.intro hpub (And.intro hc12 hf12))))
                    clear hE11 hO11 hX11 hpub hc12 hf12 hf11 hpc
                    go_wp2_with fail
                    refine came_k 51 H11.out.1 H11.out.2.2.1 (by omega) (by decide) (by decide) H11.out.2.2.2.1 rfl fun al cl w12 g12 T12 L12 E12 => ?_
                    have X12 := Lib.hid (And.intro E12 (H11.out.2.1.turn T12 (by decide)))
                    clear T12 L12 E12
                    go_wp2_with fail
                    go_roundg (N2.length - (k11 + 1))
                    case measure => omega
                    case rel => exact ⟨k11 + 1, g12, s12, [], [], q11 + 1, by omega, rfl, by go_num, X12.out.1, Lists.nil _ _ _ _, X12.out.2, H11.out.2.2.2.2, rfl, by omega⟩
                  · obtain rfl : k11 = N2.length := by omega
                    obtain ⟨_, rfl⟩ := Li.feed_done hf11
                    have H12 := Lib.hid (And.intro hE11 hX11)
                    clear hE11 hO11 hX11 hf11 hk12 hk11
                    have hm2 : m = ⟨s11, Li.quiet s6, d6, T1, T2, nk, W1, W2⟩ := by
                      have h := HPS.out.2.2.2.1
                      rw [h, HD6.out, ← HPS.out.1, ← HW1.out.2.1, ← HW1.out.2.2, ← HQS.out, ← HW2.out.2.1, ← HW2.out.2.2, HNK.out, HFL.out.2.1]
                    have hrun : Li.Runs L z ⟨s11, Li.quiet s6, d6, T1, T2, nk, W1, W2⟩ fin := by rw [← hm2]; exact HPS.out.2.2.2.2.2.2
                    have HRU := Lib.hid hrun
                    clear hm2 hrun
                    go_wp2_with fail
                    go_roundg z
                    case measure => omega
                    case rel => exact ⟨i + 1, g11, ⟨s11, Li.quiet s6, d6, T1, T2, nk, W1, W2⟩, q11, q6, by omega, by omega, by go_num, rfl, HRU.out, H12.out.1, ⟨H12.out.2.left, H12.out.2.box, H12.out.2.since, H12.out.2.fin, H12.out.2.a1, H12.out.2.a2, H12.out.2.a3, H12.out.2.a3, H12.out.2.there, H12.out.2.back⟩, by omega, by omega, hW1l, hW2l⟩
    · obtain rfl : i = rounds := by omega
      rw [Nat.sub_self] at hRu
      obtain rfl : s = fin := hRu
      have HX := Lib.hid (And.intro hEa hK)
      clear hEa hK
      go_wp2_with fail
      go_ret3
      exact H.out ea va vc wr gr qa HX.out.2.since HX.out.1 HX.out.2.a1
end Go.Proofs.Ytoedalocfepkoaa
