/- Scopes: functions cloned; the parts of a program. -/
import Derived.Test.YtmkhfonafcikdaaGreatDoorScPartsV
import Derived.Deep.RegionLaw
import Derived.Lib.SliceRun
namespace Go.Proofs.YtmkhfonafcikdaaGreatDoor
open Go.RowKit Go.My Go.Nd

theorem fl_one (els : List Fl) (h : ∀ e ∈ els, e.v1.oneCell' = true ∧ e.v2.oneCell' = true) : ∀ u ∈ flCells els, u.oneCell' = true := by
  induction els with
  | nil => intro u h; simp [flCells] at h
  | cons e els ih =>
    intro u hu
    rw [flCells_cons] at hu
    simp only [List.mem_cons] at hu
    have h0 := h e (by simp)
    rcases hu with rfl | rfl | rfl | hu
    · rfl
    · exact h0.1
    · exact h0.2
    · exact ih (fun x hx => h x (List.mem_cons_of_mem _ hx)) u hu

set_option maxRecDepth 100000 in
set_option maxHeartbeats 4000000 in
theorem clone_t {w : World} {B : Nat} {v : Value} {els : List Fl} (hB : B ≤ w.heap.size) (h : FlSrc w B v els) (h1 : ∀ u ∈ flCells els, u.oneCell' = true) (hl : els.length ≤ 2000000) {Q : Ending → World → Prop}
    (hQ : ∀ v' w' g', Since w w' g' → Owns w' g' 5 57 3 v' els.length (flCells els) → Q (.returned v') w') : Calls Tryz.prog 101 #[v] w Q := by
  have HQ := Lib.hid hQ
  have HS := Lib.hid h
  have H1 := Lib.hid h1
  obtain ⟨a, c, rfl, h2, _⟩ := h
  clear hQ h1
  go_enter Tryz.func101, Tryz.ntmps101
  have qT : ∀ (w : World) (x : Option Addr) (n c : Nat), (binOp .eql 22 (.slice x n c) (.slice none 0 0)).run Tryz.prog w = .ok (.bool x.isNone) w := fun w x n c => Lib.run_eql_slice_nil w _ _ x n c 0 0 Tryz.underlying22
  cases a with
  | none =>
    obtain rfl := h2 rfl
    go_wp2_with fail
    exact HQ.out _ _ (fun _ => 0) (Since.start w) (Owns.nil _ _ _ _ _)
  | some ad =>
    have T1 := Turn.alloc w (fun _ => 0) 5 (.cells #[] 57)
    have hO : Owns (w.alloc (.cells #[] 57)) (Tags.ext (fun _ => 0) w.heap.size 5) 5 57 3 (.slice (some ⟨w.heap.size, 0, none⟩) 0 0) 0 [] :=
      ⟨some w.heap.size, ⟨rfl, .inr ⟨w.heap.size, 0, 0, #[], rfl, rfl, heap_alloc_new w _, Nat.le_refl _, by decide, by simp, by simp⟩⟩, fun b hb => by cases hb; exact Tags.ext_new _ _ _ _ (Nat.le_refl _)⟩
    have HO := Lib.hid hO
    have ST := Lib.hid ((Since.start w).turn T1 (by simp))
    have HS2 := Lib.hid (HS.out.below ((Below.alloc (Below.refl w.heap.size w) (Nat.le_refl _) (.cells #[] 57)).mono hB)).src
    clear T1 hO h2 hB
    go_wp2_with (at_builtin; refine wpList_append_t _ rfl (.tmp 5) (.tmp 6) rfl fnElem (g := Tags.ext (fun _ => 0) w.heap.size 5) (tg := 5) (n := 0) (xs := []) rfl HO.out rfl HS2.out H1.out (by unfold maxLen; omega) (by omega) ?_; intro ao cap w5 g5 O5 T5; have K5 := Lib.hid (And.intro O5 T5); clear O5 T5)
    have hq := HQ.out _ w5 g5 (ST.out.turn K5.out.2 (by simp)) (by have := K5.out.1; rw [Nat.zero_add, List.nil_append] at this; exact this)
    simpa using hq

theorem Src.lit_below {w w1 : World} {n size : Nat} {o : Array Value} {t : TypeId} (hb : Below (w.alloc (.cells o t)).heap.size (w.alloc (.cells o t)) w1) (h : o.size = n * size) : Src w1 size (.slice (some ⟨w.heap.size, 0, none⟩) n n) n o.toList := by
  obtain ⟨h1, (h2 | ⟨ad, c, e, h3⟩)⟩ := Src.lit (w := w) o t rfl h
  · exact absurd h2.1 (by simp)
  · cases e
    refine ⟨h1, .inr ⟨_, _, rfl, fun j u hj => ?_⟩⟩
    rw [add_none]
    have := h3 j u hj
    rw [add_none] at this
    exact (World.cell?_of_block (hb.block _ (by simp))).trans this

theorem parts_end {w w5 : World} {B : Nat} {g5 : Tags} {ao : Option Addr} {n cap : Nat} {els : List Fl} {fs : List Nd.Fn} {body : Ns} {v2 : Value} (hb : Below B w w5) (h1 : els.length = n) (h2 : fs.length = n) (hn : n ≤ 2000000)
    (hA : ∀ j (h1 : j < els.length) (h2 : j < fs.length), FlIs w (· < B) false els[j] fs[j]) (hN : Nodes w (· < B) false v2 body) (hw : B ≤ w.heap.size)
    (hO : Owns w5 g5 5 57 3 (.slice ao (n + 1) cap) (n + 1) (flCells els ++ [.string ⟨#[]⟩, .slice none 0 0, v2])) : FuncsIn w5 (· < w5.heap.size) false (.slice ao (n + 1) cap) (fs ++ [⟨[], [], body⟩]) := by
  have hc : flCells els ++ [.string ⟨#[]⟩, .slice none 0 0, v2] = flCells (els ++ [⟨[], .slice none 0 0, v2⟩]) := by rw [flCells_append]; rfl
  rw [hc] at hO
  have hB5 : B ≤ w5.heap.size := Nat.le_trans hw hb.size
  refine funcs_of_owns hO (by simp [h1]) (by simp [h2]) (by omega) (fun j hj hj' => ?_) (Nat.le_refl _)
  by_cases hje : j < els.length
  · rw [List.getElem_append_left hje, List.getElem_append_left (by omega)]
    obtain ⟨k1, k2, k3⟩ := hA j hje (by omega)
    exact ⟨k1, (k2.below hb).mono fun b _ hb => Nat.lt_of_lt_of_le hb hB5, (k3.below hb).mono fun b _ hb => Nat.lt_of_lt_of_le hb hB5⟩
  · have hj2 : j = els.length := by rw [List.length_append, List.length_singleton] at hj; omega
    subst hj2
    rw [List.getElem_append_right (Nat.le_refl _), List.getElem_append_right (by omega)]
    simp only [Nat.sub_self, List.getElem_singleton, h1, h2]
    exact ⟨⟨rfl, by simp⟩, ⟨none, 0, rfl, Nat.le_refl _, by decide, by simp, (fun e => by cases e), fun i hi => absurd hi (Nat.not_lt_zero _)⟩, (hN.below hb).mono fun b _ hb => Nat.lt_of_lt_of_le hb hB5⟩

set_option maxRecDepth 100000 in
set_option maxHeartbeats 8000000 in
theorem parts_t {w : World} {B : Nat} {p : Pr} {v1 v2 : Value} (hB : B ≤ w.heap.size) (h1 : FuncsIn w (· < B) false v1 p.funcs) (h2 : Nodes w (· < B) false v2 p.body) (hl : p.funcs.length ≤ 2000000) {Q : Ending → World → Prop}
    (hQ : ∀ v w', Below w.heap.size w w' → FuncsIn w' (· < w'.heap.size) false v (partsOf p) → Q (.returned v) w') : Calls Tryz.prog 38 #[.agg #[v1, v2]] w Q := by
  obtain ⟨els, k1, k2, k3⟩ := fls_of h1
  have h1c : ∀ u ∈ flCells els, u.oneCell' = true := fl_one els fun e he => by
    obtain ⟨i, hi, rfl⟩ := List.getElem_of_mem he
    have := k2 i hi (by omega)
    obtain ⟨_, _, e1⟩ := this.args.form
    obtain ⟨_, _, e2⟩ := this.body.form
    exact ⟨by rw [e1]; rfl, by rw [e2]; rfl⟩
  obtain ⟨a1, c1, rfl⟩ := h1.form
  obtain ⟨a2, c2, rfl⟩ := h2.form
  obtain ⟨wb, hwb⟩ : ∃ wb, wb = w.alloc (.cells #[.slice a1 p.funcs.length c1, .slice a2 p.body.len c2] 25) := ⟨_, rfl⟩
  have hbb := Below.alloc (Below.refl w.heap.size w) (Nat.le_refl _) (.cells #[.slice a1 p.funcs.length c1, .slice a2 p.body.len c2] 25)
  have hrow := heap_alloc_new w (.cells #[.slice a1 p.funcs.length c1, .slice a2 p.body.len c2] 25)
  rw [← hwb] at hbb hrow
  obtain ⟨bx, hbx⟩ : ∃ bx, bx = w.heap.size := ⟨_, rfl⟩
  rw [← hbx] at hrow
  have hblt : bx < wb.heap.size := (Array.getElem?_eq_some_iff.1 hrow).1
  have hd : Below wb.drew.heap.size wb.drew wb.drew := Below.refl _ _
  have hwd : Below w.heap.size w wb.drew := hbb.drew
  have HQ := Lib.hid hQ
  have HS := Lib.hid (fun (W : World) (h : Below wb.drew.heap.size wb.drew W) => And.intro (Nat.le_trans hB (Nat.le_trans hwd.size h.size)) (k3.below (hwd.mono hB |>.trans (h.mono (Nat.le_trans hB hwd.size)))))
  have HC := Lib.hid h1c
  have HE := Lib.hid (fun (W : World) (g : Tags) (ao : Option Addr) (cap : Nat) (h : Below wb.drew.heap.size wb.drew W) (hO : Owns W g 5 57 3 (.slice ao (els.length + 1) cap) (els.length + 1) (flCells els ++ [.string ⟨#[]⟩, .slice none 0 0, .slice a2 p.body.len c2])) =>
    And.intro (hwd.trans (h.mono hwd.size)) (parts_end (hwd.mono hB |>.trans (h.mono (Nat.le_trans hB hwd.size))) rfl k1.symm (by omega) k2 h2 hB hO))
  have HCell := Lib.hid (fun (W : World) (h : Below wb.drew.heap.size wb.drew W) => (World.cell?_of_block (h.block bx hblt)).trans (cell_of_row wb bx 1 _ _ _ hrow))
  have hll : els.length ≤ 2000000 := by omega
  have HD := Lib.hid (Below.alloc hd (Nat.le_refl _) (.cells #[.string ⟨#[]⟩, .slice none 0 0, .slice a2 p.body.len c2] 57))
  rw [← k1] at hwb hrow
  have c0 : wb.drew.cell? ⟨bx, 0, none⟩ = some (.slice a1 els.length c1) := cell_of_row wb bx 0 _ _ _ hrow
  have c1' : wb.drew.cell? ⟨bx, 1, none⟩ = some (.slice a2 p.body.len c2) := cell_of_row wb bx 1 _ _ _ hrow
  have c2' := HCell.out _ HD.out
  have c0' := (World.cell?_of_block (HD.out.block bx hblt)).trans (cell_of_row wb bx 0 _ _ _ hrow)
  have c2'' : (wb.alloc (.cells #[.string ⟨#[]⟩, .slice none 0 0, .slice a2 p.body.len c2] 57)).cell? ⟨bx, 1, none⟩ = some (.slice a2 p.body.len c2) := c2'
  have c0'' : (wb.alloc (.cells #[.string ⟨#[]⟩, .slice none 0 0, .slice a2 p.body.len c2] 57)).cell? ⟨bx, 0, none⟩ = some (.slice a1 els.length c1) := c0'
  clear c2' c0'
  rw [← k1]
  have HP := Lib.hid (show p.funcs ++ [⟨[], [], p.body⟩] = partsOf p from rfl)
  rw [← k1] at HS
  clear h1 h2 k1 k2 k3 h1c hQ hB hl hbb hblt hd hwd hrow
  go_enter Tryz.func38, Tryz.ntmps38
  go_upto_region 1 with fail
  rw [← hwb, ← hbx]
  clear hwb hbx
  go_region_law (first
    | (go_simp; go_at_call 101; refine clone_t (HS.out _ (Below.refl _ _)).1 (HS.out _ (Below.refl _ _)).2 HC.out hll ?_; intro v3 w3 g3 S3 O3; have X3 := Lib.hid (And.intro S3 O3); have e3 := HCell.out _ S3.below; simp at e3; clear S3 O3)
    | (go_simp; go_at_call 101; refine clone_t (HS.out _ HD.out).1 (HS.out _ HD.out).2 HC.out hll ?_; intro v3 w3 g3 S3 O3; have X3 := Lib.hid (And.intro S3 O3); clear S3 O3)
    | (refine step_append_t rfl (.tmp 5) (.tmp 9) rfl fnElem (g := g3.ext w3.heap.size 6) (tg := 5) rfl (X3.out.2.turn (Turn.alloc w3 g3 6 _) (by simp)) rfl (Src.lit (n := 1) #[.string ⟨#[]⟩, .slice none 0 0, .slice a2 p.body.len c2] 57 rfl rfl) (by simp [Value.oneCell']) (by unfold maxLen; omega) (by omega) ?_; intro ao cap w5 g5 O5 T5; have X5 := Lib.hid (And.intro ((X3.out.1.turn (Turn.alloc w3 g3 6 _) (by simp)).turn T5 (by simp)).below O5); clear O5 T5)
    | (refine step_append_t rfl (.tmp 5) (.tmp 9) rfl fnElem (g := g3) (tg := 5) rfl X3.out.2 rfl (Src.lit_below (w := wb.drew) (n := 1) (o := #[.string ⟨#[]⟩, .slice none 0 0, .slice a2 p.body.len c2]) (t := 57) X3.out.1.below rfl) (by simp [Value.oneCell']) (by unfold maxLen; omega) (by omega) ?_; intro ao cap w5 g5 O5 T5; have X5 := Lib.hid (And.intro (HD.out.trans ((X3.out.1.turn T5 (by simp)).below.mono HD.out.size)) O5); clear O5 T5))
  all_goals
    have X6 := Lib.hid (HE.out w5 g5 ao cap X5.out.1 X5.out.2)
    go_wp2_with fail
    exact HQ.out _ _ X6.out.1 X6.out.2
end Go.Proofs.YtmkhfonafcikdaaGreatDoor
