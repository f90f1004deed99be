/- Scopes: a name is added. -/
import Derived.Test.YtmkhfonafcikdaaGreatDoorScNamV
import Derived.IntWalk
import Derived.WalkSpells
namespace Go.Proofs.YtmkhfonafcikdaaGreatDoor
open Go.RowKit Go.Maps Go.My Go.Nd


set_option maxRecDepth 100000 in
set_option maxHeartbeats 8000000 in
theorem add_t {w : World} {g : Tags} {t nb : Nat} {cur : List Tx} {k : Nat} {s : Tx} (h : NamAt w g t nb cur k) (hk : k ≤ 4000000) (hs : s.length ≤ 140737488351232) {Q : Ending → World → Prop}
    (hQ : ∀ w' g', Turn w g w' g' [t, t + 1, t + 2] → NamAt w' g' t nb (addN cur s) (k + 1) → Q (.returned (.bool (!cur.contains s))) w') :
    Calls Tryz.prog 34 #[.pointer (some ⟨nb, 0, none⟩), .string (bs s)] w Q := by
  obtain ⟨hl, hall, hc⟩ := h
  have HQ := Lib.hid hQ
  have HS := Lib.hid (And.intro hs (show s.length ≤ maxLen by unfold maxLen; omega))
  have HA := Lib.hid (And.intro hl hall)
  have hcl : cur.length ≤ 4000000 := by omega
  clear hQ hs hall
  have qT : ∀ (w : World) (r : Option Nat), (binOp .eql 72 (.map r) (.map none)).run Tryz.prog w = .ok (.bool r.isNone) w := fun w r => run_eql_map_nil w _ _ _ r Tryz.underlying72
  rcases hc with ⟨rfl, hO⟩ | ⟨mb, a, c, f, hM⟩
  · have TA := Turn.alloc w g (t + 2) (.map #[] 0)
    have RA := hO.row.turn TA (by simp)
    have hmk : (Instr.makeMap 72 none).run Tryz.prog w = .ok (.map (some w.heap.size)) (w.alloc (.map #[] 0)) := rfl
    have c1 := cell_of_row w nb 1 _ _ _ hO.row.1
    have d1 := cell_of_row (w.alloc (.map #[] 0)) nb 1 _ _ _ RA.1
    have e1 := frozen_of_row (w.alloc (.map #[] 0)) nb 1 _ _ RA.1
    simp at c1 d1
    have p := Put.one RA.1 1 (.map (some w.heap.size))
    have T5 := Turn.setCell (w.alloc (.map #[] 0)) (g.ext w.heap.size (t + 2)) ⟨nb, 1, none⟩ (.map (some w.heap.size)) p.size p.os p.tape p.output
    rw [show (g.ext w.heap.size (t + 2)) nb = t from RA.2] at T5
    have m0 := MapS.made w Tryz.prog 9
    have hne : w.heap.size ≠ nb := fun e => by have := hO.row.lt; omega
    have m1 := (m0.mono (Nat.zero_le k)).frame (p.oth _ hne)
    obtain ⟨g1, hg1⟩ : ∃ g1, g1 = g.ext w.heap.size (t + 2) := ⟨_, rfl⟩
    have mt : g1 w.heap.size = t + 2 := by rw [hg1]; exact Tags.ext_new _ _ _ _ (Nat.le_refl _)
    rw [← hg1] at TA T5 RA
    obtain ⟨mb, hmb⟩ : ∃ mb, mb = w.heap.size := ⟨_, rfl⟩
    rw [← hmb] at p T5 m1 mt
    obtain ⟨w1, hw1⟩ : ∃ w1, w1 = (w.alloc (.map #[] 0)).setCell ⟨nb, 1, none⟩ (.map (some mb)) := ⟨_, rfl⟩
    rw [← hw1] at p T5 m1
    have X := Lib.hid (show NamM w1 g1 t nb mb none 0 [] k (fun _ => none) from ⟨⟨by simpa using p.row, RA.2⟩, Owns.nil _ _ _ _ _, mt, m1, fun j _ => ⟨fun h => (by cases h), fun _ => rfl⟩⟩)
    have TT := Lib.hid (show Turn w g w1 g1 [t, t + 1, t + 2] from TA.trans T5 (by simp) (by simp))
    obtain ⟨cur, hcur⟩ : ∃ cur : List Tx, cur = [] := ⟨_, rfl⟩
    obtain ⟨a, ha⟩ : ∃ a : Option Addr, a = none := ⟨_, rfl⟩
    obtain ⟨c, hcc⟩ : ∃ c : Nat, c = 0 := ⟨_, rfl⟩
    rw [← hcur] at X HA HQ hcl
    rw [← ha, ← hcc] at X
    clear p T5 TA RA m0 m1 mt hne hO hl hg1
    go_enter Tryz.func34, Tryz.ntmps34
    go_upto_region 3 with fail
    rw [← hmb, ← hw1]
    clear hw1 hmb hmk c1 d1 e1 ha hcc hcur
    -- from the count on: w1 is the world
    have hk1 : k + 1 ≤ 4000001 := by omega
    by_cases hin : s ∈ cur
    · obtain ⟨cc, h1, h2, h3⟩ := (X.out.cnt s HS.out.2).1 hin
      have hlk : (Instr.lookup 72 (.map (some mb)) (.string (bs s)) false).run Tryz.prog w1 = .ok (.int .i64 (cc : Int)) w1 := by
        have := X.out.map.at Tryz.underlying9 Tryz.underlying72 (z := .int .i64 0) (by kernel_rfl) HS.out.2
        rw [h3] at this
        exact this
      have cw : IntKind.i64.wrap ((cc : Int) + 1) = (cc : Int) + 1 := IntWalk.i64_in _ (by omega)
      obtain ⟨w2, hup, hM2, hg2⟩ := X.out.map.store Tryz.underlying9 Tryz.underlying72 (by unfold maxLen; omega) HS.out.2 (.int .i64 ((cc : Int) + 1))
      have T2 := Turn.of_step (Step.of_grown hg2) g1 (t + 2) (by intro q hq; cases hq; exact X.out.mtag)
      have hlk2 : (Instr.lookup 72 (.map (some mb)) (.string (bs s)) false).run Tryz.prog w2 = .ok (.int .i64 ((cc : Int) + 1)) w2 := by
        have := hM2.at Tryz.underlying9 Tryz.underlying72 (z := .int .i64 0) (by kernel_rfl) HS.out.2
        rw [if_pos rfl] at this
        exact this
      have R2 := X.out.row.turn T2 (by simp)
      have c1 := cell_of_row w1 nb 1 _ _ _ X.out.row.1
      have c1' := cell_of_row w2 nb 1 _ _ _ R2.1
      simp at c1 c1'
      have cp : (1 : Int) < (cc : Int) + 1 := by omega
      have HF := Lib.hid (And.intro (TT.out.trans T2 (V := [t, t + 1, t + 2]) (fun _ h => h) (by simp)) (show NamAt w2 (g1.ext w1.heap.size (t + 2)) t nb cur (k + 1) from
        ⟨by have := HA.out.1; omega, HA.out.2, .inr ⟨mb, a, c, _, R2, X.out.list.turn T2 (by simp), by rw [Tags.ext_old _ _ _ _ X.out.map.lt]; exact X.out.mtag, hM2, X.out.cnt.more hin h2⟩⟩))
      have HO := Lib.hid (addN_old hin)
      clear hin h1 h2 h3 hM2 hg2 T2 R2
      go_wp2_with fail
      have hq := HQ.out w2 _ HF.out.1 (by rw [HO.out.1]; exact HF.out.2)
      rw [HO.out.2] at hq
      exact hq
    · have h3 := (X.out.cnt s HS.out.2).2 hin
      have hlk : (Instr.lookup 72 (.map (some mb)) (.string (bs s)) false).run Tryz.prog w1 = .ok (.int .i64 0) w1 := by
        have := X.out.map.at Tryz.underlying9 Tryz.underlying72 (z := .int .i64 0) (by kernel_rfl) HS.out.2
        rw [h3] at this
        exact this
      obtain ⟨w2, hup, hM2, hg2⟩ := X.out.map.store Tryz.underlying9 Tryz.underlying72 (by unfold maxLen; omega) HS.out.2 (.int .i64 1)
      have T2 := Turn.of_step (Step.of_grown hg2) g1 (t + 2) (by intro q hq; cases hq; exact X.out.mtag)
      have hlk2 : (Instr.lookup 72 (.map (some mb)) (.string (bs s)) false).run Tryz.prog w2 = .ok (.int .i64 1) w2 := by
        have := hM2.at Tryz.underlying9 Tryz.underlying72 (z := .int .i64 0) (by kernel_rfl) HS.out.2
        rw [if_pos rfl] at this
        exact this
      have R2 := X.out.row.turn T2 (by simp)
      have c1 := cell_of_row w1 nb 1 _ _ _ X.out.row.1
      have c1' := cell_of_row w2 nb 1 _ _ _ R2.1
      have c0' := cell_of_row w2 nb 0 _ _ _ R2.1
      simp at c1 c1' c0'
      have mt : (g1.ext w1.heap.size (t + 2)) mb = t + 2 := by rw [Tags.ext_old _ _ _ _ X.out.map.lt]; exact X.out.mtag
      obtain ⟨g2, hg⟩ : ∃ g2, g2 = g1.ext w1.heap.size (t + 2) := ⟨_, rfl⟩
      rw [← hg] at T2 R2 mt
      have L2 := X.out.list.turn T2 (by simp)
      have HF := Lib.hid (And.intro (TT.out.trans T2 (V := [t, t + 1, t + 2]) (fun _ h => h) (by simp)) (And.intro R2 (And.intro L2 (And.intro mt (And.intro hM2 (X.out.cnt.new hin))))))
      have HO := Lib.hid (addN_new hin)
      clear hin h3 hM2 hg2 T2 R2 L2 mt hg
      go_wp2_with (refine wpList_append_t _ rfl (.tmp 32) (.tmp 34) rfl strElN (g := g2.ext w2.heap.size (t + 3)) (tg := t + 1) (v := .slice a cur.length c) (n := cur.length) (xs := strCells cur) rfl (HF.out.2.2.1.turn (Turn.alloc w2 g2 (t + 3) (.cells #[.string (bs s)] 9)) (by simp)) (y := .slice (some ⟨w2.heap.size, 0, none⟩) 1 1) rfl (Src.lit (n := 1) #[.string (bs s)] 9 rfl rfl) (by simp [Value.oneCell']) (by unfold maxLen; omega) (by omega) ?_; intro ao cap w4 g4 L4 T4; have T24 := (Turn.alloc w2 g2 (t + 3) (.cells #[.string (bs s)] 9)).trans T4 (V := [t + 1]) (by simp) (by simp); have R4 := HF.out.2.1.turn T24 (by simp); have d0 := cell_of_row w4 nb 0 _ _ _ R4.1; have e0 := frozen_of_row w4 nb 0 _ _ R4.1; simp at d0; have X4 := Lib.hid (And.intro L4 (And.intro T24 R4)); clear L4 T4 T24 R4)
      have p := Put.one X4.out.2.2.1 0 (.slice ao (cur.length + 1) cap)
      have T5 := Turn.setCell w4 g4 ⟨nb, 0, none⟩ (.slice ao (cur.length + 1) cap) p.size p.os p.tape p.output
      rw [show g4 nb = t from X4.out.2.2.2] at T5
      have mt4 : g4 mb = t + 2 := (X4.out.2.1.old mb HF.out.2.2.2.2.1.lt).trans HF.out.2.2.2.1
      have hq := HQ.out (w4.setCell ⟨nb, 0, none⟩ (.slice ao (cur.length + 1) cap)) g4 ((HF.out.1.trans X4.out.2.1 (V := [t, t + 1, t + 2]) (fun _ h => h) (by simp)).trans T5 (fun _ h => h) (by simp)) (by
        rw [HO.out.1]
        refine ⟨by have := HA.out.1; simp; omega, fun j hj => ?_, .inr ⟨mb, ao, cap, _, ⟨by simpa using p.row, X4.out.2.2.2⟩, ?_, mt4, ?_, HF.out.2.2.2.2.2⟩⟩
        · rcases List.mem_append.1 hj with hj | hj
          · exact HA.out.2 j hj
          · simp only [List.mem_cons, List.not_mem_nil, or_false] at hj; subst hj; exact HS.out.1
        · have h4 := X4.out.1.turn T5 (by simp)
          simpa [strCells] using h4
        · have hlt4 := Nat.lt_of_lt_of_le HF.out.2.2.2.2.1.lt X4.out.2.1.size
          exact (HF.out.2.2.2.2.1.frame (X4.out.2.1.block mb HF.out.2.2.2.2.1.lt (by rw [HF.out.2.2.2.1]; simp))).frame (T5.block mb hlt4 (by rw [mt4]; simp)))
      rw [HO.out.2] at hq
      exact hq
  · obtain ⟨w1, hw1⟩ : ∃ w1, w1 = w := ⟨_, rfl⟩
    obtain ⟨g1, hg1⟩ : ∃ g1, g1 = g := ⟨_, rfl⟩
    have TT := Lib.hid (show Turn w g w1 g1 [t, t + 1, t + 2] by rw [hw1, hg1]; exact Turn.refl _ _ _)
    rw [← hw1, ← hg1] at hM
    rw [← hw1]
    have X := Lib.hid hM
    have c1 := cell_of_row w1 nb 1 _ _ _ hM.row.1
    simp at c1
    clear hM hw1 hg1
    go_enter Tryz.func34, Tryz.ntmps34
    go_upto_region 3 with fail
    clear c1
    -- from the count on: w1 is the world
    have hk1 : k + 1 ≤ 4000001 := by omega
    by_cases hin : s ∈ cur
    · obtain ⟨cc, h1, h2, h3⟩ := (X.out.cnt s HS.out.2).1 hin
      have hlk : (Instr.lookup 72 (.map (some mb)) (.string (bs s)) false).run Tryz.prog w1 = .ok (.int .i64 (cc : Int)) w1 := by
        have := X.out.map.at Tryz.underlying9 Tryz.underlying72 (z := .int .i64 0) (by kernel_rfl) HS.out.2
        rw [h3] at this
        exact this
      have cw : IntKind.i64.wrap ((cc : Int) + 1) = (cc : Int) + 1 := IntWalk.i64_in _ (by omega)
      obtain ⟨w2, hup, hM2, hg2⟩ := X.out.map.store Tryz.underlying9 Tryz.underlying72 (by unfold maxLen; omega) HS.out.2 (.int .i64 ((cc : Int) + 1))
      have T2 := Turn.of_step (Step.of_grown hg2) g1 (t + 2) (by intro q hq; cases hq; exact X.out.mtag)
      have hlk2 : (Instr.lookup 72 (.map (some mb)) (.string (bs s)) false).run Tryz.prog w2 = .ok (.int .i64 ((cc : Int) + 1)) w2 := by
        have := hM2.at Tryz.underlying9 Tryz.underlying72 (z := .int .i64 0) (by kernel_rfl) HS.out.2
        rw [if_pos rfl] at this
        exact this
      have R2 := X.out.row.turn T2 (by simp)
      have c1 := cell_of_row w1 nb 1 _ _ _ X.out.row.1
      have c1' := cell_of_row w2 nb 1 _ _ _ R2.1
      simp at c1 c1'
      have cp : (1 : Int) < (cc : Int) + 1 := by omega
      have HF := Lib.hid (And.intro (TT.out.trans T2 (V := [t, t + 1, t + 2]) (fun _ h => h) (by simp)) (show NamAt w2 (g1.ext w1.heap.size (t + 2)) t nb cur (k + 1) from
        ⟨by have := HA.out.1; omega, HA.out.2, .inr ⟨mb, a, c, _, R2, X.out.list.turn T2 (by simp), by rw [Tags.ext_old _ _ _ _ X.out.map.lt]; exact X.out.mtag, hM2, X.out.cnt.more hin h2⟩⟩))
      have HO := Lib.hid (addN_old hin)
      clear hin h1 h2 h3 hM2 hg2 T2 R2
      go_wp2_with fail
      have hq := HQ.out w2 _ HF.out.1 (by rw [HO.out.1]; exact HF.out.2)
      rw [HO.out.2] at hq
      exact hq
    · have h3 := (X.out.cnt s HS.out.2).2 hin
      have hlk : (Instr.lookup 72 (.map (some mb)) (.string (bs s)) false).run Tryz.prog w1 = .ok (.int .i64 0) w1 := by
        have := X.out.map.at Tryz.underlying9 Tryz.underlying72 (z := .int .i64 0) (by kernel_rfl) HS.out.2
        rw [h3] at this
        exact this
      obtain ⟨w2, hup, hM2, hg2⟩ := X.out.map.store Tryz.underlying9 Tryz.underlying72 (by unfold maxLen; omega) HS.out.2 (.int .i64 1)
      have T2 := Turn.of_step (Step.of_grown hg2) g1 (t + 2) (by intro q hq; cases hq; exact X.out.mtag)
      have hlk2 : (Instr.lookup 72 (.map (some mb)) (.string (bs s)) false).run Tryz.prog w2 = .ok (.int .i64 1) w2 := by
        have := hM2.at Tryz.underlying9 Tryz.underlying72 (z := .int .i64 0) (by kernel_rfl) HS.out.2
        rw [if_pos rfl] at this
        exact this
      have R2 := X.out.row.turn T2 (by simp)
      have c1 := cell_of_row w1 nb 1 _ _ _ X.out.row.1
      have c1' := cell_of_row w2 nb 1 _ _ _ R2.1
      have c0' := cell_of_row w2 nb 0 _ _ _ R2.1
      simp at c1 c1' c0'
      have mt : (g1.ext w1.heap.size (t + 2)) mb = t + 2 := by rw [Tags.ext_old _ _ _ _ X.out.map.lt]; exact X.out.mtag
      obtain ⟨g2, hg⟩ : ∃ g2, g2 = g1.ext w1.heap.size (t + 2) := ⟨_, rfl⟩
      rw [← hg] at T2 R2 mt
      have L2 := X.out.list.turn T2 (by simp)
      have HF := Lib.hid (And.intro (TT.out.trans T2 (V := [t, t + 1, t + 2]) (fun _ h => h) (by simp)) (And.intro R2 (And.intro L2 (And.intro mt (And.intro hM2 (X.out.cnt.new hin))))))
      have HO := Lib.hid (addN_new hin)
      clear hin h3 hM2 hg2 T2 R2 L2 mt hg
      go_wp2_with (refine wpList_append_t _ rfl (.tmp 32) (.tmp 34) rfl strElN (g := g2.ext w2.heap.size (t + 3)) (tg := t + 1) (v := .slice a cur.length c) (n := cur.length) (xs := strCells cur) rfl (HF.out.2.2.1.turn (Turn.alloc w2 g2 (t + 3) (.cells #[.string (bs s)] 9)) (by simp)) (y := .slice (some ⟨w2.heap.size, 0, none⟩) 1 1) rfl (Src.lit (n := 1) #[.string (bs s)] 9 rfl rfl) (by simp [Value.oneCell']) (by unfold maxLen; omega) (by omega) ?_; intro ao cap w4 g4 L4 T4; have T24 := (Turn.alloc w2 g2 (t + 3) (.cells #[.string (bs s)] 9)).trans T4 (V := [t + 1]) (by simp) (by simp); have R4 := HF.out.2.1.turn T24 (by simp); have d0 := cell_of_row w4 nb 0 _ _ _ R4.1; have e0 := frozen_of_row w4 nb 0 _ _ R4.1; simp at d0; have X4 := Lib.hid (And.intro L4 (And.intro T24 R4)); clear L4 T4 T24 R4)
      have p := Put.one X4.out.2.2.1 0 (.slice ao (cur.length + 1) cap)
      have T5 := Turn.setCell w4 g4 ⟨nb, 0, none⟩ (.slice ao (cur.length + 1) cap) p.size p.os p.tape p.output
      rw [show g4 nb = t from X4.out.2.2.2] at T5
      have mt4 : g4 mb = t + 2 := (X4.out.2.1.old mb HF.out.2.2.2.2.1.lt).trans HF.out.2.2.2.1
      have hq := HQ.out (w4.setCell ⟨nb, 0, none⟩ (.slice ao (cur.length + 1) cap)) g4 ((HF.out.1.trans X4.out.2.1 (V := [t, t + 1, t + 2]) (fun _ h => h) (by simp)).trans T5 (fun _ h => h) (by simp)) (by
        rw [HO.out.1]
        refine ⟨by have := HA.out.1; simp; omega, fun j hj => ?_, .inr ⟨mb, ao, cap, _, ⟨by simpa using p.row, X4.out.2.2.2⟩, ?_, mt4, ?_, HF.out.2.2.2.2.2⟩⟩
        · rcases List.mem_append.1 hj with hj | hj
          · exact HA.out.2 j hj
          · simp only [List.mem_cons, List.not_mem_nil, or_false] at hj; subst hj; exact HS.out.1
        · have h4 := X4.out.1.turn T5 (by simp)
          simpa [strCells] using h4
        · have hlt4 := Nat.lt_of_lt_of_le HF.out.2.2.2.2.1.lt X4.out.2.1.size
          exact (HF.out.2.2.2.2.1.frame (X4.out.2.1.block mb HF.out.2.2.2.2.1.lt (by rw [HF.out.2.2.2.1]; simp))).frame (T5.block mb hlt4 (by rw [mt4]; simp)))
      rw [HO.out.2] at hq
      exact hq
end Go.Proofs.YtmkhfonafcikdaaGreatDoor
