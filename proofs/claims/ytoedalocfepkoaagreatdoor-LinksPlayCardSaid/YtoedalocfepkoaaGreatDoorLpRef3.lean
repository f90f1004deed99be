/- Links: the document's end: Came. -/
import Derived.Test.YtoedalocfepkoaaGreatDoorLpRef2
namespace Go.Proofs.YtoedalocfepkoaaGreatDoor
open Go.RowKit Go.My

theorem kes_length (ks : List Kp) : (kes ks).length = ks.length := List.length_map ..
theorem kes_get (ks : List Kp) (i : Nat) (h : i < ks.length) : (kes ks)[i]'(by rw [kes_length]; exact h) = ((ks[i]).1, (ks[i]).2.1) := List.getElem_map ..
theorem kes_cut (ks : List Kp) (k : Nat) : kes (ks.take k ++ ks.drop (k + 1)) = (kes ks).take k ++ (kes ks).drop (k + 1) := by simp [kes]

/-- The head of a round of the drain. -/
def RDrainAt (w : World) (g : Tags) (mb : Nat) (s0 : Li.St) (q : Nat) (gk : Nat) (vl : Value) (wr : World) : Prop :=
  ∃ s done wv ev te ks gr ao cap, Li.Win gk s ∧ Li.drain 16 s0 = (done ++ (Li.drain gk s).1, (Li.drain gk s).2) ∧ vl = .slice ao done.length cap ∧ Lists wr gr 747 (fun _ => 743) (.slice ao done.length cap) done ∧ RefAt wr gr mb s q wv ev te ks ∧ Turn w g wr gr [740, 742, 745, 747] ∧ done.length + gk ≤ 16

theorem place_none {w : World} {g : Tags} {mb : Nat} {s : Li.St} {q : Nat} {wv ev : Value} {te : Nat} {ks : List Kp} (hR : RefAt w g mb s q wv ev te ks) (n : Nat) (h : ∀ j (hj : j < ks.length), (ks[j]).1 ≠ n) : s.early n = none := by
  rw [hR.rel.find]
  refine Li.find_none fun i hi => ?_
  have hi' : i < ks.length := by rw [← kes_length]; exact hi
  rw [kes_get ks i hi']
  exact h i hi'
theorem place_some {w : World} {g : Tags} {mb : Nat} {s : Li.St} {q : Nat} {wv ev : Value} {te : Nat} {ks : List Kp} (hR : RefAt w g mb s q wv ev te ks) {k : Nat} (hk : k < ks.length) : s.early (ks[k]).1 = some (ks[k]).2.1 ∧ Li.Rel (kes (ks.take k ++ ks.drop (k + 1))) (Li.without s.early (ks[k]).1) := by
  have h := hR.rel.erase (k := k) (by rw [kes_length]; exact hk)
  rw [kes_get ks k hk] at h
  rw [kes_cut]
  exact h

/-- One taken out. -/
theorem rnext_at {w w3 : World} {g g3 : Tags} {mb : Nat} {s : Li.St} {q : Nat} {wv ev v3 : Value} {te te2 : Nat} {ks : List Kp} (hR : RefAt w g mb s q wv ev te ks) {k j : Nat} (hk : k < ks.length) (hkey : (ks[k]).1 = s.awaited) (hwin : Li.Win (j + 1) s) (hj : j < 16)
    (hT : Turn w g w3 g3 [te2, 747]) (hte : te2 = 742 ∨ te2 = 745) {n : Nat} (hn : n = k + (ks.length - (k + 1))) (hO : Owns w3 g3 te2 74 2 v3 n (kcells (ks.take k) ++ kcells (ks.drop (k + 1)))) {aw : Int} (haw : aw = ((s.awaited + 1) % Li.M : Nat)) :
    Turn w g ((w3.setCell ⟨mb, 3, none⟩ v3).setCell ⟨mb, 2, none⟩ (.int .u32 aw)) g3 [740, 742, 745, 747] ∧
    RefAt ((w3.setCell ⟨mb, 3, none⟩ v3).setCell ⟨mb, 2, none⟩ (.int .u32 aw)) g3 mb { s with early := Li.without s.early s.awaited, awaited := (s.awaited + 1) % Li.M } q wv v3 te2 (ks.take k ++ ks.drop (k + 1)) ∧
    Turn w3 g3 ((w3.setCell ⟨mb, 3, none⟩ v3).setCell ⟨mb, 2, none⟩ (.int .u32 aw)) g3 [740] := by
  subst haw
  have n1 : ∀ t, t ≠ 742 → t ≠ 745 → t ≠ 747 → t ∉ [te2, 747] := fun t h1 h2 h3 h => by
    simp at h
    rcases h with h | h
    · rcases hte with e | e <;> omega
    · exact h3 h
  have B3 := hR.box.turn hT (n1 _ (by decide) (by decide) (by decide))
  obtain ⟨T4, B4⟩ := B3.store 3 v3
  obtain ⟨T5, B5⟩ := B4.store 2 (.int .u32 (((s.awaited + 1) % Li.M : Nat) : Int))
  have T45 := T4.trans T5 (V := [740]) (by simp) (by simp)
  have T := hT.trans T45 (V := [740, te2, 747]) (by simp) (by simp)
  have n2 : ∀ t, t ≠ 740 → t ≠ 742 → t ≠ 745 → t ≠ 747 → t ∉ [740, te2, 747] := fun t h0 h1 h2 h3 h => by
    rcases List.mem_cons.1 h with h | h
    · exact h0 h
    · exact n1 t h1 h2 h3 h
  have hp := place_some hR hk
  rw [hkey] at hp
  have hlen : n = (ks.take k ++ ks.drop (k + 1)).length := by rw [hn]; simp; omega
  refine ⟨T.mono (fun t ht => by simp at ht ⊢; rcases ht with h | h | h <;> rcases hte with e | e <;> omega), ⟨B5, hR.waits.turn T (n2 _ (by decide) (by decide) (by decide) (by decide)) (fun _ => n2 _ (by decide) (by decide) (by decide) (by decide)), hte, ?_, fun x hx => (hR.bytes x ?_).turn T (n2 _ (by decide) (by decide) (by decide) (by decide)), hp.2, Li.win_mono (Li.win_next hwin) (by omega), hR.few, ⟨hR.small.1, fun x hx => hR.small.2 x ?_⟩, ?_⟩, T45⟩
  · rw [kcells_append, ← hlen]
    exact hO.turn T45 (by rcases hte with e | e <;> rw [e] <;> decide)
  · rcases List.mem_append.1 hx with h | h
    · exact List.mem_of_mem_take h
    · exact List.mem_of_mem_drop h
  · rcases List.mem_append.1 hx with h | h
    · exact List.mem_of_mem_take h
    · exact List.mem_of_mem_drop h
  · have := hR.count; rw [← hlen, hn]; omega

theorem rdrain_next {w wr w3 : World} {g gr g3 : Tags} {mb : Nat} {s0 s : Li.St} {q k : Nat} {wv ev : Value} {te : Nat} {ks : List Kp} {done : List (List UInt8)} {a3 : Option Addr} {c3 : Nat} {b : List UInt8}
    (hwin : Li.Win (k + 1) s) (hd : Li.drain 16 s0 = (done ++ (Li.drain (k + 1) s).1, (Li.drain (k + 1) s).2)) (hb : s.early s.awaited = some b) (hlen : done.length + (k + 1) ≤ 16)
    (hL : Lists w3 g3 747 (fun _ => 743) (.slice a3 (done.length + 1) c3) (done ++ [b])) (hT : Turn w g wr gr [740, 742, 745, 747]) (hT2 : Turn wr gr w3 g3 [740, 742, 745, 747])
    (hR : RefAt w3 g3 mb { s with early := Li.without s.early s.awaited, awaited := (s.awaited + 1) % Li.M } q wv ev te ks) : RDrainAt w g mb s0 q k (.slice a3 (done.length + 1) c3) w3 := by
  have e : Li.drain (k + 1) s = (b :: (Li.drain k { s with early := Li.without s.early s.awaited, awaited := (s.awaited + 1) % Li.M }).1, (Li.drain k { s with early := Li.without s.early s.awaited, awaited := (s.awaited + 1) % Li.M }).2) := by
    rw [Li.drain, hb]
  rw [e] at hd
  exact ⟨_, done ++ [b], wv, ev, te, ks, g3, a3, c3, Li.win_next hwin, by rw [hd]; simp, by simp, by simpa using hL, hR, hT.trans hT2 (by simp) (by simp), by simp; omega⟩

theorem rdrain_stop {wr : World} {gr : Tags} {mb : Nat} {s0 s : Li.St} {q gk : Nat} {wv ev : Value} {te : Nat} {ks : List Kp} {done : List (List UInt8)}
    (hd : Li.drain 16 s0 = (done ++ (Li.drain gk s).1, (Li.drain gk s).2)) (hn : s.early s.awaited = none) (hR : RefAt wr gr mb s q wv ev te ks) : (Li.drain 16 s0).1 = done ∧ RefIs wr gr mb (Li.drain 16 s0).2 q := by
  have e : Li.drain gk s = ([], s) := by cases gk <;> simp [Li.drain, hn]
  rw [e] at hd
  simp only [List.append_nil] at hd
  rw [hd]
  exact ⟨rfl, wv, ev, te, ks, hR⟩

/-- Marked: something came. -/
theorem rmark_at {w : World} {g : Tags} {mb : Nat} {s : Li.St} {q : Nat} {wv ev : Value} {te : Nat} {ks : List Kp} (hR : RefAt w g mb s q wv ev te ks) :
    Turn w g (w.setCell ⟨mb, 4, none⟩ (.bool true)) g [740] ∧ RefAt (w.setCell ⟨mb, 4, none⟩ (.bool true)) g mb { s with came := true } q wv ev te ks := by
  obtain ⟨T, B⟩ := hR.box.store 4 (.bool true)
  have ht : te ∉ [740] := by rcases hR.tag with e | e <;> rw [e] <;> decide
  exact ⟨T, B, hR.waits.turn T (by decide) (by simp), hR.tag, hR.early.turn T ht, fun k hk => (hR.bytes k hk).turn T (by decide), hR.rel, ⟨hR.win.1, hR.win.2.1, hR.win.2.2⟩, hR.few, hR.small, hR.count⟩

/-- Laid by. -/
structure RLaidAt (w : World) (g : Tags) (mb : Nat) (s : Li.St) (q n : Nat) (b : List UInt8) (wv ev : Value) (te : Nat) (ks : List Kp) (w2 : World) (g2 : Tags) (v2 u : Value) : Prop where
  cell : w2.cell? ⟨mb, 3, none⟩ = some ev
  froz : w2.frozen? ⟨mb, 3, none⟩ = false
  done : Turn w g (w2.setCell ⟨mb, 3, none⟩ v2) g2 [740, 742, 745] ∧ RefAt (w2.setCell ⟨mb, 3, none⟩ v2) g2 mb (Li.laid s n b) (q + 1) wv v2 te (ks ++ [(n, b, u)])

theorem rlaid_at {w w1 w2 : World} {g g1 g2 : Tags} {mb : Nat} {s : Li.St} {q : Nat} {wv ev : Value} {te : Nat} {ks : List Kp} {o : Obj} {n : Nat} {b : List UInt8} {v2 u : Value} (hR : RefAt w g mb { s with came := true } q wv ev te ks) (hw : Li.Win 16 s) (hn : n < Li.M) (he : s.early n = none ∧ Li.far n s.awaited < 16) (hT : Turn w g w1 g1 [])
    (hu : Owns w1 g1 743 5 1 u b.length (b.map byteCell)) (hO : Owns w2 g2 te 74 2 v2 (ks.length + 1) (kcells ks ++ [.int .u32 (n : Int), u])) (hT2 : Turn (w1.alloc o) (g1.ext w1.heap.size 1000) w2 g2 [te]) (hb : b.length ≤ 65536) : RLaidAt w g mb s q n b wv ev te ks w2 g2 v2 u := by
  have Ta := (Turn.alloc w1 g1 1000 o).trans hT2 (V := [te]) (by simp) (by simp)
  have T1 : Turn w g w2 g2 [te] := hT.trans Ta (by simp) (by simp)
  have nt : ∀ t, t ≠ 742 → t ≠ 745 → t ∉ [te] := fun t h1 h2 h => by simp at h; rcases hR.tag with e | e <;> omega
  have B2 := hR.box.turn T1 (nt _ (by decide) (by decide))
  obtain ⟨T3, B3⟩ := B2.store 3 v2
  have c := B2.cell 3
  have T := T1.trans T3 (V := [740, te]) (by simp) (by simp)
  have nt2 : ∀ t, t ≠ 740 → t ≠ 742 → t ≠ 745 → t ∉ [740, te] := fun t h0 h1 h2 h => by
    rcases List.mem_cons.1 h with h | h
    · exact h0 h
    · exact nt t h1 h2 h
  have hl : Li.laid s n b = { s with came := true, early := Li.withAt s.early n b } := by unfold Li.laid; rw [if_pos he]
  refine ⟨c.1, c.2, T.mono (fun t ht => by simp at ht ⊢; rcases ht with h | h <;> rcases hR.tag with e | e <;> omega), ?_⟩
  rw [hl]
  refine ⟨B3, hR.waits.turn T (nt2 _ (by decide) (by decide) (by decide)) (fun _ => nt2 _ (by decide) (by decide) (by decide)), hR.tag, ?_, fun x hx => ?_, ?_, ?_, hR.few, ⟨hR.small.1, fun x hx => ?_⟩, ?_⟩
  · rw [kcells_append, List.length_append]
    exact hO.turn T3 (by rcases hR.tag with e | e <;> rw [e] <;> decide)
  · rcases List.mem_append.1 hx with h | h
    · exact (hR.bytes x h).turn T (nt2 _ (by decide) (by decide) (by decide))
    · rw [List.mem_singleton.1 h]
      exact (hu.turn Ta (nt _ (by decide) (by decide))).turn T3 (by decide)
  · have hs : kes (ks ++ [(n, b, u)]) = kes ks ++ [(n, b)] := by simp [kes]
    rw [hs]
    exact hR.rel.snoc he.1 b
  · have := Li.win_laid hw n hn b
    rw [hl] at this; exact this
  · rcases List.mem_append.1 hx with h | h
    · exact hR.small.2 x h
    · rw [List.mem_singleton.1 h]; exact ⟨hb, hn⟩
  · rw [List.length_append]; have := hR.count; simp; omega

/-- What is known to have come. -/
theorem rknown_at {w : World} {g : Tags} {mb : Nat} {s : Li.St} {q : Nat} {wv ev : Value} {te : Nat} {ks : List Kp} (hR : RefAt w g mb s q wv ev te ks) {n : Nat} (hn : n < Li.M) (hf : Li.far n s.first ≤ s.waits.length) {v : Value} (hL : Lists w g 741 (fun _ => 743) v (s.waits.drop (Li.far n s.first))) :
    Turn w g ((w.setCell ⟨mb, 1, none⟩ v).setCell ⟨mb, 0, none⟩ (.int .u32 (n : Int))) g [740] ∧ RefIs ((w.setCell ⟨mb, 1, none⟩ v).setCell ⟨mb, 0, none⟩ (.int .u32 (n : Int))) g mb (Li.known s n) q := by
  obtain ⟨T1, B1⟩ := hR.box.store 1 v
  obtain ⟨T2, B2⟩ := B1.store 0 (.int .u32 (n : Int))
  have T := T1.trans T2 (V := [740]) (by simp) (by simp)
  have ht : te ∉ [740] := by rcases hR.tag with e | e <;> rw [e] <;> decide
  have e : Li.known s n = { s with waits := s.waits.drop (Li.far n s.first), first := n } := by unfold Li.known; rw [if_pos hf]
  rw [e]
  exact ⟨T, v, ev, te, ks, B2, hL.turn T (by decide) (by simp), hR.tag, hR.early.turn T ht, fun k hk => (hR.bytes k hk).turn T (by decide), hR.rel, ⟨hR.win.1, hn, hR.win.2.2⟩, (by show (s.waits.drop _).length ≤ 16; rw [List.length_drop]; have := hR.few; omega), ⟨fun b hb => hR.small.1 b (List.mem_of_mem_drop hb), hR.small.2⟩, hR.count⟩

/-- What Came says. -/
def RCameSaid (w : World) (g : Tags) (mb : Nat) (r : List (List UInt8) × Nat × Li.St) (q : Nat) (e : Ending) (w' : World) : Prop :=
  ∃ ao cap g', e = .returned (.tuple #[.slice ao r.1.length cap, .int .i64 (r.2.1 : Int)]) ∧ Lists w' g' 747 (fun _ => 743) (.slice ao r.1.length cap) r.1 ∧ RefIs w' g' mb r.2.2 q ∧ Turn w g w' g' [740, 742, 745, 747]

theorem rsaid_form {w : World} {g : Tags} {mb : Nat} {s : Li.St} {q : Nat} {b : List UInt8} (h : RefIs w g mb s q) (hc : Li.came s b = ([], 4, s)) : RCameSaid w g mb (Li.came s b) (q + 1) (.returned (.tuple #[.slice none 0 0, .int .i64 4])) w := by
  rw [hc]
  exact ⟨none, 0, g, rfl, Lists.nil _ _ _ _, h.mono (Nat.le_succ q), Turn.refl _ _ _⟩

set_option maxRecDepth 100000 in
set_option maxHeartbeats 2000000 in
theorem rcame_bad {w : World} {g : Tags} {mb : Nat} {s : Li.St} {q : Nat} (hR : RefIs w g mb s q) {tv : Nat} {v : Value} {b : List UInt8} (hv : Bytes w g tv v b)
    (hb : (b.length < 5 ∨ 65541 < b.length) ∨ (b[0]?.getD 0 ≠ 68 ∧ ¬ (b[0]?.getD 0 = 65 ∧ b.length = 5))) :
    Calls Tryz.prog 15 #[.pointer (some ⟨mb, 0, none⟩), v] w (RCameSaid w g mb (Li.came s b) (q + 1)) := by
  have HC := Lib.hid (rsaid_form (b := b) hR (by
    rcases hb with hb | hb
    · unfold Li.came; rw [if_pos hb]
    · by_cases h : b.length < 5 ∨ 65541 < b.length
      · unfold Li.came; rw [if_pos h]
      · exact came_other h hb.1 hb.2))
  obtain ⟨ao, cap, rfl, hcap, hm, _⟩ := BytesIn.open_ hv
  have h2 : (b.length : Int) ≤ 9223372036854775807 := by unfold maxLen at hm; omega
  by_cases h5 : b.length < 5
  · have h1 : (b.length : Int) < 5 := by omega
    clear hR hv hm hb h5
    go_enter Tryz.func15, Tryz.ntmps15
    go_wp2_with fail
    go_ret2
    exact HC.out
  · have h1 : (5 : Int) ≤ (b.length : Int) := by omega
    obtain ⟨bb, off, rfl, _, hc⟩ := BytesIn.cells (h := hv) (by omega)
    have c0 := hc 0 (by omega)
    rw [Nat.add_zero] at c0
    have hb0 : b[0]?.getD 0 = b[0] := by rw [List.getElem?_eq_getElem (by omega)]; rfl
    have hsub : IntKind.i64.wrap ((b.length : Int) - 5) = (b.length : Int) - 5 := IntWalk.i64_in _ (by omega)
    rw [hb0] at hb
    have hx0 := (b[0]).toNat_lt
    have hx68 : b[0] = 68 ↔ (b[0]).toNat = 68 := ⟨fun h => by rw [h]; rfl, fun h => UInt8.toNat_inj.1 h⟩
    have hx65 : b[0] = 65 ↔ (b[0]).toNat = 65 := ⟨fun h => by rw [h]; rfl, fun h => UInt8.toNat_inj.1 h⟩
    rw [ne_eq, hx68, hx65] at hb
    clear hR hv hm hc hb0 hx68 hx65
    generalize (b[0]).toNat = x0 at *
    by_cases hA : x0 = 65
    · have hA1 : (x0 : Int) = 65 := by omega
      have hA2 : ((x0 : Int) != 68) = true := by subst hA; rfl
      have hA3 : ((x0 : Int) != 65) = false := by subst hA; rfl
      have hA4 : ((x0 : Int) == 65) = true := by subst hA; rfl
      subst hA
      have hl5 : 5 < (b.length : Int) := by omega
      have hl6 : ((b.length : Int) != 5) = true := by simp; omega
      clear hb h5
      go_enter Tryz.func15, Tryz.ntmps15
      go_wp2_with fail
      go_ret2
      exact HC.out
    · have hA3 : ((x0 : Int) != 65) = true := by simp; omega
      have hA4 : ((x0 : Int) == 65) = false := by simp; omega
      by_cases hD : x0 = 68
      · subst hD
        have hl5 : (65541 : Int) < (b.length : Int) := by omega
        have hl6 : (65536 : Int) < (b.length : Int) - 5 := by omega
        clear hb h5
        go_enter Tryz.func15, Tryz.ntmps15
        go_wp2_with fail
        go_ret2
        exact HC.out
      · have hD1 : ((x0 : Int) != 68) = true := by simp; omega
        clear hb h5
        go_enter Tryz.func15, Tryz.ntmps15
        go_wp2_with fail
        go_ret2
        exact HC.out
end Go.Proofs.YtoedalocfepkoaaGreatDoor
