/- Links: an end in memory, each message that came too early by an owner of its own; New, there, Waits, Send. -/
import Derived.Test.YtoedalocfepkoaaGreatDoorLpLists
import Derived.Test.YtoedalocfepkoaaGreatDoorMapIs
namespace Go.Proofs.YtoedalocfepkoaaGreatDoor
open Go.RowKit Go.My

theorem Turn.store (w : World) (g : Tags) (a : Addr) (u : Value) {t : Nat} (h : g a.block = t) : Turn w g (w.setCell a u) g [t] := by
  subst h
  exact Turn.setCell w g a u (by simp) rfl rfl rfl

/-- What is laid by at a key. -/
def Early (w : World) (g : Tags) (t : Nat) : Option Value → Option (List UInt8) → Prop
  | none, none => True
  | some u, some b => Owns w g t 5 1 u b.length (b.map byteCell)
  | _, _ => False

theorem Early.turn {w w' : World} {g g' : Tags} {T : List Nat} {t : Nat} {a : Option Value} {b : Option (List UInt8)} (h : Early w g t a b) (k : Turn w g w' g' T) (ht : t ∉ T) : Early w' g' t a b := by
  cases a <;> cases b
  · trivial
  · exact h
  · exact h
  · exact Owns.turn h k ht

/-- An end, in memory of owners t (itself), t + 1 (what waits), t + 2 (the map), t + 3 (the bytes). -/
structure EndAt (w : World) (g : Tags) (t eb : Nat) (s : Li.St) (q : Nat) (wv : Value) (mb : Nat) (f : Int → Option Value) : Prop where
  cells : w.heap[eb]? = some (.cells #[wv, .int .u32 (s.first : Int), .int .u32 (s.awaited : Int), .map (some mb), .bool s.came] 61 (0, 0))
  tag : g eb = t
  waits : Lists w g (t + 1) (fun _ => t + 3) wv s.waits
  map : MapIs Tryz.prog 59 .u32 w mb q f
  mtag : g mb = t + 2
  early : ∀ n : Nat, n < Li.M → Early w g (t + 4 + n) (f n) (s.early n)
  win : Li.Win 16 s
  few : s.waits.length ≤ 16
  small : (∀ b ∈ s.waits, b.length ≤ 65536) ∧ ∀ n b, s.early n = some b → b.length ≤ 65536

def EndIs (w : World) (g : Tags) (t eb : Nat) (s : Li.St) (q : Nat) : Prop := ∃ wv mb f, EndAt w g t eb s q wv mb f

theorem EndAt.lt {w : World} {g : Tags} {t eb : Nat} {s : Li.St} {q : Nat} {wv : Value} {mb : Nat} {f : Int → Option Value} (h : EndAt w g t eb s q wv mb f) : eb < w.heap.size := (Array.getElem?_eq_some_iff.1 h.cells).1

theorem EndAt.turn {w w' : World} {g g' : Tags} {T : List Nat} {t eb : Nat} {s : Li.St} {q : Nat} {wv : Value} {mb : Nat} {f : Int → Option Value} (h : EndAt w g t eb s q wv mb f) (k : Turn w g w' g' T)
    (h0 : t ∉ T) (h1 : t + 1 ∉ T) (h2 : t + 2 ∉ T) (h3 : t + 3 ∉ T) (h4 : ∀ n, n < Li.M → t + 4 + n ∉ T) : EndAt w' g' t eb s q wv mb f :=
  ⟨(k.block eb h.lt (by rw [h.tag]; exact h0)).trans h.cells, (k.old eb h.lt).trans h.tag, h.waits.turn k h1 (fun _ => h3), h.map.frame (k.block mb h.map.lt (by rw [h.mtag]; exact h2)), (k.old mb h.map.lt).trans h.mtag,
    fun n hn => (h.early n hn).turn k (h4 n hn), h.win, h.few, h.small⟩

theorem EndIs.turn {w w' : World} {g g' : Tags} {T : List Nat} {t eb : Nat} {s : Li.St} {q : Nat} (h : EndIs w g t eb s q) (k : Turn w g w' g' T)
    (hT : ∀ x ∈ T, x < t) : EndIs w' g' t eb s q := by
  obtain ⟨wv, mb, f, h⟩ := h
  exact ⟨wv, mb, f, h.turn k (fun hm => by have := hT _ hm; omega) (fun hm => by have := hT _ hm; omega) (fun hm => by have := hT _ hm; omega) (fun hm => by have := hT _ hm; omega) (fun n _ hm => by have := hT _ hm; omega)⟩

theorem EndAt.cell {w : World} {g : Tags} {t eb : Nat} {s : Li.St} {q : Nat} {wv : Value} {mb : Nat} {f : Int → Option Value} (h : EndAt w g t eb s q wv mb f) :
    w.cell? ⟨eb, 0, none⟩ = some wv ∧ w.cell? ⟨eb, 1, none⟩ = some (.int .u32 (s.first : Int)) ∧ w.cell? ⟨eb, 2, none⟩ = some (.int .u32 (s.awaited : Int)) ∧ w.cell? ⟨eb, 3, none⟩ = some (.map (some mb)) ∧ w.cell? ⟨eb, 4, none⟩ = some (.bool s.came) ∧ ∀ i, w.frozen? ⟨eb, i, none⟩ = false := by
  refine ⟨?_, ?_, ?_, ?_, ?_, fun i => frozen_of_row w eb i _ _ h.cells⟩ <;> rw [cell_of_row w eb _ _ _ _ h.cells] <;> rfl

theorem neqMap (wx : World) (r : Option Nat) : (binOp .neq 58 (.map r) (.map none)).run Tryz.prog wx = .ok (.bool (!r.isNone)) wx := run_neq_map_nil wx _ _ _ r Tryz.underlying58

theorem there_t {w : World} {eb mb : Nat} (hc : w.cell? ⟨eb, 3, none⟩ = some (.map (some mb))) {Q : Ending → World → Prop} (h : Q (.returned (.bool true)) w) : Calls Tryz.prog 21 #[.pointer (some ⟨eb, 0, none⟩)] w Q := by
  have hm := fun wx => neqMap wx (some mb)
  have H := Lib.hid h
  clear h
  go_enter Tryz.func21, Tryz.ntmps21
  go_wp2
  exact H.out

theorem waits_t {w : World} {g : Tags} {t eb : Nat} {s : Li.St} {q : Nat} (hE : EndIs w g t eb s q) {Q : Ending → World → Prop} (h : Q (.returned (.int .i64 (s.waits.length : Int))) w) : Calls Tryz.prog 16 #[.pointer (some ⟨eb, 0, none⟩)] w Q := by
  obtain ⟨wv, mb, f, hE⟩ := hE
  obtain ⟨k0, _, _, _, _, _⟩ := hE.cell
  obtain ⟨ao, cap, rfl⟩ := hE.waits.form
  have H := Lib.hid h
  clear h hE
  go_enter Tryz.func16, Tryz.ntmps16
  go_wp2
  exact H.out

theorem new_end (w : World) (g : Tags) (t : Nat) : EndIs ((w.alloc (.map #[] 0)).alloc (.cells #[.slice none 0 0, .int .u32 0, .int .u32 0, .map (some w.heap.size), .bool false] 61)) ((g.ext w.heap.size (t + 2)).ext (w.heap.size + 1) t) t (w.heap.size + 1) Li.fresh 0 := by
  have e : (w.alloc (.map #[] 0)).heap.size = w.heap.size + 1 := by simp
  refine ⟨.slice none 0 0, w.heap.size, fun _ => none, ⟨?_, Tags.ext_new _ _ _ _ (Nat.le_refl _), Lists.nil _ _ _ _, ?_, ?_, fun n _ => trivial, Li.win_fresh 16, Nat.zero_le _, (fun b h => by cases h), (fun n b h => by cases h)⟩⟩
  · rw [← e]; exact _root_.Go.heap_alloc_new _ _
  · exact (MapIs.made w Tryz.prog 59 .u32).frame (Below.heap_alloc _ _ _ (by simp))
  · rw [Tags.ext_old _ _ _ _ (by omega), Tags.ext_new _ _ _ _ (Nat.le_refl _)]

theorem new_t (w : World) (g : Tags) (t : Nat) {Q : Ending → World → Prop}
    (h : ∀ eb w' g', Turn w g w' g' [] → EndIs w' g' t eb Li.fresh 0 → Q (.returned (.pointer (some ⟨eb, 0, none⟩))) w') : Calls Tryz.prog 5 #[] w Q := by
  have H := Lib.hid h
  clear h
  have hmm := @run_makeMap Tryz.prog
  go_enter Tryz.func5, Tryz.ntmps5
  go_wp2
  refine H.out _ _ _ ?_ (new_end w g t)
  have T2 := Turn.alloc (w.alloc (.map #[] 0)) (g.ext w.heap.size (t + 2)) t (.cells #[.slice none 0 0, .int .u32 0, .int .u32 0, .map (some w.heap.size), .bool false] 61)
  rw [show (w.alloc (.map #[] 0)).heap.size = w.heap.size + 1 by simp] at T2
  exact (Turn.alloc w g (t + 2) _).trans T2 (by simp) (by simp)

theorem send_limit {w : World} {g : Tags} {t eb : Nat} {s : Li.St} {q : Nat} (hE : EndIs w g t eb s q) {tv : Nat} {v : Value} {b : List UInt8} (hv : Bytes w g tv v b) (hb : 65536 < b.length) {Q : Ending → World → Prop} (h : Q (.returned (.int .i64 3)) w) :
    Calls Tryz.prog 8 #[.pointer (some ⟨eb, 0, none⟩), v] w Q := by
  obtain ⟨wv, mb, f, hE⟩ := hE
  obtain ⟨k0, _, _, k3, _, _⟩ := hE.cell
  obtain ⟨ao, cap, rfl, _, hm, _⟩ := BytesIn.open_ hv
  have h1 : (65536 : Int) < (b.length : Int) := by omega
  have h2 : (b.length : Int) ≤ 9223372036854775807 := by unfold maxLen at hm; omega
  have H := Lib.hid h
  clear h hE hv hm hb
  go_enter Tryz.func8, Tryz.ntmps8
  go_wp2_with fail
  refine there_t k3 ?_
  go_wp2_with fail
  exact H.out

theorem send_full {w : World} {g : Tags} {t eb : Nat} {s : Li.St} {q : Nat} (hE : EndIs w g t eb s q) {tv : Nat} {v : Value} {b : List UInt8} (hv : Bytes w g tv v b) (hb : b.length ≤ 65536) (hf : s.waits.length = 16) {Q : Ending → World → Prop} (h : Q (.returned (.int .i64 11)) w) :
    Calls Tryz.prog 8 #[.pointer (some ⟨eb, 0, none⟩), v] w Q := by
  obtain ⟨wv, mb, f, hE⟩ := hE
  obtain ⟨k0, _, _, k3, _, _⟩ := hE.cell
  obtain ⟨wa, wc, rfl⟩ := hE.waits.form
  obtain ⟨ao, cap, rfl, _, _, _⟩ := BytesIn.open_ hv
  rw [hf] at k0
  have h1 : (b.length : Int) ≤ 65536 := by omega
  have H := Lib.hid h
  clear h hE hv hb hf
  go_enter Tryz.func8, Tryz.ntmps8
  go_wp2_with fail
  refine there_t k3 ?_
  go_wp2_with fail
  exact H.out

/-- What waits is one more. -/
def sent (s : Li.St) (b : List UInt8) : Li.St := { s with waits := s.waits ++ [b] }

/-- After Clone and append, before the store. -/
structure SendAt (w : World) (g : Tags) (t eb : Nat) (s : Li.St) (q : Nat) (b : List UInt8) (mb : Nat) (f : Int → Option Value) (wv : Value) (w2 : World) (g2 : Tags) (v2 : Value) : Prop where
  cell : w2.cell? ⟨eb, 0, none⟩ = some wv
  froz : w2.frozen? ⟨eb, 0, none⟩ = false
  done : Turn w g (w2.setCell ⟨eb, 0, none⟩ v2) g2 [t, t + 1, t + 2] ∧ EndIs (w2.setCell ⟨eb, 0, none⟩ v2) g2 t eb (sent s b) q

theorem send_at {w w1 w2 : World} {g g1 g2 : Tags} {t eb : Nat} {s : Li.St} {q : Nat} {wv : Value} {mb : Nat} {f : Int → Option Value} {o : Obj} {b : List UInt8} {v2 : Value} (hE : EndAt w g t eb s q wv mb f) (hT : Turn w g w1 g1 [])
    (hL : Lists w2 g2 (t + 1) (fun _ => t + 3) v2 (s.waits ++ [b])) (hT2 : Turn (w1.alloc o) (g1.ext w1.heap.size 1000) w2 g2 [t + 1]) (hb : b.length ≤ 65536) (hf : s.waits.length < 16) : SendAt w g t eb s q b mb f wv w2 g2 v2 := by
  have T1 : Turn w g w2 g2 [t + 1] := (hT.trans (Turn.alloc w1 g1 1000 o) (V := []) (by simp) (by simp)).trans hT2 (by simp) (by simp)
  have hcell : w2.heap[eb]? = w.heap[eb]? := T1.block eb hE.lt (by rw [hE.tag]; simp)
  have hc2 := hcell.trans hE.cells
  have htag : g2 eb = t := (T1.old eb hE.lt).trans hE.tag
  have T3 := Turn.store w2 g2 ⟨eb, 0, none⟩ v2 (t := t) htag
  have hh := _root_.Go.heap_setCell_same w2 eb 0 _ _ v2 hc2
  refine ⟨by rw [cell_of_row w2 eb _ _ _ _ hc2]; rfl, frozen_of_row w2 eb 0 _ _ hc2, T1.trans T3 (by simp) (by simp), ?_⟩
  have T4 : Turn w g (w2.setCell ⟨eb, 0, none⟩ v2) g2 [t, t + 1] := T1.trans T3 (by simp) (by simp)
  refine ⟨v2, mb, f, ⟨hh, htag, hL.turn T3 (by simp) (by simp), hE.map.frame (T4.block mb hE.map.lt (by rw [hE.mtag]; simp)), (T4.old mb hE.map.lt).trans hE.mtag, fun n hn => (hE.early n hn).turn T4 (by simp <;> omega), hE.win, ?_, ?_, hE.small.2⟩⟩
  · show (s.waits ++ [b]).length ≤ 16
    rw [List.length_append]; simp; omega
  · intro x hx
    rcases List.mem_append.1 hx with hx | hx
    · exact hE.small.1 x hx
    · rw [List.mem_singleton.1 hx]; exact hb

set_option maxHeartbeats 2000000 in
theorem send_ok {w : World} {g : Tags} {t eb : Nat} {s : Li.St} {q : Nat} (hE : EndIs w g t eb s q) {tv : Nat} {v : Value} {b : List UInt8} (hv : Bytes w g tv v b) (hb : b.length ≤ 65536) (hf : s.waits.length < 16) (htv : tv < t) {Q : Ending → World → Prop}
    (h : ∀ w' g', Turn w g w' g' [t, t + 1, t + 2] → EndIs w' g' t eb (sent s b) q → Q (.returned (.int .i64 0)) w') :
    Calls Tryz.prog 8 #[.pointer (some ⟨eb, 0, none⟩), v] w Q := by
  obtain ⟨wv, mb, f, hE⟩ := hE
  obtain ⟨k0, _, _, k3, _, k5⟩ := hE.cell
  have k5 := k5 0
  obtain ⟨wa, wc, rfl⟩ := hE.waits.form
  obtain ⟨ao, cap, rfl, _, _, _⟩ := BytesIn.open_ hv
  have h1 : (b.length : Int) ≤ 65536 := by omega
  have h2 : (s.waits.length : Int) ≤ 15 := by omega
  have H := Lib.hid h
  have HE := Lib.hid hE
  have HV := Lib.hid hv
  clear h hE hv
  go_enter Tryz.func8, Tryz.ntmps8
  go_wp2_with fail
  refine there_t k3 ?_
  go_wp2_with fail
  go_region_law (first
    | (go_simp; go_at_call 22; refine clone_f (t + 3) (HV.out.turn (Turn.drew w g) (by simp)) (by omega) ?_; intro a1 c1 w1 g1 T1 O1; have X1 := Lib.hid (And.intro O1 (((Turn.drew w g).trans T1 (V := []) (by simp) (by simp)))); clear O1 T1; have e0 := (HE.out.turn X1.out.2 (by simp) (by simp) (by simp) (by simp) (fun n _ => by simp <;> omega)).cell.1; have e0' := fun o => ((HE.out.turn X1.out.2 (by simp) (by simp) (by simp) (by simp) (fun n _ => by simp <;> omega)).turn (Turn.alloc w1 g1 1000 o) (by simp) (by simp) (by simp) (by simp) (fun n _ => by simp <;> omega)).cell.1)
    | (refine step_lists_one rfl (.tmp 24) (.tmp 27) rfl (g := g1.ext w1.heap.size 1000) (t := t + 1) (t' := fun _ => t + 3) rfl ((HE.out.waits.turn X1.out.2 (by simp) (by simp)).turn (Turn.alloc w1 g1 1000 _) (by simp) (by simp)) rfl rfl (X1.out.1.turn (Turn.alloc w1 g1 1000 _) (by simp)) (by simp) (by omega) ?_; intro a2 c2 w2 g2 L2 T2; have X2 := Lib.hid (send_at HE.out X1.out.2 L2 T2 hb hf); clear L2 T2; obtain e1 := X2.out.cell; obtain e2 := X2.out.froz))
  all_goals (go_wp2_with fail; exact H.out _ _ X2.out.done.1 X2.out.done.2)
end Go.Proofs.YtoedalocfepkoaaGreatDoor
