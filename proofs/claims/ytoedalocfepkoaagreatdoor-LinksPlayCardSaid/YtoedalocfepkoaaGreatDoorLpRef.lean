/- Links: the document's end in memory; twin, Packet, New, Waits, at. -/
import Derived.Test.YtoedalocfepkoaaGreatDoorLpUse
import Derived.Test.YtoedalocfepkoaaGreatDoorLpPlain
import Derived.Test.YtoedalocfepkoaaGreatDoorBkMem
namespace Go.My
open Go.RowKit

/-- 'x[l:]' of elements of any size, as a fact for the walk. -/
theorem slice_ls {P : Program} {t e : TypeId} {sz : Nat} (ht : P.underlying t = some (.slice e)) (h1 : (P.info? e).map (·.size) = some sz) (b off n cap k : Nat) (l : Int) (hl : l = k) (hk : k ≤ n) :
    ∃ ad : Addr, (∀ wx, (Instr.slice t (.slice (some ⟨b, off, none⟩) n cap) (some (.int .i64 l)) none none).run P wx = .ok (.slice (some ad) (n - k) (cap - k)) wx) ∧ (k < cap → ad = ⟨b, off + k * sz, none⟩) := by
  subst hl
  have he : P.elem t = e := by simp [Program.elem, ht]
  obtain ⟨i, hi, hs⟩ : ∃ i, P.info? e = some i ∧ i.size = sz := by
    cases h : P.info? e with
    | none => rw [h] at h1; cases h1
    | some i => rw [h] at h1; exact ⟨i, rfl, by simpa using h1⟩
  refine ⟨if cap = k then ⟨b, off, none⟩ else ⟨b, off + k * sz, none⟩, fun wx => ?_, fun h => by rw [if_neg (by omega)]⟩
  rw [run_slice_l wx t _ _ _ (by rw [he]; exact ht) .i64 _ (by omega) (by omega), he]
  by_cases hc : cap = k <;> simp [sizeOf, typeInfo, hi, hs, sliced, hc, add_none]

/-- 'x[:h]' of elements of any size. -/
theorem slice_hs {P : Program} {t e : TypeId} {sz : Nat} (ht : P.underlying t = some (.slice e)) (h1 : (P.info? e).map (·.size) = some sz) (b off n cap j : Nat) (h : Int) (hh : h = j) (hn : j ≤ cap) :
    ∀ wx, (Instr.slice t (.slice (some ⟨b, off, none⟩) n cap) none (some (.int .i64 h)) none).run P wx = .ok (.slice (some ⟨b, off, none⟩) j cap) wx := by
  subst hh
  have he : P.elem t = e := by simp [Program.elem, ht]
  obtain ⟨i, hi, hs⟩ : ∃ i, P.info? e = some i ∧ i.size = sz := by
    cases h : P.info? e with
    | none => rw [h] at h1; cases h1
    | some i => rw [h] at h1; exact ⟨i, rfl, by simpa using h1⟩
  intro wx
  rw [run_slice_h wx t _ _ _ (by rw [he]; exact ht) .i64 _ (by omega) (by omega), he]
  simp [sizeOf, typeInfo, hi, sliced, add_none]

theorem owns_alloc (w : World) (g : Tags) (t : Nat) (e : TypeId) (o : Array Value) (n : Nat) (ho : o.size = n) (hn : n ≤ maxLen) : Owns (w.alloc (.cells o e)) (g.ext w.heap.size t) t e 1 (.slice (some ⟨w.heap.size, 0, none⟩) n n) n o.toList :=
  ⟨some w.heap.size, ⟨by simp [ho], .inr ⟨w.heap.size, 0, n, o, rfl, rfl, heap_alloc_new w _, Nat.le_refl _, hn, by simp [ho], by subst ho; simp; exact List.take_of_length_le (by simp)⟩⟩, fun b hb => by cases hb; exact Tags.ext_new _ _ _ _ (Nat.le_refl _)⟩

/-- Of what came too early: its number, its bytes, where they lie. -/
abbrev Kp := Nat × List UInt8 × Value
def kcells (ks : List Kp) : List Value := ks.flatMap fun k => [.int .u32 (k.1 : Int), k.2.2]
def kes (ks : List Kp) : Li.Es := ks.map fun k => (k.1, k.2.1)
theorem kcells_cons (k : Kp) (ks : List Kp) : kcells (k :: ks) = .int .u32 (k.1 : Int) :: k.2.2 :: kcells ks := rfl
theorem kcells_append (a b : List Kp) : kcells (a ++ b) = kcells a ++ kcells b := by simp [kcells]
theorem kcells_length (ks : List Kp) : (kcells ks).length = ks.length * 2 := by
  induction ks with
  | nil => rfl
  | cons k ks ih => rw [kcells_cons, List.length_cons, List.length_cons, ih, List.length_cons]; omega
theorem kcells_at (ks : List Kp) (i : Nat) (hi : i < ks.length) : (kcells ks)[i * 2]? = some (.int .u32 ((ks[i]).1 : Int)) ∧ (kcells ks)[i * 2 + 1]? = some (ks[i]).2.2 := by
  induction ks generalizing i with
  | nil => exact absurd hi (Nat.not_lt_zero _)
  | cons k ks ih =>
    rw [kcells_cons]
    cases i with
    | zero => exact ⟨rfl, rfl⟩
    | succ i =>
      have := ih i (by simpa using hi)
      rw [show (i + 1) * 2 = i * 2 + 2 by omega]
      exact this
theorem kcells_take (ks : List Kp) (k : Nat) : (kcells ks).take (k * 2) = kcells (ks.take k) := by
  induction ks generalizing k with
  | nil => simp [kcells]
  | cons x ks ih =>
    cases k with
    | zero => simp [kcells]
    | succ k => rw [show (k + 1) * 2 = k * 2 + 2 by omega, kcells_cons, List.take_succ_cons, List.take_succ_cons, ih, List.take_succ_cons, kcells_cons]
theorem kcells_drop (ks : List Kp) (k : Nat) : (kcells ks).drop (k * 2) = kcells (ks.drop k) := by
  induction ks generalizing k with
  | nil => simp [kcells]
  | cons x ks ih =>
    cases k with
    | zero => simp
    | succ k => rw [show (k + 1) * 2 = k * 2 + 2 by omega, kcells_cons, List.drop_succ_cons, List.drop_succ_cons, ih, List.drop_succ_cons]
end Go.My
namespace Go.Proofs.YtoedalocfepkoaaGreatDoor
open Go.RowKit Go.My

theorem keptElem : Elem Tryz.prog 62 74 2 32 (.agg #[.int .u32 0, .slice none 0 0]) := Elem.mk' Tryz.underlying62 (by kernel_rfl) rfl (by decide)

theorem rtwin_t {w : World} {g : Tags} {tv : Nat} (t : Nat) {v : Value} {l : List UInt8} (hv : Bytes w g tv v l) (hl : l.length ≤ 1000000000) {Q : Ending → World → Prop}
    (h : ∀ ao cap w' g', Turn w g w' g' [t] → Owns w' g' t 5 1 (.slice ao l.length cap) l.length (l.map byteCell) → Q (.returned (.slice ao l.length cap)) w') : Calls Tryz.prog 23 #[v] w Q := by
  obtain ⟨ao, cap, rfl⟩ := bytes_form hv
  have HS := Lib.hid hv.src
  have H := Lib.hid h
  clear h hv
  go_enter Tryz.func23, Tryz.ntmps23
  go_wp2_with (at_builtin; refine wpList_append_t _ rfl (.const (.slice none 0 0)) (.tmp 3) rfl bytesElem (g := g) (tg := t) rfl (Owns.nil _ _ _ _ _) rfl HS.out (byteCells_one _) (by unfold maxLen; omega) (by omega) ?_; intro a5 c5 w5 g5 O5 T5; rw [Nat.zero_add, List.nil_append] at O5; have X5 := Lib.hid (And.intro O5 T5); clear O5 T5)
  exact H.out a5 c5 w5 g5 X5.out.2 X5.out.1

theorem rtwin_f {w : World} {g : Tags} {tv : Nat} (t : Nat) {v : Value} {l : List UInt8} (hv : Bytes w g tv v l) (hl : l.length ≤ 1000000000) {Q : Ending → World → Prop}
    (h : ∀ ao cap w' g', Turn w g w' g' [] → Owns w' g' t 5 1 (.slice ao l.length cap) l.length (l.map byteCell) → Q (.returned (.slice ao l.length cap)) w') : Calls Tryz.prog 23 #[v] w Q :=
  rtwin_t 1 (bytes_plain hv) hl fun ao cap w' _ hT hO => h ao cap w' _ (fresh_of g t hT hO).1 (fresh_of g t hT hO).2

theorem rpacket_t {w : World} {g : Tags} {tv : Nat} (t : Nat) (kind : UInt8) (n : Nat) (hn : n < 4294967296) {v : Value} {more : List UInt8} (hv : Bytes w g tv v more) (ht : tv ≠ t) (hl : more.length ≤ 1000000) {kd : Int} (hkd : kd = (kind.toNat : Int)) {Q : Ending → World → Prop}
    (h : ∀ ao cap w' g', Turn w g w' g' [t] → Owns w' g' t 5 1 (.slice ao (more.length + 5) cap) (more.length + 5) ((Li.packet kind n more).map byteCell) → Q (.returned (.slice ao (more.length + 5) cap)) w') : Calls Tryz.prog 27 #[.int .u8 kd, .int .u32 (n : Int), v] w Q := by
  obtain ⟨mo, mc, rfl⟩ := bytes_form hv
  have H := Lib.hid h
  have HC := Lib.hid (packet_cells kind n hn)
  subst hkd
  have HS := Lib.hid ((hv.turn (Turn.alloc w g t (.cells #[Value.int .u8 (kind.toNat : Int), .int .u8 ((n : Int) / 16777216), .int .u8 ((n : Int) / 65536 % 256), .int .u8 ((n : Int) / 256 % 256), .int .u8 ((n : Int) % 256)] 5)) List.not_mem_nil).src)
  have HO := Lib.hid (owns_alloc w g t 5 #[Value.int .u8 (kind.toNat : Int), .int .u8 ((n : Int) / 16777216), .int .u8 ((n : Int) / 65536 % 256), .int .u8 ((n : Int) / 256 % 256), .int .u8 ((n : Int) % 256)] 5 rfl (by decide))
  have n0 : (0 : Int) ≤ (n : Int) := by omega
  have n1 : (n : Int) ≤ 4294967295 := by omega
  clear hv h hn
  go_enter Tryz.func27, Tryz.ntmps27
  go_wp2_with (at_builtin; go_loud (refine wpList_append_t _ rfl (.tmp 21) (.tmp 22) rfl bytesElem (g := g.ext w.heap.size t) (tg := t) rfl HO.out rfl HS.out (byteCells_one _) (by unfold maxLen; omega) (by omega) ?_); intro a5 c5 w5 g5 O5 T5; have X5 := Lib.hid (And.intro O5 T5); clear O5 T5)
  have e : 5 + more.length = more.length + 5 := Nat.add_comm _ _
  rw [e]
  refine H.out a5 c5 w5 g5 ((Turn.alloc w g t _).trans X5.out.2 (by simp) (by simp)) ?_
  have h1 := X5.out.1
  rw [e] at h1
  have e3 := congrArg Array.toList HC.out
  simp only at e3
  simp only [e3] at h1
  have h2 : ((kind :: Li.be4 n).map byteCell).toArray.toList ++ more.map byteCell = (Li.packet kind n more).map byteCell := by simp [Li.packet]
  rw [h2] at h1
  exact h1

theorem rpacket_f {w : World} {g : Tags} {tv : Nat} (t : Nat) (kind : UInt8) (n : Nat) (hn : n < 4294967296) {v : Value} {more : List UInt8} (hv : Bytes w g tv v more) (hl : more.length ≤ 1000000) {kd : Int} (hkd : kd = (kind.toNat : Int)) {Q : Ending → World → Prop}
    (h : ∀ ao cap w' g', Turn w g w' g' [] → Owns w' g' t 5 1 (.slice ao (more.length + 5) cap) (more.length + 5) ((Li.packet kind n more).map byteCell) → Q (.returned (.slice ao (more.length + 5) cap)) w') : Calls Tryz.prog 27 #[.int .u8 kd, .int .u32 (n : Int), v] w Q :=
  rpacket_t 1 kind n hn (bytes_plain hv) (by decide) hl hkd fun ao cap w' _ hT hO => h ao cap w' _ (fresh_of g t hT hO).1 (fresh_of g t hT hO).2

/-- The document's end, in memory of owners 740 (itself), 741 (what waits), 742 or 745 (what came too early), 743 (the bytes). -/
structure RefAt (w : World) (g : Tags) (mb : Nat) (s : Li.St) (q : Nat) (wv ev : Value) (te : Nat) (ks : List Kp) : Prop where
  box : Bx w g mb 64 740 #[.int .u32 (s.first : Int), wv, .int .u32 (s.awaited : Int), ev, .bool s.came]
  waits : Lists w g 741 (fun _ => 743) wv s.waits
  tag : te = 742 ∨ te = 745
  early : Owns w g te 74 2 ev ks.length (kcells ks)
  bytes : ∀ k ∈ ks, Owns w g 743 5 1 k.2.2 k.2.1.length (k.2.1.map byteCell)
  rel : Li.Rel (kes ks) s.early
  win : Li.Win 16 s
  few : s.waits.length ≤ 16
  small : (∀ b ∈ s.waits, b.length ≤ 65536) ∧ ∀ k ∈ ks, k.2.1.length ≤ 65536 ∧ k.1 < Li.M
  count : ks.length ≤ q
def RefIs (w : World) (g : Tags) (mb : Nat) (s : Li.St) (q : Nat) : Prop := ∃ wv ev te ks, RefAt w g mb s q wv ev te ks

theorem RefAt.turn {w w' : World} {g g' : Tags} {T : List Nat} {mb : Nat} {s : Li.St} {q : Nat} {wv ev : Value} {te : Nat} {ks : List Kp} (h : RefAt w g mb s q wv ev te ks) (k : Turn w g w' g' T) (hT : ∀ t ∈ T, t < 740 ∨ 745 < t) : RefAt w' g' mb s q wv ev te ks := by
  have n : ∀ t, 740 ≤ t → t ≤ 745 → t ∉ T := fun t h1 h2 h3 => by rcases hT t h3 with h | h <;> omega
  exact ⟨h.box.turn k (n _ (by decide) (by decide)), h.waits.turn k (n _ (by decide) (by decide)) (fun _ => n _ (by decide) (by decide)), h.tag,
    h.early.turn k (by rcases h.tag with e | e <;> rw [e] <;> exact n _ (by decide) (by decide)), fun x hx => (h.bytes x hx).turn k (n _ (by decide) (by decide)), h.rel, h.win, h.few, h.small, h.count⟩
theorem RefIs.turn {w w' : World} {g g' : Tags} {T : List Nat} {mb : Nat} {s : Li.St} {q : Nat} (h : RefIs w g mb s q) (k : Turn w g w' g' T) (hT : ∀ t ∈ T, t < 740 ∨ 745 < t) : RefIs w' g' mb s q := by
  obtain ⟨wv, ev, te, ks, h⟩ := h; exact ⟨wv, ev, te, ks, h.turn k hT⟩
theorem RefIs.mono {w : World} {g : Tags} {mb : Nat} {s : Li.St} {q q' : Nat} (h : RefIs w g mb s q) (hq : q ≤ q') : RefIs w g mb s q' := by
  obtain ⟨wv, ev, te, ks, h⟩ := h; exact ⟨wv, ev, te, ks, h.box, h.waits, h.tag, h.early, h.bytes, h.rel, h.win, h.few, h.small, Nat.le_trans h.count hq⟩
theorem RefAt.cell {w : World} {g : Tags} {mb : Nat} {s : Li.St} {q : Nat} {wv ev : Value} {te : Nat} {ks : List Kp} (h : RefAt w g mb s q wv ev te ks) :
    w.cell? ⟨mb, 0, none⟩ = some (.int .u32 (s.first : Int)) ∧ w.cell? ⟨mb, 1, none⟩ = some wv ∧ w.cell? ⟨mb, 2, none⟩ = some (.int .u32 (s.awaited : Int)) ∧ w.cell? ⟨mb, 3, none⟩ = some ev ∧ w.cell? ⟨mb, 4, none⟩ = some (.bool s.came) ∧ ∀ i, w.frozen? ⟨mb, i, none⟩ = false :=
  ⟨(h.box.cell 0).1, (h.box.cell 1).1, (h.box.cell 2).1, (h.box.cell 3).1, (h.box.cell 4).1, fun i => (h.box.cell i).2⟩

theorem rnew_t (w : World) (g : Tags) {Q : Ending → World → Prop} (h : ∀ mb w' g', Turn w g w' g' [] → RefIs w' g' mb Li.fresh 0 → Q (.returned (.pointer (some ⟨mb, 0, none⟩))) w') : Calls Tryz.prog 6 #[] w Q := by
  have H := Lib.hid h
  clear h
  go_enter Tryz.func6, Tryz.ntmps6
  go_wp2
  refine H.out _ _ _ (Turn.alloc w g 740 _) ⟨.slice none 0 0, .slice none 0 0, 742, [], Bx.alloc w g _ 740 _, Lists.nil _ _ _ _, .inl rfl, Owns.nil _ _ _ _ _, fun k hk => (by cases hk), Li.rel_nil, Li.win_fresh 16, Nat.zero_le _, ⟨fun b hb => (by cases hb), fun k hk => (by cases hk)⟩, Nat.le_refl _⟩

theorem rwaits_t {w : World} {g : Tags} {mb : Nat} {s : Li.St} {q : Nat} (hR : RefIs w g mb s q) {Q : Ending → World → Prop} (h : Q (.returned (.int .i64 (s.waits.length : Int))) w) : Calls Tryz.prog 17 #[.pointer (some ⟨mb, 0, none⟩)] w Q := by
  obtain ⟨wv, ev, te, ks, hR⟩ := hR
  obtain ⟨_, k1, _⟩ := hR.cell
  obtain ⟨ao, cap, rfl⟩ := hR.waits.form
  have H := Lib.hid h
  clear h hR
  go_enter Tryz.func17, Tryz.ntmps17
  go_wp2
  exact H.out

def PlaceAt (n : Nat) (ks : List Kp) (w : World) (gk : Nat) (v5 : Value) (wr : World) : Prop :=
  ∃ i : Nat, i ≤ ks.length ∧ gk = ks.length - i ∧ v5 = .int .i64 (i : Int) ∧ (∀ j (hj : j < ks.length), j < i → (ks[j]).1 ≠ n) ∧ wr = w

set_option maxRecDepth 100000 in
set_option maxHeartbeats 2000000 in
theorem rat_t {w : World} {g : Tags} {mb : Nat} {s : Li.St} {q : Nat} {wv ev : Value} {te : Nat} {ks : List Kp} (hR : RefAt w g mb s q wv ev te ks) (hq : q ≤ 1000000000) (n : Nat) (hn : n < 4294967296) {Q : Ending → World → Prop}
    (h1 : ∀ k (hk : k < ks.length), (ks[k]).1 = n → Q (.returned (.int .i64 (k : Int))) w) (h2 : (∀ j (hj : j < ks.length), (ks[j]).1 ≠ n) → Q (.returned (.int .i64 (-1))) w) :
    Calls Tryz.prog 30 #[.pointer (some ⟨mb, 0, none⟩), .int .u32 (n : Int)] w Q := by
  obtain ⟨ao, cap, rfl⟩ := hR.early.form
  obtain ⟨_, _, _, k3, _, _⟩ := hR.cell
  have H1 := Lib.hid h1
  have H2 := Lib.hid h2
  have HR := Lib.hid hR
  have l0 : (0 : Int) ≤ (ks.length : Int) := by omega
  have l1 : (ks.length : Int) ≤ 1000000000 := by have := hR.count; omega
  have n0 : (0 : Int) ≤ (n : Int) := by omega
  have n1 : (n : Int) < 4294967296 := by omega
  clear h1 h2 hR
  go_enter Tryz.func30, Tryz.ntmps30
  go_wp2_with fail
  go_loopg [5] ks.length (fun gk v5 wr => PlaceAt n ks w gk v5 wr)
  case atStart => exact ⟨0, Nat.zero_le _, rfl, rfl, fun j _ hj => absurd hj (Nat.not_lt_zero _), rfl⟩
  case round =>
    obtain ⟨i, hi, rfl, rfl, hb, rfl⟩ := hrel
    have i0 : (0 : Int) ≤ (i : Int) := by omega
    have HB := Lib.hid hb
    clear hb
    by_cases hlt : i < ks.length
    · have i1 : (i : Int) < (ks.length : Int) := by omega
      obtain ⟨b, off, cap', hv, _, _, _, _, hc⟩ := HR.out.early.cell (by omega)
      cases hv
      have d0 : wr.cell? ⟨b, off + i * 2, none⟩ = some (.int .u32 ((ks[i]).1 : Int)) := (hc (i * 2) (by omega)).1.trans (kcells_at ks i hlt).1
      obtain ⟨m, hm⟩ : ∃ m, m = (ks[i]).1 := ⟨_, rfl⟩
      rw [← hm] at d0
      have HM := Lib.hid hm
      clear hm hc
      by_cases e : m = n
      · subst e
        clear HB
        go_wp2_with fail
        exact H1.out i hlt HM.out.symm
      · have e1 : ((m : Int) == (n : Int)) = false := by simp; omega
        have HE := Lib.hid e
        clear e
        go_wp2_with fail
        go_roundg (ks.length - (i + 1))
        case measure => omega
        case rel =>
          refine ⟨i + 1, hlt, rfl, by go_num, fun j hj hji => ?_, rfl⟩
          rcases Nat.lt_or_ge j i with hlt2 | hge
          · exact HB.out j hj hlt2
          · obtain rfl : j = i := by omega
            rw [← HM.out]; exact HE.out
    · obtain rfl : i = ks.length := by omega
      clear hlt hi
      go_wp2_with fail
      exact H2.out fun j hj => HB.out j hj hj
end Go.Proofs.YtoedalocfepkoaaGreatDoor
