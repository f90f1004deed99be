/- Trees: the reader: takes, must, next, named, name, number, bin. -/
import Derived.Test.YtobpnjnfpgcpaaaGreatDoorPxRdT
namespace Go.Proofs.YtobpnjnfpgcpaaaGreatDoor
open Go.RowKit Go.My Go.Nd

theorem tokText (i j : Int) (s : ByteArray) (wx : World) : (Instr.field 70 (.agg #[.int .u8 i, .string s, .int .i64 j]) 1).run Tryz.prog wx = .ok (.string s) wx := by kernel_rfl

theorem Rd.next {w w' : World} {rb : Nat} {tv : Value} {xs : List To.T} {s : Tx} {r : List Tx} {inn : Bool} (h : Rd w rb tv xs (s :: r) inn) (hp : Put w w' rb #[tv, .int .i64 ((xs.length - r.length : Nat) : Int), .bool inn] 66) : Rd w' rb tv xs r inn :=
  ⟨hp.row, (List.suffix_cons s r).trans h.suf, h.toks.frame (by rw [hp.size]; exact Nat.le_refl _) fun b hb _ => hp.oth b (Nat.ne_of_lt hb), h.len, h.short⟩

theorem Rd.put1 {w : World} {rb : Nat} {tv : Value} {xs : List To.T} {s : Tx} {r : List Tx} {inn : Bool} (h : Rd w rb tv xs (s :: r) inn) : Put w (w.setCell ⟨rb, 1, none⟩ (.int .i64 ((xs.length - r.length : Nat) : Int))) rb #[tv, .int .i64 ((xs.length - r.length : Nat) : Int), .bool inn] 66 :=
  Put.one h.row 1 _
theorem Rd.one_more {w : World} {rb : Nat} {tv : Value} {xs : List To.T} {s : Tx} {r : List Tx} {inn : Bool} (h : Rd w rb tv xs (s :: r) inn) : ((xs.length - (s :: r).length : Nat) : Int) + 1 = ((xs.length - r.length : Nat) : Int) := by
  have := h.le; rw [List.length_cons] at *; omega

set_option maxRecDepth 100000 in
set_option maxHeartbeats 2000000 in
theorem takes_yes {w : World} {rb : Nat} {tv : Value} {xs : List To.T} {s : Tx} {r : List Tx} {inn : Bool} (h : Rd w rb tv xs (s :: r) inn) (hs : s ≠ []) {Q : Ending → World → Prop} (hQ : ∀ w', Step w w' (some rb) → Rd w' rb tv xs r inn → Q (.returned (.bool true)) w') :
    Calls Tryz.prog 60 #[.pointer (some ⟨rb, 0, none⟩), .string (bs s)] w Q := by
  have H := Lib.hid hQ
  have HR := Lib.hid h
  have hs1 := bs_tlp s
  have hsz : (s == []) = false := by simpa using hs
  clear hQ h
  have ht := tokText
  go_enter Tryz.func60, Tryz.ntmps60
  go_wp2_with fail
  refine look_t HR.out 0 (by decide) fun i j w1 hb => ?_
  have h1 := HR.out.later hb
  have hm := h1.one_more
  have hl := h1.len
  obtain ⟨c0, c1, c2, f1, _⟩ := h1.cell
  obtain ⟨q, hq⟩ : ∃ q, q = xs.length - (s :: r).length := ⟨_, rfl⟩
  obtain ⟨q', hq'⟩ : ∃ q', q' = xs.length - r.length := ⟨_, rfl⟩
  rw [← hq, ← hq'] at hm
  rw [← hq] at c1
  have q0 : (0 : Int) ≤ (q : Int) := by omega
  have q1 : (q : Int) < 65536 := by omega
  have HX := Lib.hid (And.intro hb (And.intro h1 (And.intro hq' hm)))
  clear hb h1 hq hq' hm
  rw [show (s :: r).getD 0 [] = s from rfl]
  go_wp2_with fail
  have hp := HX.out.2.1.put1
  rw [← HX.out.2.2.1, ← HX.out.2.2.2] at hp
  exact H.out _ ((Step.of_below HX.out.1).trans hp.step) (HX.out.2.1.next (by rw [HX.out.2.2.2, HX.out.2.2.1] at hp; rw [HX.out.2.2.2, HX.out.2.2.1]; exact hp))

set_option maxRecDepth 100000 in
set_option maxHeartbeats 2000000 in
theorem takes_no {w : World} {rb : Nat} {tv : Value} {xs : List To.T} {ts : List Tx} {inn : Bool} (h : Rd w rb tv xs ts inn) (s : Tx) (hs : s ≠ []) (hn : ts.head? ≠ some s) {Q : Ending → World → Prop} (hQ : ∀ w', Below w.heap.size w w' → Q (.returned (.bool false)) w') :
    Calls Tryz.prog 60 #[.pointer (some ⟨rb, 0, none⟩), .string (bs s)] w Q := by
  have H := Lib.hid hQ
  have HR := Lib.hid h
  have hs1 := bs_tlp s
  obtain ⟨u, hu⟩ : ∃ u, u = ts.getD 0 [] := ⟨_, rfl⟩
  have hne : (u == s) = false := by
    rw [hu]
    cases ts with
    | nil => simpa using hs
    | cons x r => simpa using hn
  have hs2 := bs_tlp u
  have ht := tokText
  clear hQ h hn hs
  go_enter Tryz.func60, Tryz.ntmps60
  go_wp2_with fail
  refine look_t HR.out 0 (by decide) fun i j w1 hb => ?_
  have HX := Lib.hid hb
  rw [← hu]
  clear hb hu
  go_wp2_with fail
  exact H.out _ HX.out

/-- The panic that says that the text does not go on so. -/
def wrongChain : List PanicEntry := [{ v := .iface 93 (.agg #[]), recovered := false }]

set_option maxRecDepth 100000 in
theorem must_yes {w : World} {Q : Ending → World → Prop} (hQ : Q (.returned (.tuple #[])) w) : Calls Tryz.prog 93 #[.bool true] w Q := by
  go_enter Tryz.func93, Tryz.ntmps93
  go_wp2_with fail
  go_end0
  exact hQ
set_option maxRecDepth 100000 in
theorem must_no {w : World} {Q : Ending → World → Prop} (hQ : Q (.panicked wrongChain) w) : Calls Tryz.prog 93 #[.bool false] w Q := by
  go_enter Tryz.func93, Tryz.ntmps93
  go_wp2_with fail
  exact ⟨rfl, hQ⟩

set_option maxRecDepth 100000 in
set_option maxHeartbeats 2000000 in
theorem next_yes {w : World} {rb : Nat} {tv : Value} {xs : List To.T} {s : Tx} {r : List Tx} {inn : Bool} (h : Rd w rb tv xs (s :: r) inn) {Q : Ending → World → Prop} (hQ : ∀ w', Step w w' (some rb) → Rd w' rb tv xs r inn → Q (.returned (.string (bs s))) w') :
    Calls Tryz.prog 130 #[.pointer (some ⟨rb, 0, none⟩), .bool true] w Q := by
  have H := Lib.hid hQ
  have hm := h.one_more
  have hl := h.len
  have hle := h.le
  have hp := h.put1
  obtain ⟨c0, c1, c2, f1, _⟩ := h.cell
  obtain ⟨b, off, cap, a, c, rfl, hne, d0, d1, d2, ⟨i, rfl⟩, ⟨j, rfl⟩, _⟩ := h.token 0 (by simp)
  obtain ⟨q, hq⟩ : ∃ q, q = xs.length - (s :: r).length := ⟨_, rfl⟩
  have HR := Lib.hid (And.intro h (And.intro hp hm))
  rw [List.length_cons] at hle
  obtain ⟨q', hq'⟩ : ∃ q', q' = xs.length - r.length := ⟨_, rfl⟩
  rw [← hq, ← hq'] at hm
  rw [← hq] at d0 d1 d2
  simp only [Nat.add_zero] at d0 d1 d2
  rw [← hq] at c1
  have HM := Lib.hid (And.intro hm hq')
  have q0 : (0 : Int) ≤ (q : Int) := by omega
  have q1 : (q : Int) < (xs.length : Int) := by rw [List.length_cons] at hq; omega
  have q2 : (xs.length : Int) ≤ 65536 := by omega
  simp only [List.getElem_cons_zero] at d1
  have e0 : ∀ o, (w.setCell ⟨rb, 1, none⟩ (.int .i64 ((xs.length - r.length : Nat) : Int))).cell? ⟨b, o, none⟩ = w.cell? ⟨b, o, none⟩ := fun o => World.cell?_of_block (hp.oth b hne)
  obtain ⟨wz, hwz⟩ : ∃ wz, wz = w.setCell ⟨rb, 1, none⟩ (.int .i64 ((xs.length - r.length : Nat) : Int)) := ⟨_, rfl⟩
  rw [← hwz] at hp e0
  rw [← hq'] at hwz hp
  rw [← e0] at d0 d1 d2
  have k0 := (hp.cells 0).1
  have k1 := (hp.cells 1).1
  simp at k0 k1
  have HZ := Lib.hid (And.intro hp hwz)
  clear hQ h hp hq hm hq' hl hle e0 hwz
  go_enter Tryz.func130, Tryz.ntmps130
  go_upto_region 3 with (refine must_yes ?_)
  rw [HM.out.1, ← HZ.out.2]
  have w1 : IntKind.i64.wrap ((q' : Int) - 1) = (q : Int) := by have := HM.out.1; rw [IntWalk.i64_in _ (by omega)]; omega
  clear c0 c1 c2
  go_quiet (fail)
  go_wp2_with fail
  have hp := HZ.out.1
  rw [HM.out.2] at hp
  exact H.out _ (hp.step.trans (Step.of_below (below_drewN' _ _))) ((HR.out.1.next hp).later (below_drewN' _ _))

set_option maxRecDepth 100000 in
theorem next_no {w : World} {rb : Nat} {Q : Ending → World → Prop} (hQ : Q (.panicked wrongChain) w) :
    Calls Tryz.prog 130 #[.pointer (some ⟨rb, 0, none⟩), .bool false] w Q := by
  go_enter Tryz.func130, Tryz.ntmps130
  go_wp2_with (refine must_no ?_)
  exact ⟨rfl, hQ⟩

set_option maxRecDepth 100000 in
theorem named_t {w : World} {rb : Nat} {tv : Value} {xs : List To.T} {ts : List Tx} {inn : Bool} (h : Rd w rb tv xs ts inn) {Q : Ending → World → Prop} (hQ : ∀ w', Below w.heap.size w w' → Q (.returned (.bool (To.name (ts.getD 0 [])))) w') :
    Calls Tryz.prog 100 #[.pointer (some ⟨rb, 0, none⟩)] w Q := by
  have H := Lib.hid hQ
  have HR := Lib.hid h
  have ht := tokText
  have hl : (ts.getD 0 []).length ≤ 9223372036854775807 := by
    cases ts with
    | nil => exact Nat.zero_le _
    | cons s r => obtain ⟨_, _, _, _, _, _, _, _, _, _, _, _, hs⟩ := h.token 0 (by simp); simp at hs ⊢; omega
  have HL := Lib.hid hl
  clear hQ h hl
  go_enter Tryz.func100, Tryz.ntmps100
  go_wp2_with fail
  refine look_t HR.out 0 (by decide) fun i j w1 hb => ?_
  have HX := Lib.hid hb
  clear hb
  generalize ts.getD 0 [] = u at *
  go_wp2_with fail
  refine name_t u HL.out fun w2 hb2 => ?_
  have K2 := Lib.hid (HX.out.trans (hb2.mono HX.out.size))
  clear hb2
  go_wp2_with fail
  exact H.out _ K2.out
set_option maxRecDepth 100000 in
theorem rname_yes {w : World} {rb : Nat} {tv : Value} {xs : List To.T} {s : Tx} {r : List Tx} {inn : Bool} (h : Rd w rb tv xs (s :: r) inn) (hs : To.name s = true) {Q : Ending → World → Prop} (hQ : ∀ w', Step w w' (some rb) → Rd w' rb tv xs r inn → Q (.returned (.string (bs s))) w') :
    Calls Tryz.prog 92 #[.pointer (some ⟨rb, 0, none⟩)] w Q := by
  have H := Lib.hid hQ
  have HR := Lib.hid h
  have HS := Lib.hid hs
  clear hQ h hs
  go_enter Tryz.func92, Tryz.ntmps92
  go_wp2_with fail
  refine named_t HR.out fun w1 hb => ?_
  rw [show To.name ((s :: r).getD 0 []) = true from HS.out]
  have HX := Lib.hid (And.intro hb (HR.out.later hb))
  clear hb
  go_wp2_with fail
  refine next_yes HX.out.2 fun w2 hs2 h2 => ?_
  have K2 := Lib.hid (And.intro ((Step.of_below HX.out.1).trans hs2) h2)
  clear hs2 h2
  go_wp2_with fail
  exact H.out _ K2.out.1 K2.out.2
set_option maxRecDepth 100000 in
theorem rname_no {w : World} {rb : Nat} {tv : Value} {xs : List To.T} {ts : List Tx} {inn : Bool} (h : Rd w rb tv xs ts inn) (hs : To.name (ts.getD 0 []) = false) {Q : Ending → World → Prop} (hQ : ∀ w', Below w.heap.size w w' → Q (.panicked wrongChain) w') :
    Calls Tryz.prog 92 #[.pointer (some ⟨rb, 0, none⟩)] w Q := by
  have H := Lib.hid hQ
  have HR := Lib.hid h
  have HS := Lib.hid hs
  clear hQ h hs
  go_enter Tryz.func92, Tryz.ntmps92
  go_wp2_with fail
  refine named_t HR.out fun w1 hb => ?_
  rw [HS.out]
  have HX := Lib.hid hb
  clear hb
  go_wp2_with fail
  refine next_no ?_
  go_wp2_with fail
  exact ⟨rfl, H.out _ HX.out⟩
end Go.Proofs.YtobpnjnfpgcpaaaGreatDoor
