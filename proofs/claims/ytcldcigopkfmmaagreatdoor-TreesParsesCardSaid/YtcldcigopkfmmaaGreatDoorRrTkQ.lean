/- Trees, as the document has them: the reader: takes, must, atName, name, number. -/
import Derived.Test.YtcldcigopkfmmaaGreatDoorRrRdQ
namespace Go.Proofs.YtcldcigopkfmmaaGreatDoor
open Go.RowKit Go.My Go.Nd

theorem Rr.next {w w' : World} {rb : Nat} {tv : Value} {xs : List To.T} {s : Tx} {r : List Tx} {inn bad : Bool} (h : Rr w rb tv xs (s :: r) inn bad) (hp : Put w w' rb #[tv, .int .i64 ((xs.length - r.length : Nat) : Int), .bool inn, .bool bad] TRd) : Rr w' rb tv xs r inn bad :=
  ⟨hp.row, (List.suffix_cons s r).trans h.suf, h.toks.frame (by rw [hp.size]; exact Nat.le_refl _) fun b hb _ => hp.oth b (Nat.ne_of_lt hb), h.len, h.short, h.kinds⟩
theorem Rr.put1 {w : World} {rb : Nat} {tv : Value} {xs : List To.T} {s : Tx} {r : List Tx} {inn bad : Bool} (h : Rr w rb tv xs (s :: r) inn bad) : Put w (w.setCell ⟨rb, 1, none⟩ (.int .i64 ((xs.length - r.length : Nat) : Int))) rb #[tv, .int .i64 ((xs.length - r.length : Nat) : Int), .bool inn, .bool bad] TRd :=
  Put.one h.row 1 _
theorem Rr.one_more {w : World} {rb : Nat} {tv : Value} {xs : List To.T} {s : Tx} {r : List Tx} {inn bad : Bool} (h : Rr w rb tv xs (s :: r) inn bad) : ((xs.length - (s :: r).length : Nat) : Int) + 1 = ((xs.length - r.length : Nat) : Int) := by
  have := h.le; rw [List.length_cons] at *; omega
theorem Rr.setBad {w : World} {rb : Nat} {tv : Value} {xs : List To.T} {ts : List Tx} {inn bad : Bool} (h : Rr w rb tv xs ts inn bad) : Step w (w.setCell ⟨rb, 3, none⟩ (.bool true)) (some rb) ∧ Rr (w.setCell ⟨rb, 3, none⟩ (.bool true)) rb tv xs ts inn true := by
  have hp : Put w (w.setCell ⟨rb, 3, none⟩ (.bool true)) rb #[tv, .int .i64 ((xs.length - ts.length : Nat) : Int), .bool inn, .bool true] TRd := Put.one h.row 3 _
  exact ⟨hp.step, hp.row, h.suf, h.toks.frame (by rw [hp.size]; exact Nat.le_refl _) fun b hb _ => hp.oth b (Nat.ne_of_lt hb), h.len, h.short, h.kinds⟩
theorem Rr.setInner {w : World} {rb : Nat} {tv : Value} {xs : List To.T} {ts : List Tx} {inn bad : Bool} (h : Rr w rb tv xs ts inn bad) (i : Bool) : Step w (w.setCell ⟨rb, 2, none⟩ (.bool i)) (some rb) ∧ Rr (w.setCell ⟨rb, 2, none⟩ (.bool i)) rb tv xs ts i bad := by
  have hp : Put w (w.setCell ⟨rb, 2, none⟩ (.bool i)) rb #[tv, .int .i64 ((xs.length - ts.length : Nat) : Int), .bool i, .bool bad] TRd := Put.one h.row 2 _
  exact ⟨hp.step, hp.row, h.suf, h.toks.frame (by rw [hp.size]; exact Nat.le_refl _) fun b hb _ => hp.oth b (Nat.ne_of_lt hb), h.len, h.short, h.kinds⟩

set_option maxRecDepth 100000 in
set_option maxHeartbeats 2000000 in
theorem tk_yes {w : World} {rb : Nat} {tv : Value} {xs : List To.T} {s : Tx} {r : List Tx} {inn : Bool} (h : Rr w rb tv xs (s :: r) inn false) {Q : Ending → World → Prop} (hQ : ∀ w', Step w w' (some rb) → Rr w' rb tv xs r inn false → Q (.returned (.bool true)) w') :
    Calls Tryz.prog 58 #[.pointer (some ⟨rb, 0, none⟩), .string (bs s)] w Q := by
  have H := Lib.hid hQ
  have hm := h.one_more
  have hl := h.len
  obtain ⟨c0, c1, _, _, f1, _, _⟩ := h.cell
  obtain ⟨q, hq⟩ : ∃ q, q = xs.length - (s :: r).length := ⟨_, rfl⟩
  obtain ⟨q', hq'⟩ : ∃ q', q' = xs.length - r.length := ⟨_, rfl⟩
  rw [← hq, ← hq'] at hm
  rw [← hq] at c1
  have q0 : (0 : Int) ≤ (q : Int) := by omega
  have q1 : (q : Int) < 65536 := by omega
  have HX := Lib.hid (And.intro h (And.intro hq' hm))
  clear hQ h hq hq' hm
  go_enter Tryz.func58, Tryz.ntmps58
  go_wp2_with fail
  refine is_t HX.out.1 s 0 (by decide) ?_
  rw [show (!false && ((s :: r)[0]? == some s)) = true by simp]
  go_wp2_with fail
  have hp := HX.out.1.put1
  rw [← HX.out.2.1, ← HX.out.2.2] at hp
  exact H.out _ hp.step (HX.out.1.next (by rw [HX.out.2.2, HX.out.2.1] at hp; rw [HX.out.2.2, HX.out.2.1]; exact hp))

/-- The text does not stand there, or the reader does not go on. -/
def No (bad : Bool) (ts : List Tx) (s : Tx) : Prop := (!bad && (ts[0]? == some s)) = false
theorem No.bad (ts : List Tx) (s : Tx) : No true ts s := rfl
theorem No.head {ts : List Tx} {s : Tx} (h : ts.head? ≠ some s) (b : Bool) : No b ts s := by
  unfold No
  cases b
  · cases ts with
    | nil => rfl
    | cons u r => simpa using h
  · rfl

set_option maxRecDepth 100000 in
set_option maxHeartbeats 2000000 in
theorem tk_no {w : World} {rb : Nat} {tv : Value} {xs : List To.T} {ts : List Tx} {inn bad : Bool} (h : Rr w rb tv xs ts inn bad) (s : Tx) (hn : No bad ts s) {Q : Ending → World → Prop} (hQ : Q (.returned (.bool false)) w) :
    Calls Tryz.prog 58 #[.pointer (some ⟨rb, 0, none⟩), .string (bs s)] w Q := by
  have H := Lib.hid hQ
  have HR := Lib.hid (And.intro h hn)
  clear hQ h hn
  go_enter Tryz.func58, Tryz.ntmps58
  go_wp2_with fail
  refine is_t HR.out.1 s 0 (by decide) ?_
  rw [show (!bad && (ts[0]? == some s)) = false from HR.out.2]
  go_wp2_with fail
  exact H.out

set_option maxRecDepth 100000 in
set_option maxHeartbeats 2000000 in
theorem mu_yes {w : World} {rb : Nat} {tv : Value} {xs : List To.T} {s : Tx} {r : List Tx} {inn : Bool} (h : Rr w rb tv xs (s :: r) inn false) {Q : Ending → World → Prop} (hQ : ∀ w', Step w w' (some rb) → Rr w' rb tv xs r inn false → Q (.returned (.tuple #[])) w') :
    Calls Tryz.prog 107 #[.pointer (some ⟨rb, 0, none⟩), .string (bs s)] w Q := by
  have H := Lib.hid hQ
  have HR := Lib.hid h
  clear hQ h
  go_enter Tryz.func107, Tryz.ntmps107
  go_wp2_with fail
  refine tk_yes HR.out fun w1 hs1 h1 => ?_
  have X1 := Lib.hid (And.intro hs1 h1)
  clear hs1 h1
  go_wp2_with fail
  go_end0
  exact H.out _ X1.out.1 X1.out.2

set_option maxRecDepth 100000 in
set_option maxHeartbeats 2000000 in
theorem mu_no {w : World} {rb : Nat} {tv : Value} {xs : List To.T} {ts : List Tx} {inn bad : Bool} (h : Rr w rb tv xs ts inn bad) (s : Tx) (hn : No bad ts s) {Q : Ending → World → Prop} (hQ : ∀ w', Step w w' (some rb) → Rr w' rb tv xs ts inn true → Q (.returned (.tuple #[])) w') :
    Calls Tryz.prog 107 #[.pointer (some ⟨rb, 0, none⟩), .string (bs s)] w Q := by
  have H := Lib.hid hQ
  have HR := Lib.hid (And.intro h hn)
  obtain ⟨_, _, _, c3, _, _, f3⟩ := h.cell
  clear hQ h hn
  go_enter Tryz.func107, Tryz.ntmps107
  go_wp2_with fail
  refine tk_no HR.out.1 s HR.out.2 ?_
  go_wp2_with fail
  go_end0
  exact H.out _ HR.out.1.setBad.1 HR.out.1.setBad.2

/-- Does a name stand there? -/
def nameAt (bad : Bool) (ts : List Tx) : Bool := !bad && To.name (ts.getD 0 [])
theorem name_nil : To.name [] = false := by decide

set_option maxRecDepth 100000 in
set_option maxHeartbeats 4000000 in
theorem atName_t {w : World} {rb : Nat} {tv : Value} {xs : List To.T} {ts : List Tx} {inn bad : Bool} (h : Rr w rb tv xs ts inn bad) {Q : Ending → World → Prop} (hQ : ∀ w', Below w.heap.size w w' → Q (.returned (.bool (nameAt bad ts))) w') :
    Calls Tryz.prog 111 #[.pointer (some ⟨rb, 0, none⟩)] w Q := by
  have H := Lib.hid hQ
  have hle := h.le
  have hlen := h.len
  obtain ⟨c0, c1, _, c3, _, _, _⟩ := h.cell
  obtain ⟨p, hp⟩ : ∃ p, p = xs.length - ts.length := ⟨_, rfl⟩
  have p0 : (0 : Int) ≤ (p : Int) := by omega
  rw [← hp] at c1
  clear hQ
  cases bad with
  | true =>
    obtain ⟨ao, cap, rfl, _, _, _⟩ := h.toks
    clear h hle hlen hp
    go_enter Tryz.func111, Tryz.ntmps111
    go_wp2_with fail
    go_quiet (fail)
    go_wp2_with fail
    exact H.out _ (below_drewN' _ _)
  | false =>
    cases ts with
    | nil =>
      obtain ⟨ao, cap, rfl, _, _, _⟩ := h.toks
      have hi : (xs.length : Int) ≤ (p : Int) := by simp at hp; omega
      have hd : decide ((p : Int) < (xs.length : Int)) = false := by simpa using hi
      have hd' : decide (p < xs.length) = false := by simpa using hi
      have hn : nameAt false [] = false := by decide
      rw [hn] at H
      clear h hle hlen hp hn
      go_enter Tryz.func111, Tryz.ntmps111
      go_wp2_with fail
      go_quiet (fail)
      go_wp2_with fail
      exact H.out _ (below_drewN' _ _)
    | cons u r =>
      obtain ⟨b, off, cap, kd, c, rfl, hne, d0, d1, d2, hu, k1, _⟩ := h.token 0 (by simp)
      rw [← hp] at d0 d1 d2
      simp only [Nat.add_zero] at d0 d1 d2
      have hi : (p : Int) < (xs.length : Int) := by rw [List.length_cons] at hle hp; omega
      have hn : nameAt false (u :: r) = To.name u := rfl
      rw [hn] at H
      have hul : u.length ≤ 9223372036854775807 := by simp at hu; omega
      simp only [List.getElem_cons_zero] at d1 k1
      have HU := Lib.hid hul
      clear h hle hlen hp hn hu hul
      by_cases hk : kd = 1
      · subst hk
        clear k1
        have hdk : ((1 : Nat) : Int) = 1 := rfl
        go_enter Tryz.func111, Tryz.ntmps111
        go_wp2_with fail
        go_quiet (exact refname_t u HU.out ⟨rfl, _, rfl⟩)
        go_wp2_with fail
        exact H.out _ (below_drewN' _ _)
      · have hnu : To.name u = false := by
          cases hh : To.name u with
          | true => exact absurd (k1 hh) hk
          | false => rfl
        rw [hnu] at H
        have hdk : decide ((kd : Int) = 1) = false := by simp; omega
        have hdk' : ((kd : Int) == 1) = false := by simp; omega
        have hdk2 : decide (kd = 1) = false := by simpa using hk
        clear k1 hk
        go_enter Tryz.func111, Tryz.ntmps111
        go_wp2_with fail
        go_quiet (fail)
        go_wp2_with fail
        exact H.out _ (below_drewN' _ _)
end Go.Proofs.YtcldcigopkfmmaaGreatDoor
