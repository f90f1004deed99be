/- Trees, as the document has them: the reader of tokens, and its small functions. -/
import Derived.Test.YtcldcigopkfmmaaGreatDoorTrD2
import Derived.Test.YtcldcigopkfmmaaGreatDoorTrD1
import Derived.Test.YtcldcigopkfmmaaGreatDoorTrD4
namespace Go.Nd
def R.isBad {α : Type} : R α → Bool
  | .ok _ _ => false
  | .bad _ => true
/-- Read only where the reader goes on. -/
def gate {α : Type} (bad : Bool) (ts : List Tx) (r : R α) : R α := if bad then .bad ts else r
theorem gate_bad {α : Type} (ts : List Tx) (r : R α) : gate true ts r = .bad ts := rfl
theorem gate_ok {α : Type} (ts : List Tx) (r : R α) : gate false ts r = r := rfl
/-- What was read is x. -/
def R.Is {α : Type} (r : R α) (x : α) : Prop := ∀ y q, r = .ok y q → y = x
theorem R.Is.ok {α : Type} (x : α) (q : List Tx) : (R.ok x q).Is x := fun _ _ e => by cases e; rfl
theorem R.Is.bad {α : Type} (x : α) (q : List Tx) : (R.bad q : R α).Is x := fun _ _ e => by cases e
end Go.Nd
namespace Go.Proofs.YtcldcigopkfmmaaGreatDoor
open Go.RowKit Go.My Go.Nd

abbrev TRd : TypeId := 67

/-- The document's reader at block rb: of the tokens xs those of ts are left; bad: it does not go on. -/
structure Rr (w : World) (rb : Nat) (tv : Value) (xs : List To.T) (ts : List Tx) (inn bad : Bool) : Prop where
  row : w.heap[rb]? = some (.cells #[tv, .int .i64 ((xs.length - ts.length : Nat) : Int), .bool inn, .bool bad] TRd (0, 0))
  suf : ts <:+ xs.map (·.text)
  toks : TokIn w (· < rb) tv xs
  len : xs.length ≤ 65536
  short : ∀ x ∈ xs, x.text.length ≤ 65536
  kinds : ∀ x ∈ xs, (To.name x.text = true → x.kind = 1) ∧ (Nd.plain x.text = true → x.kind = 2)

theorem Rr.lt {w : World} {rb : Nat} {tv : Value} {xs : List To.T} {ts : List Tx} {inn bad : Bool} (h : Rr w rb tv xs ts inn bad) : rb < w.heap.size := heap_lt h.row
theorem Rr.le {w : World} {rb : Nat} {tv : Value} {xs : List To.T} {ts : List Tx} {inn bad : Bool} (h : Rr w rb tv xs ts inn bad) : ts.length ≤ xs.length := by have := h.suf.length_le; simpa using this
theorem Rr.later {w w' : World} {rb : Nat} {tv : Value} {xs : List To.T} {ts : List Tx} {inn bad : Bool} (h : Rr w rb tv xs ts inn bad) (hb : Below w.heap.size w w') : Rr w' rb tv xs ts inn bad :=
  ⟨(hb.block rb h.lt).trans h.row, h.suf, h.toks.frame hb.size fun b _ hlt => hb.block b hlt, h.len, h.short, h.kinds⟩
theorem Rr.cell {w : World} {rb : Nat} {tv : Value} {xs : List To.T} {ts : List Tx} {inn bad : Bool} (h : Rr w rb tv xs ts inn bad) :
    w.cell? ⟨rb, 0, none⟩ = some tv ∧ w.cell? ⟨rb, 1, none⟩ = some (.int .i64 ((xs.length - ts.length : Nat) : Int)) ∧ w.cell? ⟨rb, 2, none⟩ = some (.bool inn) ∧ w.cell? ⟨rb, 3, none⟩ = some (.bool bad) ∧ w.frozen? ⟨rb, 1, none⟩ = false ∧ w.frozen? ⟨rb, 2, none⟩ = false ∧ w.frozen? ⟨rb, 3, none⟩ = false :=
  ⟨cell_of_row w rb 0 _ _ _ h.row, cell_of_row w rb 1 _ _ _ h.row, cell_of_row w rb 2 _ _ _ h.row, cell_of_row w rb 3 _ _ _ h.row, frozen_of_row w rb 1 _ _ h.row, frozen_of_row w rb 2 _ _ h.row, frozen_of_row w rb 3 _ _ h.row⟩
/-- What is behind the reader counts for nothing. -/
theorem Rr.keep {w w' : World} {rb : Nat} {tv : Value} {xs : List To.T} {ts : List Tx} {inn bad : Bool} (h : Rr w rb tv xs ts inn bad) (hz : w.heap.size ≤ w'.heap.size) (hk : ∀ k, k ≤ rb → w'.heap[k]? = w.heap[k]?) : Rr w' rb tv xs ts inn bad :=
  ⟨(hk rb (Nat.le_refl _)).trans h.row, h.suf, h.toks.frame hz fun b hb _ => hk b (Nat.le_of_lt hb), h.len, h.short, h.kinds⟩
theorem Rr.put {w1 w2 : World} {rb : Nat} {tv : Value} {xs : List To.T} {ts : List Tx} {inn bad : Bool} {c : Nat} {cs : Array Value} {T : TypeId} (h : Rr w1 rb tv xs ts inn bad) (hp : Put w1 w2 c cs T) (hc : rb < c) : Rr w2 rb tv xs ts inn bad :=
  h.keep (by rw [hp.size]; exact Nat.le_refl _) fun k hk => hp.oth k (by omega)

/-- The token so much further. -/
theorem Rr.token {w : World} {rb : Nat} {tv : Value} {xs : List To.T} {ts : List Tx} {inn bad : Bool} (h : Rr w rb tv xs ts inn bad) (k : Nat) (hk : k < ts.length) :
    ∃ b off cap kd c, tv = .slice (some ⟨b, off, none⟩) xs.length cap ∧ b ≠ rb ∧ w.cell? ⟨b, off + (xs.length - ts.length + k) * 3, none⟩ = some (.int .u8 ((kd : Nat) : Int)) ∧ w.cell? ⟨b, off + (xs.length - ts.length + k) * 3 + 1, none⟩ = some (.string (bs ts[k])) ∧ w.cell? ⟨b, off + (xs.length - ts.length + k) * 3 + 2, none⟩ = some (.int .i64 c) ∧
      ts[k].length ≤ 65536 ∧ (To.name ts[k] = true → kd = 1) ∧ (Nd.plain ts[k] = true → kd = 2) := by
  obtain ⟨ao, cap, rfl, h1, h2, h3⟩ := h.toks
  have hle := h.le
  obtain ⟨b, off, rfl, hne, _, hc⟩ := h3 (by omega)
  have hj : xs.length - ts.length + k < xs.length := by omega
  obtain ⟨c0, c1, c2⟩ := hc _ hj
  have := suffix_at h.suf k hk
  rw [List.length_map, List.getElem?_map, List.getElem?_eq_getElem hj] at this
  have e : (xs[xs.length - ts.length + k]).text = ts[k] := by simpa using this
  rw [e] at c1
  have hkd := h.kinds _ (List.getElem_mem hj)
  rw [e] at hkd
  exact ⟨b, off, cap, _, _, rfl, Nat.ne_of_lt hne, c0, c1, c2, by rw [← e]; exact h.short _ (List.getElem_mem hj), hkd.1, hkd.2⟩

set_option maxRecDepth 100000 in
set_option maxHeartbeats 2000000 in
theorem is_t {w : World} {rb : Nat} {tv : Value} {xs : List To.T} {ts : List Tx} {inn bad : Bool} (h : Rr w rb tv xs ts inn bad) (s : Tx) (k : Nat) (hk : k ≤ 1) {Q : Ending → World → Prop} (hQ : Q (.returned (.bool (!bad && (ts[k]? == some s)))) w) :
    Calls Tryz.prog 105 #[.pointer (some ⟨rb, 0, none⟩), .string (bs s), .int .i64 (k : Int)] w Q := by
  have H := Lib.hid hQ
  have hle := h.le
  have hlen := h.len
  obtain ⟨c0, c1, _, c3, _, _, _⟩ := h.cell
  obtain ⟨p, hp⟩ : ∃ p, p = xs.length - ts.length := ⟨_, rfl⟩
  have p0 : (0 : Int) ≤ (p : Int) := by omega
  have k0 : (0 : Int) ≤ (k : Int) := by omega
  have e1 : IntKind.i64.wrap ((p : Int) + (k : Int)) = ((p + k : Nat) : Int) := by rw [IntWalk.i64_in _ (by omega)]; omega
  have hs1 := bs_tlp s
  rw [← hp] at c1
  clear hQ
  cases bad with
  | true =>
    obtain ⟨ao, cap, rfl, _, _, _⟩ := h.toks
    clear h hle hlen hp
    go_enter Tryz.func105, Tryz.ntmps105
    go_wp2_with fail
    exact H.out
  | false =>
    by_cases hlt : k < ts.length
    · obtain ⟨b, off, cap, kd, c, rfl, hne, d0, d1, d2, _, _, _⟩ := h.token k hlt
      rw [← hp] at d0 d1 d2
      have hi : ((p + k : Nat) : Int) < (xs.length : Int) := by omega
      have hg : (ts[k]? == some s) = (ts[k] == s) := by rw [List.getElem?_eq_getElem hlt]; rfl
      rw [hg] at H
      generalize ts[k] = u at *
      have hs2 := bs_tlp u
      obtain ⟨q, hq⟩ : ∃ q, q = (u == s) := ⟨_, rfl⟩
      have hq' := hq.symm
      rw [← hq] at H
      clear h hle hlen hp hlt hg hq
      go_enter Tryz.func105, Tryz.ntmps105
      go_wp2_with fail
      exact H.out
    · obtain ⟨ao, cap, rfl, _, _, _⟩ := h.toks
      have hi : (xs.length : Int) ≤ ((p + k : Nat) : Int) := by omega
      have hg : (ts[k]? == some s) = false := by rw [List.getElem?_eq_none (by omega)]; rfl
      rw [hg] at H
      clear h hle hlen hp hlt hg
      go_enter Tryz.func105, Tryz.ntmps105
      go_wp2_with fail
      exact H.out
end Go.Proofs.YtcldcigopkfmmaaGreatDoor
