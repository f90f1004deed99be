/- Trees, as the document has them: the reader: several nodes, between commas. -/
import Derived.Test.YtcldcigopkfmmaaGreatDoorRrNumQ
import Derived.Test.YtcldcigopkfmmaaGreatDoorTrD3
namespace Go.Proofs.YtcldcigopkfmmaaGreatDoor
open Go.RowKit Go.My Go.Nd

/-- A function of the reader that reads a node, asked where so many tokens are left at most. -/
def RReads (fn : FuncId) (rb : Nat) (tv : Value) (xs : List To.T) (inn : Bool) (n : Nat) (read : List Tx → R Nd) : Prop :=
  ∀ (w : World) (ts : List Tx) (bad : Bool), ts.length ≤ n → Rr w rb tv xs ts inn bad → Calls Tryz.prog fn #[.pointer (some ⟨rb, 0, none⟩)] w (GotR w rb tv xs inn (gate bad ts (read ts)))

/-- What a call that reads nodes does. -/
def GotLR (w : World) (rb : Nat) (tv : Value) (xs : List To.T) (inn : Bool) (r : R (List Nd)) (e : Ending) (w' : World) : Prop :=
  Step w w' (some rb) ∧ Rr w' rb tv xs r.rest inn r.isBad ∧ ∃ v l, e = .returned v ∧ LR w' TN w.heap.size w'.heap.size v (Ns.of l) ∧ r.Is l

/-- At the head of a round. -/
structure RevSt (w : World) (rb : Nat) (tv : Value) (xs : List To.T) (inn : Bool) (n m : Nat) (fin : Tx) (read : List Tx → R Nd) (tot : R (List Nd)) (l : List Nd) (ts : List Tx) (bad : Bool) (v : Value) (wr : World) : Prop where
  plain : tot = gate bad ts (((read ts).then_ fun x r => (sevTail fin read r).map (x :: ·)).map (l ++ ·))
  len : ts.length ≤ n
  many : bad = false → l.length + ts.length ≤ m
  step : Step w wr (some rb)
  rd : Rr wr rb tv xs ts inn bad
  list : LR wr TN w.heap.size wr.heap.size v (Ns.of l)
def RevAt (w : World) (rb : Nat) (tv : Value) (xs : List To.T) (inn : Bool) (n m : Nat) (fin : Tx) (read : List Tx → R Nd) (tot : R (List Nd)) (gk : Nat) (v : Value) (wr : World) : Prop :=
  ∃ l ts bad, gk = (if bad then 0 else ts.length + 1) ∧ RevSt w rb tv xs inn n m fin read tot l ts bad v wr

theorem R.rest_down {α : Type} {x : R α} {ts : List Tx} (h : x.Down ts) : x.rest.length ≤ ts.length := by
  cases x with
  | ok a r => exact Nat.le_of_lt h.2
  | bad r => exact List.IsSuffix.length_le h
theorem No.gate {r : R Nd} {s : Tx} (h : ∀ x q, r = .ok x q → q.head? ≠ some s) : No r.isBad r.rest s := by
  cases r with
  | ok x q => exact No.head (h x q rfl) _
  | bad q => rfl

set_option maxRecDepth 100000 in
set_option maxHeartbeats 8000000 in
theorem rsev_t {rb : Nat} {tv : Value} {xs : List To.T} {inn : Bool} {n : Nat} {read : List Tx → R Nd} (hread : RReads 109 rb tv xs inn n read) (hd : ∀ ts, (read ts).Down ts) (fin : Tx) (hf : fin ≠ [44]) {w : World} {ts : List Tx} {bad : Bool} (hn : ts.length ≤ n) (h : Rr w rb tv xs ts inn bad) :
    Calls Tryz.prog 184 #[.pointer (some ⟨rb, 0, none⟩), .string (bs fin)] w (GotLR w rb tv xs inn (gate bad ts (several fin read ts))) := by
  have hrb := h.lt
  have hle := h.le
  have hlen := h.len
  have H := Lib.hid (And.intro h (And.intro hn (And.intro hrb (And.intro hle hlen))))
  have HR := Lib.hid (And.intro hread hd)
  have HF := Lib.hid hf
  clear h hn hread hd hrb hle hlen hf
  go_enter Tryz.func184, Tryz.ntmps184
  go_wp2_with fail
  by_cases hh : bad = false ∧ ts.head? = some fin
  · obtain ⟨rfl, hh⟩ := hh
    obtain ⟨r, rfl⟩ := head_form hh
    refine tk_yes H.out.1 fun w1 hs1 h1 => ?_
    have X1 := Lib.hid (And.intro hs1 h1)
    clear hs1 h1 hh
    go_wp2_with fail
    go_ret
    rw [gate_ok, several_none]
    exact ⟨X1.out.1, X1.out.2, _, [], rfl, LR.nil _ _ _ _, R.Is.ok _ _⟩
  · have hno : No bad ts fin := by
      cases bad with
      | true => rfl
      | false => exact No.head (fun e => hh ⟨rfl, e⟩) _
    have htot : gate bad ts (several fin read ts) = gate bad ts (((read ts).then_ fun x r => (sevTail fin read r).map (x :: ·)).map ([] ++ ·)) := by
      cases bad with
      | true => rfl
      | false =>
        rw [gate_ok, gate_ok, several_first HR.out.2 ts (fun e => hh ⟨rfl, e⟩)]
        rw [show (fun (x : List Nd) => [] ++ x) = id from funext fun x => List.nil_append x]
        generalize (read ts).then_ (fun x r => (sevTail fin read r).map (x :: ·)) = z
        cases z <;> rfl
    obtain ⟨tot, ht⟩ : ∃ tot, tot = gate bad ts (several fin read ts) := ⟨_, rfl⟩
    rw [← ht] at htot ⊢
    have HT := Lib.hid htot
    have HN := Lib.hid hno
    have HTT := Lib.hid ht
    clear hh hno htot ht
    refine tk_no H.out.1 fin HN.out ?_
    go_wp2_with fail
    go_loopg [5] (if bad then 0 else ts.length + 1) (fun gk v6 wr => RevAt w rb tv xs inn n ts.length fin read tot gk v6 wr)
    case atStart => exact ⟨[], ts, bad, rfl, HT.out, H.out.2.1, (fun _ => by simp), Step.refl _ _, H.out.1, LR.nil _ _ _ _⟩
    case round =>
      obtain ⟨l, ts1, bad1, rfl, hst⟩ := hrel
      obtain ⟨lo1, lc1, rfl⟩ := hst.list.form
      obtain ⟨_, _, _, c3, _, _, _⟩ := hst.rd.cell
      have HS := Lib.hid hst
      clear hst
      cases bad1 with
      | true =>
        go_wp2_with fail
        go_ret
        rw [← HTT.out, HS.out.plain, gate_bad]
        exact ⟨HS.out.step, HS.out.rd, _, l, rfl, HS.out.list, R.Is.bad _ _⟩
      | false =>
        go_wp2_with fail
        refine (HR.out.1 wr ts1 false HS.out.len HS.out.rd).mono ?_
        rintro e w1 ⟨hs1, h1, v, x, rfl, hN, hi⟩
        obtain ⟨r1, hr1⟩ : ∃ r1, r1 = read ts1 := ⟨_, rfl⟩
        rw [gate_ok, ← hr1] at h1 hi
        obtain ⟨a1, d1, a2, d2, a3, d3, rfl⟩ := hN.form
        have hA := Put.new w1 #[.int .u8 (x.kind : Int), .string (tx x.text), .slice a1 x.l.len d1, .slice a2 x.body.len d2, .slice a3 x.els.len d3] TN
        have hN2 := hN.later hA.1 (Nat.le_refl _)
        have hL2 := (LR.stepped HS.out.list hs1 H.out.2.2.1 (Nat.le_refl _)).later hA.1 hs1.size
        have X1 := Lib.hid (And.intro hs1 (And.intro h1 (And.intro hi (And.intro hA (And.intro hN2 hL2)))))
        have hm : (l.length + 1) * 96 ≤ 140737488351232 := by have := HS.out.many rfl; have := H.out.2.2.2.1; have := H.out.2.2.2.2; omega
        have HM := Lib.hid (And.intro hm hr1)
        rw [Ns.len_of]
        clear hs1 h1 hi hA hN hN2 hL2 hm hr1
        go_wp2_with (at_builtin; refine wpList_node _ rfl (.tmp 14) (.tmp 17) rfl nodeEl (v := .slice lo1 l.length lc1) (l := l) (lo := w.heap.size) (hi := wr.heap.size) (hi2 := w1.heap.size) rfl (by have := X1.out.2.2.2.2.2; rw [Ns.len_of] at this; exact this) X1.out.2.2.2.2.1 (y := .slice (some ⟨w1.heap.size, 0, none⟩) 1 1) rfl (Src.lit #[.int .u8 (x.kind : Int), .string (tx x.text), .slice a1 x.l.len d1, .slice a2 x.body.len d2, .slice a3 x.els.len d3] TN rfl rfl) HS.out.step.size X1.out.1.size (by rw [X1.out.2.2.2.1.2.2]; omega) HM.out.1 ?_; intro ao cp w3 hL hB; have X3 := Lib.hid (And.intro hL hB); clear hL hB)
        have h3 : Rr w3 rb tv xs r1.rest inn r1.isBad := (X1.out.2.1.later X1.out.2.2.2.1.1).keep X3.out.2.size fun k hk => X3.out.2.block k (by have := H.out.2.2.1; omega)
        have st3 : Step w w3 (some rb) := by
          have s2 := (HS.out.step.trans X1.out.1).trans (Step.of_below (row := some rb) X1.out.2.2.2.1.1)
          have hB := X3.out.2
          exact ⟨hB.os.trans s2.os, hB.tape.trans s2.tape, hB.output.trans s2.output, Nat.le_trans s2.size hB.size, fun k hk hk' => (hB.block k hk).trans (s2.block k hk hk')⟩
        have X4 := Lib.hid (And.intro h3 (And.intro st3 (And.intro X3.out.1 (And.intro X1.out.2.2.1 (show r1.Down ts1 from HM.out.2 ▸ HR.out.2 ts1)))))
        have htot : tot = (r1.then_ fun x r => (sevTail fin read r).map (x :: ·)).map (l ++ ·) := by rw [HS.out.plain, gate_ok, ← HM.out.2]
        have HP := Lib.hid htot
        clear h3 st3 X3 X1 htot
        by_cases k1 : ∃ q, r1 = .ok x (fin :: q)
        · obtain ⟨q, rfl⟩ := k1
          refine tk_yes (show Rr w3 rb tv xs (fin :: q) inn false from X4.out.1) fun w4 hs4 h4 => ?_
          have X5 := Lib.hid (And.intro hs4 h4)
          clear hs4 h4
          go_wp2_with fail
          go_ret
          rw [← HTT.out, HP.out]
          rw [show ((R.ok x (fin :: q)).then_ fun x r => (sevTail fin read r).map (x :: ·)).map (l ++ ·) = .ok (l ++ [x]) q by
            show R.map _ (R.map _ (sevTail fin read (fin :: q))) = _
            rw [show sevTail fin read (fin :: q) = .ok [] q by unfold sevTail; simp only; rw [if_pos trivial]]
            rfl]
          refine ⟨X4.out.2.1.trans X5.out.1, X5.out.2, _, l ++ [x], rfl, ?_, R.Is.ok _ _⟩
          have hL := LR.mono (LR.stepped X4.out.2.2.1 X5.out.1 H.out.2.2.1 (Nat.le_refl _)) (Nat.le_refl _) X5.out.1.size
          exact hL
        · by_cases k2 : ∃ q, r1 = .ok x ([44] :: q)
          · obtain ⟨q, rfl⟩ := k2
            refine tk_no (show Rr w3 rb tv xs ([44] :: q) inn false from X4.out.1) fin (No.head (by simpa using fun e => HF.out e.symm) _) ?_
            clear k1
            go_wp2_with fail
            refine mu_yes (show Rr w3 rb tv xs ([44] :: q) inn false from X4.out.1) fun w4 hs4 h4 => ?_
            have X5 := Lib.hid (And.intro hs4 h4)
            clear hs4 h4
            go_wp2_with fail
            go_roundg (if false = true then 0 else q.length + 1)
            case measure => have := X4.out.2.2.2.2.2; simp at this ⊢; omega
            case rel =>
              have hq := X4.out.2.2.2.2.2
              rw [List.length_cons] at hq
              have h1 := HS.out.len
              have h2 := HS.out.many rfl
              refine ⟨l ++ [x], q, false, rfl, ?_, by omega, fun _ => by rw [List.length_append, List.length_singleton]; omega, X4.out.2.1.trans X5.out.1, X5.out.2, LR.mono (LR.stepped X4.out.2.2.1 X5.out.1 H.out.2.2.1 (Nat.le_refl _)) (Nat.le_refl _) X5.out.1.size⟩
              rw [gate_ok, HP.out]
              show R.map _ (R.map _ (sevTail fin read ([44] :: q))) = _
              rw [sevTail_comma HR.out.2 HF.out, R.map_map]
              congr 1
              funext a
              simp
          · have hne1 : ∀ y q, r1 = .ok y q → q.head? ≠ some fin := fun y q e hh => by
              obtain ⟨q', rfl⟩ := head_form hh
              obtain rfl := X4.out.2.2.2.1 y _ e
              exact k1 ⟨q', e⟩
            have hne2 : ∀ y q, r1 = .ok y q → q.head? ≠ some [44] := fun y q e hh => by
              obtain ⟨q', rfl⟩ := head_form hh
              obtain rfl := X4.out.2.2.2.1 y _ e
              exact k2 ⟨q', e⟩
            have HN2 := Lib.hid (And.intro hne1 hne2)
            clear k1 k2 hne1 hne2
            refine tk_no X4.out.1 fin (No.gate HN2.out.1) ?_
            go_wp2_with fail
            refine mu_no X4.out.1 [44] (No.gate HN2.out.2) fun w4 hs4 h4 => ?_
            have X5 := Lib.hid (And.intro hs4 h4)
            clear hs4 h4
            go_wp2_with fail
            go_roundg (if true = true then 0 else r1.rest.length + 1)
            case measure => simp
            case rel =>
              have h1 := HS.out.len
              refine ⟨l ++ [x], r1.rest, true, rfl, ?_, Nat.le_trans (R.rest_down X4.out.2.2.2.2) h1, (fun e => by cases e), X4.out.2.1.trans X5.out.1, X5.out.2, LR.mono (LR.stepped X4.out.2.2.1 X5.out.1 H.out.2.2.1 (Nat.le_refl _)) (Nat.le_refl _) X5.out.1.size⟩
              rw [gate_bad, HP.out]
              cases hr : r1 with
              | ok y q => show R.map _ (R.map _ (sevTail fin read q)) = _; rw [sevTail_bad q (HN2.out.1 y q hr) (HN2.out.2 y q hr)]; rfl
              | bad q => rfl
end Go.Proofs.YtcldcigopkfmmaaGreatDoor
