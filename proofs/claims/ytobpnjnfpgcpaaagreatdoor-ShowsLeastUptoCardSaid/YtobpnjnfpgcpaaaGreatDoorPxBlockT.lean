/- Trees: the reader: a block of statements. -/
import Derived.Test.YtobpnjnfpgcpaaaGreatDoorPxEndsT
namespace Go.Proofs.YtobpnjnfpgcpaaaGreatDoor
open Go.RowKit Go.My Go.Nd

structure BlkSt (w : World) (rb : Nat) (tv : Value) (xs : List To.T) (inn : Bool) (n m : Nat) (tail : List Tx → R (List Nd)) (tot : R (List Nd)) (l : List Nd) (ts : List Tx) (v : Value) (wr : World) : Prop where
  plain : (tail ts).map (l ++ ·) = tot
  len : ts.length ≤ n
  many : l.length + ts.length ≤ m
  step : Step w wr (some rb)
  rd : Rd wr rb tv xs ts inn
  list : LR wr TN w.heap.size wr.heap.size v (Ns.of l)
def BlkAt (w : World) (rb : Nat) (tv : Value) (xs : List To.T) (inn : Bool) (n m : Nat) (tail : List Tx → R (List Nd)) (tot : R (List Nd)) (gk : Nat) (v : Value) (wr : World) : Prop :=
  ∃ l ts, gk = ts.length ∧ BlkSt w rb tv xs inn n m tail tot l ts v wr

/-- A node appended to a list of the call's own. -/
theorem BlkSt.more {w : World} {rb : Nat} {tv : Value} {xs : List To.T} {inn : Bool} {n m : Nat} {tail : List Tx → R (List Nd)} {tot : R (List Nd)} {l : List Nd} {r q : List Tx} {x : Nd} {v v' : Value} {wr w4 w6 : World} (h : BlkSt w rb tv xs inn n m tail tot l r v wr) (htl : tail r = (tail q).map (x :: ·)) (hq : q.length < r.length)
    (s4 : Step wr w4 (some rb)) (h4 : Rd w4 rb tv xs q inn) (hrb : rb < w.heap.size) (hb : Below w.heap.size w4 w6) (hL : LR w6 TN w.heap.size w6.heap.size v' (Ns.of (l ++ [x]))) : BlkSt w rb tv xs inn n m tail tot (l ++ [x]) q v' w6 := by
  have h1 := h.len
  have h2 := h.many
  have st6 : Step w w6 (some rb) := ⟨hb.os.trans (s4.os.trans h.step.os), hb.tape.trans (s4.tape.trans h.step.tape), hb.output.trans (s4.output.trans h.step.output), Nat.le_trans h.step.size (Nat.le_trans s4.size hb.size), fun k hk hk' => (hb.block k hk).trans ((s4.block k (Nat.lt_of_lt_of_le hk h.step.size) hk').trans (h.step.block k hk hk'))⟩
  refine ⟨?_, by omega, by rw [List.length_append, List.length_singleton]; omega, st6, h4.keep hb.size fun k hk => hb.block k (by omega), hL⟩
  rw [← h.plain, htl, R.map_map]
  congr 1
  funext a
  simp

theorem block_no {st : List Tx → R Nd} (ts : List Tx) (h : ts.head? ≠ some [123]) : block st ts = .bad ts := by
  cases ts with
  | nil => rfl
  | cons s r => unfold block; simp only; rw [if_neg (by intro e; subst e; exact h rfl)]
theorem block_yes {st : List Tx → R Nd} (r : List Tx) : block st ([123] :: r) = stmtsT st r := by unfold block; simp only; rw [if_pos trivial]; rfl
theorem stmtsT_none {st : List Tx → R Nd} (h : st [] = .bad []) : stmtsT st [] = .bad [] := by unfold stmtsT stmtsTo; simp only; rw [h]; rfl
theorem stm_none (inner : Bool) : stm inner [] = .bad [] := by rw [stm_nil]; rfl

set_option maxRecDepth 100000 in
set_option maxHeartbeats 4000000 in
theorem block_r {rb : Nat} {tv : Value} {xs : List To.T} {inn : Bool} {n : Nat} (hst : Reads 62 #[.pointer (some ⟨rb, 0, none⟩)] rb tv xs inn (fun _ => True) n (stm inn)) {w : World} {ts : List Tx} (hn : ts.length ≤ n + 1) (h : Rd w rb tv xs ts inn) :
    Calls Tryz.prog 95 #[.pointer (some ⟨rb, 0, none⟩)] w (GotL w rb tv xs inn (block (stm inn) ts)) := by
  have hrb := h.lt
  have hle := h.le
  have hlen := h.len
  have H := Lib.hid (And.intro h (And.intro hn (And.intro hrb (And.intro hle (And.intro hlen hst)))))
  clear h hn hst hrb hle hlen
  go_enter Tryz.func95, Tryz.ntmps95
  go_wp2_with fail
  by_cases hh : ts.head? = some [123]
  · obtain ⟨r, rfl⟩ := head_form hh
    refine takes_yes H.out.1 (by decide) fun w1 hs1 h1 => ?_
    have hst : BlkSt w rb tv xs inn n r.length (stmtsT (stm inn)) (stmtsT (stm inn) r) [] r (.slice none 0 0) w1 :=
      ⟨by cases stmtsT (stm inn) r <;> rfl, by have := H.out.2.1; rw [List.length_cons] at this; omega, by simp, hs1, h1, LR.nil _ _ _ _⟩
    have HS := Lib.hid hst
    have HL := Lib.hid (show r.length ≤ 65536 by have := H.out.2.2.2.1; have := H.out.2.2.2.2.1; rw [List.length_cons] at *; omega)
    clear hs1 h1 hh hst
    go_wp2_with (refine must_yes ?_)
    go_loopg [2] r.length (fun gk v2 wr => BlkAt w rb tv xs inn n r.length (stmtsT (stm inn)) (stmtsT (stm inn) r) gk v2 wr)
    case atStart => exact ⟨[], r, rfl, HS.out⟩
    case round =>
      obtain ⟨l, ts1, rfl, hst⟩ := hrel
      obtain ⟨lo1, lc1, rfl⟩ := hst.list.form
      have HT := Lib.hid hst
      clear hst HS
      go_wp2_with fail
      by_cases hh : ts1.head? = some [125]
      · obtain ⟨r1, rfl⟩ := head_form hh
        refine takes_yes HT.out.rd (by decide) fun w4 hs4 h4 => ?_
        have X4 := Lib.hid (And.intro hs4 h4)
        clear hs4 h4 hh
        go_wp2_with fail
        go_ret
        have hpl := HT.out.plain
        rw [stmtsT_end] at hpl
        rw [block_yes, ← hpl]
        show GotL w rb tv xs inn (.ok (l ++ []) r1) _ _
        rw [List.append_nil]
        exact ⟨HT.out.step.trans X4.out.1, X4.out.2, _, rfl, LR.mono (LR.stepped HT.out.list X4.out.1 H.out.2.2.1 (Nat.le_refl _)) (Nat.le_refl _) X4.out.1.size⟩
      · refine takes_no HT.out.rd [125] (by decide) hh fun w4 hb4 => ?_
        have HH := Lib.hid hh
        have X4 := Lib.hid hb4
        clear hh hb4
        go_wp2_with fail
        refine (H.out.2.2.2.2.2 w4 ts1 HT.out.len trivial (HT.out.rd.later X4.out)).mono ?_
        rintro e w6 ⟨hs6, h6, hres⟩
        have st6 := (Step.of_below (row := some rb) X4.out).trans hs6
        cases hrd : stm inn ts1 with
        | bad q =>
          rw [hrd] at hres h6
          subst hres
          have X6 := Lib.hid (And.intro st6 (And.intro h6 hrd))
          clear st6 h6 hs6 hrd
          go_wp2_with fail
          refine ⟨rfl, ?_⟩
          have hb : stmtsT (stm inn) ts1 = .bad q := by
            cases ts1 with
            | nil => rw [stmtsT_none (stm_none _)]; have := X6.out.2.2; rw [stm_none] at this; cases this; rfl
            | cons s r1 => rw [stmtsT_more (stm_down inn) _ HH.out (by simp), X6.out.2.2]; rfl
          rw [block_yes, ← HT.out.plain, hb]
          exact ⟨HT.out.step.trans X6.out.1, X6.out.2.1, rfl⟩
        | ok y q =>
          rw [hrd] at hres h6
          obtain ⟨vy, rfl, hN⟩ := hres
          obtain ⟨o1, e1, o2, e2, o3, e3, rfl⟩ := hN.form
          have hA := (Put.new w6 #[.int .u8 (y.kind : Int), .string (tx y.text), .slice o1 y.l.len e1, .slice o2 y.body.len e2, .slice o3 y.els.len e3] TN)
          have hN7 := hN.later hA.1 (Nat.le_refl _)
          have hL7 := (LR.stepped HT.out.list st6 H.out.2.2.1 (Nat.le_refl _)).later hA.1 st6.size
          have hq := (stm_down inn ts1).lt hrd
          have htl : stmtsT (stm inn) ts1 = (stmtsT (stm inn) q).map (y :: ·) := by
            rw [stmtsT_more (stm_down inn) _ HH.out (by intro e; subst e; simp at hq), hrd]; rfl
          have X6 := Lib.hid (And.intro st6 (And.intro h6 (And.intro htl (And.intro hA (And.intro hN7 (And.intro hL7 (And.intro X4.out.size (And.intro hs6 hq))))))))
          have hm : (l.length + 1) * 96 ≤ 140737488351232 := by have := HT.out.many; have := HL.out; omega
          have HM := Lib.hid hm
          rw [Ns.len_of]
          clear st6 h6 hs6 hrd hN hA hN7 hL7 hm htl hq
          go_wp2_with (at_builtin; refine wpList_node _ rfl (.tmp 9) (.tmp 12) rfl nodeEl (v := .slice lo1 l.length lc1) (l := l) (lo := w.heap.size) (hi := wr.heap.size) (hi2 := w6.heap.size) rfl (by have := X6.out.2.2.2.2.2.1; rw [Ns.len_of] at this; exact this) (X6.out.2.2.2.2.1.mono X6.out.2.2.2.2.2.2.1 (Nat.le_refl _)) (y := .slice (some ⟨w6.heap.size, 0, none⟩) 1 1) rfl (Src.lit #[.int .u8 (y.kind : Int), .string (tx y.text), .slice o1 y.l.len e1, .slice o2 y.body.len e2, .slice o3 y.els.len e3] TN rfl rfl) HT.out.step.size X6.out.1.size (by rw [X6.out.2.2.2.1.2.2]; omega) HM.out ?_; intro ao cp w7 hL hB; have X7 := Lib.hid (And.intro hL hB); clear hL hB)
          go_roundg q.length
          case measure => exact X6.out.2.2.2.2.2.2.2.2
          case rel => exact ⟨l ++ [y], q, rfl, HT.out.more X6.out.2.2.1 X6.out.2.2.2.2.2.2.2.2 X6.out.1 X6.out.2.1 H.out.2.2.1 ((X6.out.2.2.2.1.1.mono (Nat.le_trans HT.out.step.size X6.out.1.size)).trans X7.out.2) X7.out.1⟩
  · refine takes_no H.out.1 [123] (by decide) hh fun w1 hb1 => ?_
    have X1 := Lib.hid (And.intro hb1 hh)
    clear hh hb1
    go_wp2_with (refine must_no ?_)
    refine ⟨rfl, ?_⟩
    rw [block_no ts X1.out.2]
    exact ⟨Step.of_below X1.out.1, H.out.1.later X1.out.1, rfl⟩
end Go.Proofs.YtobpnjnfpgcpaaaGreatDoor
