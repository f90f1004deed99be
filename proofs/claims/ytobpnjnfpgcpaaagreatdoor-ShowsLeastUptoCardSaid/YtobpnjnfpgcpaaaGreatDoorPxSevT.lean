/- Trees: the reader: several nodes, between commas. -/
import Derived.Test.YtobpnjnfpgcpaaaGreatDoorPxExprT
namespace Go.Proofs.YtobpnjnfpgcpaaaGreatDoor
open Go.RowKit Go.My Go.Nd

theorem nodeEl : Elem Tryz.prog 23 39 5 96 (.agg #[.int .u8 0, .string ⟨#[]⟩, .slice none 0 0, .slice none 0 0, .slice none 0 0]) := Elem.mk' Tryz.underlying23 (by kernel_rfl) rfl (by decide)

/-- What a call that reads nodes does. -/
def GotL (w : World) (rb : Nat) (tv : Value) (xs : List To.T) (inn : Bool) (r : R (List Nd)) (e : Ending) (w' : World) : Prop :=
  Step w w' (some rb) ∧ Rd w' rb tv xs r.rest inn ∧ match r with | .ok l _ => ∃ v, e = .returned v ∧ LR w' TN w.heap.size w'.heap.size v (Ns.of l) | .bad _ => e = .panicked wrongChain

structure SevSt (w : World) (rb : Nat) (tv : Value) (xs : List To.T) (inn : Bool) (n m : Nat) (fin : Tx) (read : List Tx → R Nd) (tot : R (List Nd)) (l : List Nd) (ts : List Tx) (v : Value) (wr : World) : Prop where
  plain : (sevTail fin read ts).map (l ++ ·) = tot
  len : ts.length ≤ n
  many : l.length + ts.length ≤ m
  step : Step w wr (some rb)
  rd : Rd wr rb tv xs ts inn
  list : LR wr TN w.heap.size wr.heap.size v (Ns.of l)
def SevAt (w : World) (rb : Nat) (tv : Value) (xs : List To.T) (inn : Bool) (n m : Nat) (fin : Tx) (read : List Tx → R Nd) (tot : R (List Nd)) (gk : Nat) (v : Value) (wr : World) : Prop :=
  ∃ l ts, gk = ts.length ∧ SevSt w rb tv xs inn n m fin read tot l ts v wr

theorem LR.stepped {w0 w w' : World} {rb hi : Nat} {v : Value} {l : Ns} (h : LR w TN w0.heap.size hi v l) (hs : Step w w' (some rb)) (hrb : rb < w0.heap.size) (hh : hi ≤ w.heap.size) : LR w' TN w0.heap.size hi v l :=
  LR.frame h fun b h1 h2 => hs.kept (by omega) (by omega)
theorem sevTail_bad {α : Type} {fin : Tx} {read : List Tx → R α} (ts : List Tx) (h1 : ts.head? ≠ some fin) (h2 : ts.head? ≠ some [44]) : sevTail fin read ts = .bad ts := by
  cases ts with
  | nil => rfl
  | cons s r => unfold sevTail; simp only; rw [if_neg (by intro e; subst e; exact h1 rfl), if_neg (by intro e; subst e; exact h2 rfl)]
theorem head_form {s : Tx} {ts : List Tx} (h : ts.head? = some s) : ∃ r, ts = s :: r := by
  cases ts with
  | nil => cases h
  | cons a r => simp at h; subst h; exact ⟨r, rfl⟩

/-- A node appended to a list of the call's own. -/
theorem SevSt.more {w : World} {rb : Nat} {tv : Value} {xs : List To.T} {inn : Bool} {n m : Nat} {fin : Tx} {read : List Tx → R Nd} {tot : R (List Nd)} {l : List Nd} {r q : List Tx} {x : Nd} {v v' : Value} {wr w4 w6 : World} (h : SevSt w rb tv xs inn n m fin read tot l ([44] :: r) v wr) (hd : ∀ ts, (read ts).Down ts) (hf : fin ≠ [44])
    (s4 : Step wr w4 (some rb)) (hrd : read r = .ok x q) (h4 : Rd w4 rb tv xs q inn) (hrb : rb < w.heap.size) (hb : Below w.heap.size w4 w6) (hL : LR w6 TN w.heap.size w6.heap.size v' (Ns.of (l ++ [x]))) : SevSt w rb tv xs inn n m fin read tot (l ++ [x]) q v' w6 := by
  have hq := (hd r).lt hrd
  have h1 := h.len
  have h2 := h.many
  rw [List.length_cons] at h1 h2
  have st6 : Step w w6 (some rb) := ⟨hb.os.trans (s4.os.trans h.step.os), hb.tape.trans (s4.tape.trans h.step.tape), hb.output.trans (s4.output.trans h.step.output), Nat.le_trans h.step.size (Nat.le_trans s4.size hb.size), fun k hk hk' => (hb.block k hk).trans ((s4.block k (Nat.lt_of_lt_of_le hk h.step.size) hk').trans (h.step.block k hk hk'))⟩
  refine ⟨?_, by omega, by rw [List.length_append, List.length_singleton]; omega, st6, h4.keep hb.size fun k hk => hb.block k (by omega), hL⟩
  rw [← h.plain, sevTail_comma hd hf, hrd]
  show _ = R.map _ (R.map _ _)
  rw [R.map_map]
  congr 1
  funext a
  simp

set_option maxRecDepth 100000 in
set_option maxHeartbeats 4000000 in
theorem sevn_t {fn : FuncId} {first cap : Array Value} {rb : Nat} {tv : Value} {xs : List To.T} {inn : Bool} {n : Nat} {read : List Tx → R Nd} (hcf : ∀ (wx : World), (callFunc fn (first ++ cap)).run Tryz.prog wx = .ok (.enter fn (first ++ cap)) wx)
    (hread : Reads fn (first ++ cap) rb tv xs inn (fun _ => True) n read) (hd : ∀ ts, (read ts).Down ts) (fin : Tx) (hfin : fin ≠ []) (hf : fin ≠ [44]) {w : World} {ts : List Tx} (hn : ts.length ≤ n) (h : Rd w rb tv xs ts inn) :
    Calls Tryz.prog 154 #[.pointer (some ⟨rb, 0, none⟩), .string (bs fin), .func (.func fn) first cap] w (GotL w rb tv xs inn (several fin read ts)) := by
  have hrb := h.lt
  have hle := h.le
  have hlen := h.len
  have H := Lib.hid (And.intro h (And.intro hn (And.intro hrb (And.intro hle hlen))))
  have HR := Lib.hid (And.intro hread hd)
  have HF := Lib.hid (And.intro hfin hf)
  clear h hn hread hd hrb hle hlen hfin hf
  go_enter Tryz.func154, Tryz.ntmps154
  go_wp2_with fail
  by_cases hh : ts.head? = some fin
  · obtain ⟨r, rfl⟩ := head_form hh
    refine takes_yes H.out.1 HF.out.1 fun w1 hs1 h1 => ?_
    have X1 := Lib.hid (And.intro hs1 h1)
    clear hs1 h1 hh
    go_wp2_with fail
    go_ret
    rw [several_none]
    exact ⟨X1.out.1, X1.out.2, _, rfl, LR.nil _ _ _ _⟩
  · refine takes_no H.out.1 fin HF.out.1 hh fun w1 hb1 => ?_
    have HH := Lib.hid hh
    have X1 := Lib.hid hb1
    clear hh hb1
    go_wp2_with fail
    refine (HR.out.1 w1 ts H.out.2.1 trivial (H.out.1.later X1.out)).mono ?_
    rintro e w2 ⟨hs2, h2, hres⟩
    cases hrd : read ts with
    | bad r =>
      rw [hrd] at hres h2
      subst hres
      go_wp2_with fail
      refine ⟨rfl, ?_⟩
      rw [several_first HR.out.2 ts HH.out, hrd]
      exact ⟨(Step.of_below X1.out).trans hs2, h2, rfl⟩
    | ok x r =>
      rw [hrd] at hres h2
      obtain ⟨v, rfl, hN⟩ := hres
      obtain ⟨a1, d1, a2, d2, a3, d3, rfl⟩ := hN.form
      have X2 := Lib.hid (And.intro hs2 (And.intro h2 (And.intro hN hrd)))
      clear hs2 h2 hN hrd
      have hA := (Put.new w2 #[.int .u8 (x.kind : Int), .string (tx x.text), .slice a1 x.l.len d1, .slice a2 x.body.len d2, .slice a3 x.els.len d3] TN)
      have hN4 := X2.out.2.2.1.later hA.1 (Nat.le_refl _)
      have HN4 := Lib.hid (And.intro hN4 hA)
      clear hN4 hA
      go_wp2_with (at_builtin; refine wpList_node _ rfl (.tmp 10) (.tmp 13) rfl nodeEl (v := .slice none 0 0) (l := []) (lo := w.heap.size) (hi := w1.heap.size) (hi2 := w2.heap.size) rfl (LR.nil _ _ _ _) HN4.out.1 (y := .slice (some ⟨w2.heap.size, 0, none⟩) 1 1) rfl (Src.lit #[.int .u8 (x.kind : Int), .string (tx x.text), .slice a1 x.l.len d1, .slice a2 x.body.len d2, .slice a3 x.els.len d3] TN rfl rfl) X1.out.size X2.out.1.size (by rw [HN4.out.2.2.2]; omega) (by decide) ?_; intro ao cp w3 hL hB; have X3 := Lib.hid (And.intro hL hB); clear hL hB)
      have hst : SevSt w rb tv xs inn n ts.length fin read (several fin read ts) [x] r (.slice ao 1 cp) w3 := by
        have hq := (HR.out.2 ts).lt X2.out.2.2.2
        have z1 := X1.out.size
        have z2 := X2.out.1.size
        have hrb := H.out.2.2.1
        have hB' := X3.out.2
        have zA := HN4.out.2.2.2
        refine ⟨?_, by have := H.out.2.1; omega, by simp; omega, ?_, ((X2.out.2.1.later HN4.out.2.1).keep hB'.size fun k hk => hB'.block k (by omega)), X3.out.1⟩
        · rw [several_first HR.out.2 ts HH.out, X2.out.2.2.2]; rfl
        · have s2 := ((Step.of_below (row := some rb) X1.out).trans X2.out.1).trans (Step.of_below HN4.out.2.1)
          exact ⟨hB'.os.trans s2.os, hB'.tape.trans s2.tape, hB'.output.trans s2.output, Nat.le_trans s2.size hB'.size, fun k hk hk' => (hB'.block k hk).trans (s2.block k hk hk')⟩
      have HS := Lib.hid hst
      clear hst X3 HN4 X2 X1 HH
      go_loopg [6] r.length (fun gk v6 wr => SevAt w rb tv xs inn n ts.length fin read (several fin read ts) gk v6 wr)
      case atStart => exact ⟨[x], r, rfl, HS.out⟩
      case round =>
        obtain ⟨l, ts1, rfl, hst⟩ := hrel
        obtain ⟨lo1, lc1, rfl⟩ := hst.list.form
        have HT := Lib.hid hst
        clear hst HS
        go_wp2_with fail
        by_cases hh : ts1.head? = some fin
        · obtain ⟨r1, rfl⟩ := head_form hh
          refine takes_yes HT.out.rd HF.out.1 fun w4 hs4 h4 => ?_
          have X4 := Lib.hid (And.intro hs4 h4)
          clear hs4 h4 hh
          go_wp2_with fail
          go_ret
          have hpl := HT.out.plain
          rw [show sevTail fin read (fin :: r1) = .ok [] r1 by unfold sevTail; simp only; rw [if_pos trivial]] at hpl
          rw [← hpl]
          show GotL w rb tv xs inn (.ok (l ++ []) r1) _ _
          rw [List.append_nil]
          exact ⟨HT.out.step.trans X4.out.1, X4.out.2, _, rfl, LR.mono (LR.stepped HT.out.list X4.out.1 H.out.2.2.1 (Nat.le_refl _)) (Nat.le_refl _) X4.out.1.size⟩
        · refine takes_no HT.out.rd fin HF.out.1 hh fun w4 hb4 => ?_
          have HH := Lib.hid hh
          have X4 := Lib.hid hb4
          clear hh hb4
          go_wp2_with fail
          by_cases hc : ts1.head? = some [44]
          · obtain ⟨r1, rfl⟩ := head_form hc
            refine takes_yes (HT.out.rd.later X4.out) (by decide) fun w5 hs5 h5 => ?_
            have X5 := Lib.hid (And.intro hs5 h5)
            clear hs5 h5 hc
            go_wp2_with (refine must_yes ?_)
            have hn1 : r1.length ≤ n := by have := HT.out.len; rw [List.length_cons] at this; omega
            refine (HR.out.1 w5 r1 hn1 trivial X5.out.2).mono ?_
            rintro e w6 ⟨hs6, h6, hres⟩
            have st6 := ((Step.of_below (row := some rb) X4.out).trans X5.out.1).trans hs6
            cases hrd : read r1 with
            | bad q =>
              rw [hrd] at hres h6
              subst hres
              have X6 := Lib.hid (And.intro st6 (And.intro h6 hrd))
              clear st6 h6 hs6 hrd hn1
              go_wp2_with fail
              refine ⟨rfl, ?_⟩
              rw [← HT.out.plain, sevTail_comma HR.out.2 HF.out.2, X6.out.2.2]
              exact ⟨HT.out.step.trans X6.out.1, X6.out.2.1, rfl⟩
            | ok y q =>
              rw [hrd] at hres h6
              obtain ⟨vy, rfl, hN⟩ := hres
              obtain ⟨o1, e1, o2, e2, o3, e3, rfl⟩ := hN.form
              have hA := (Put.new w6 #[.int .u8 (y.kind : Int), .string (tx y.text), .slice o1 y.l.len e1, .slice o2 y.body.len e2, .slice o3 y.els.len e3] TN)
              have hN7 := hN.later hA.1 (Nat.le_refl _)
              have hL7 := (LR.stepped HT.out.list st6 H.out.2.2.1 (Nat.le_refl _)).later hA.1 st6.size
              have hz6 : wr.heap.size ≤ w5.heap.size := Nat.le_trans X4.out.size X5.out.1.size
              have X6 := Lib.hid (And.intro st6 (And.intro h6 (And.intro hrd (And.intro hA (And.intro hN7 (And.intro hL7 (And.intro hz6 hs6)))))))
              have hm : (l.length + 1) * 96 ≤ 140737488351232 := by have := HT.out.many; have := H.out.2.2.2.1; have := H.out.2.2.2.2; rw [List.length_cons] at *; omega
              have HM := Lib.hid hm
              rw [Ns.len_of]
              clear st6 h6 hs6 hrd hn1 hN hA hN7 hL7 hz6 hm
              go_wp2_with (at_builtin; refine wpList_node _ rfl (.tmp 19) (.tmp 22) rfl nodeEl (v := .slice lo1 l.length lc1) (l := l) (lo := w.heap.size) (hi := wr.heap.size) (hi2 := w6.heap.size) rfl (by have := X6.out.2.2.2.2.2.1; rw [Ns.len_of] at this; exact this) (X6.out.2.2.2.2.1.mono X6.out.2.2.2.2.2.2.1 (Nat.le_refl _)) (y := .slice (some ⟨w6.heap.size, 0, none⟩) 1 1) rfl (Src.lit #[.int .u8 (y.kind : Int), .string (tx y.text), .slice o1 y.l.len e1, .slice o2 y.body.len e2, .slice o3 y.els.len e3] TN rfl rfl) HT.out.step.size X6.out.1.size (by rw [X6.out.2.2.2.1.2.2]; omega) HM.out ?_; intro ao cp w7 hL hB; have X7 := Lib.hid (And.intro hL hB); clear hL hB)
              go_roundg q.length
              case measure => have := (HR.out.2 r1).lt X6.out.2.2.1; rw [List.length_cons]; omega
              case rel => exact ⟨l ++ [y], q, rfl, HT.out.more HR.out.2 HF.out.2 X6.out.1 X6.out.2.2.1 X6.out.2.1 H.out.2.2.1 ((X6.out.2.2.2.1.1.mono (Nat.le_trans HT.out.step.size X6.out.1.size)).trans X7.out.2) X7.out.1⟩
          · refine takes_no (HT.out.rd.later X4.out) [44] (by decide) hc fun w5 hb5 => ?_
            have X5 := Lib.hid (And.intro hc hb5)
            clear hc hb5
            go_wp2_with (refine must_no ?_)
            refine ⟨rfl, ?_⟩
            rw [← HT.out.plain, sevTail_bad ts1 HH.out X5.out.1]
            exact ⟨HT.out.step.trans (Step.of_below (X4.out.trans (X5.out.2.mono X4.out.size))), (HT.out.rd.later X4.out).later X5.out.2, rfl⟩
end Go.Proofs.YtobpnjnfpgcpaaaGreatDoor
